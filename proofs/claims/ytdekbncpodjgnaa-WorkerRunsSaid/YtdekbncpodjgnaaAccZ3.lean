/-
  Contract of the reference's Add.
-/
import Derived.Test.YtdekbncpodjgnaaAccZ2
namespace Go.Proofs.Ytdekbncpodjgnaa
open Go.RowKit Runs Lagc Reg
set_option linter.unusedVariables false
set_option linter.unusedSimpArgs false

set_option maxRecDepth 20000 in
set_option maxHeartbeats 2000000 in
theorem refAdd_no (S N G L : Option Addr) (c1 c2 c3 c4 : Nat) (a : Acc) (l : List (Int × Int)) (p m : Int) (w : World) (hx : RA w S N G a) (hL : RL w L l) (l1 : a.s.length ≤ 140737488355328) (l2 : a.n.length ≤ 140737488355328) (l3 : a.g.length ≤ 140737488355328) (l4 : l.length ≤ 140737488355328) (ga : ∀ x ∈ a.g, -9223372036854775808 ≤ x.1 ∧ x.1 ≤ 9223372036854775807) (hp : -9223372036854775808 ≤ p ∧ p ≤ 9223372036854775807) (hm : -9223372036854775808 ≤ m ∧ m ≤ 9223372036854775807)
    (hno : ¬ (accErr a = 0 ∧ lagErr l = 0 ∧ addArg a l p m = false)) :
    Calls Try.prog 55 #[.agg #[.slice S a.s.length c1, .slice N a.n.length c2, .slice G a.g.length c3], .slice L l.length c4, .int .i64 p, .int .i64 m] w (RetA w (addAcc a l p m)) := by
  have hbX : Below w.heap.size w ((w.alloc (.cells #[.slice S a.s.length c1, .slice N a.n.length c2, .slice G a.g.length c3] 39)).alloc (.cells #[.slice .none 0 0, .slice .none 0 0, .slice .none 0 0] 39)) := balloc (balloc (Below.refl _ _) _) _
  have hk1 := (Blk.new w 39 #[.slice S a.s.length c1, .slice N a.n.length c2, .slice G a.g.length c3]).alloc (.cells #[.slice .none 0 0, .slice .none 0 0, .slice .none 0 0] 39)
  have hk3 := Blk.newAt (w := (w.alloc (.cells #[.slice S a.s.length c1, .slice N a.n.length c2, .slice G a.g.length c3] 39))) (g := w.heap.size + 1) 39 #[.slice .none 0 0, .slice .none 0 0, .slice .none 0 0] (by simp)
  have HCA := fun w hx => refCheck_any S N G c1 c2 c3 a w hx l1 l2 l3 ga
  have HCL := fun w hx => refCheck16_any L c4 l w hx l4
  by_cases ea : accErr a = 0
  · by_cases el : lagErr l = 0
    · have h3 : addArg a l p m = true := by
        cases e : addArg a l p m
        · exact absurd ⟨ea, el, e⟩ hno
        · rfl
      have HR := Lib.hid (addAcc_e3 ea el h3)
      have hls := (acc_fine.1 ea).ls
      have hll := (lagErr_zero el).1
      rw [ea] at HCA
      rw [el] at HCL
      have hd : (l.length ≠ a.s.length) ∨ (l.length = a.s.length ∧ m < 1) ∨ (l.length = a.s.length ∧ ¬ m < 1 ∧ 256 < m) ∨ (l.length = a.s.length ∧ ¬ m < 1 ∧ ¬ 256 < m ∧ p < 0) ∨ (l.length = a.s.length ∧ ¬ m < 1 ∧ ¬ 256 < m ∧ ¬ p < 0 ∧ 1000000000 - m < p) := by
        unfold addArg at h3
        rw [decide_eq_true_eq] at h3
        omega
      clear ea el h3 hno
      rcases hd with h | ⟨h, h1⟩ | ⟨h, h1, h2⟩ | ⟨h, h1, h2, h3⟩ | ⟨h, h1, h2, h3, h4⟩
      · have e1 : ((l.length : Int) != a.s.length) = true := by rw [bne_iff_ne]; omega
        clear h
        go_enter Try.func55, Try.ntmps55
        go_wp2_with fail
        refine (HCA _ (hx.keep hbX)).mono ?_
        rintro _ w1 ⟨rfl, hb1⟩
        have hB1 := bstep hbX hb1
        replace hk1 := hk1.keep hb1
        replace hk3 := hk3.keep hb1
        have qa0 : World.cell? w1 ⟨w.heap.size, 0, none⟩ = some (.slice S a.s.length c1) := hk1.cell 0
        have fa0 := hk1.frozen 0
        have qa1 : World.cell? w1 ⟨w.heap.size, 1, none⟩ = some (.slice N a.n.length c2) := hk1.cell 1
        have fa1 := hk1.frozen 1
        have qa2 : World.cell? w1 ⟨w.heap.size, 2, none⟩ = some (.slice G a.g.length c3) := hk1.cell 2
        have fa2 := hk1.frozen 2
        have fal := hk1.lt
        have q0 : World.cell? w1 ⟨(w.heap.size + 1), 0, none⟩ = some (.slice .none 0 0) := hk3.cell 0
        have f0 := hk3.frozen 0
        have q1 : World.cell? w1 ⟨(w.heap.size + 1), 1, none⟩ = some (.slice .none 0 0) := hk3.cell 1
        have f1 := hk3.frozen 1
        have q2 : World.cell? w1 ⟨(w.heap.size + 1), 2, none⟩ = some (.slice .none 0 0) := hk3.cell 2
        have f2 := hk3.frozen 2
        have fl := hk3.lt
        go_wp2_with fail
        refine (HCL _ (hL.keep hB1)).mono ?_
        rintro _ w2 ⟨rfl, hb2⟩
        have hB2 := bstep hB1 hb2
        clear qa0 qa1 qa2 q0 q1 q2 fa0 fa1 fa2 f0 f1 f2 fal fl
        replace hk1 := hk1.keep hb2
        replace hk3 := hk3.keep hb2
        have qa0 : World.cell? w2 ⟨w.heap.size, 0, none⟩ = some (.slice S a.s.length c1) := hk1.cell 0
        have fa0 := hk1.frozen 0
        have qa1 : World.cell? w2 ⟨w.heap.size, 1, none⟩ = some (.slice N a.n.length c2) := hk1.cell 1
        have fa1 := hk1.frozen 1
        have qa2 : World.cell? w2 ⟨w.heap.size, 2, none⟩ = some (.slice G a.g.length c3) := hk1.cell 2
        have fa2 := hk1.frozen 2
        have fal := hk1.lt
        have q0 : World.cell? w2 ⟨(w.heap.size + 1), 0, none⟩ = some (.slice .none 0 0) := hk3.cell 0
        have f0 := hk3.frozen 0
        have q1 : World.cell? w2 ⟨(w.heap.size + 1), 1, none⟩ = some (.slice .none 0 0) := hk3.cell 1
        have f1 := hk3.frozen 1
        have q2 : World.cell? w2 ⟨(w.heap.size + 1), 2, none⟩ = some (.slice .none 0 0) := hk3.cell 2
        have f2 := hk3.frozen 2
        have fl := hk3.lt
        go_wp2
        exact bodyPost_ret (v := .tuple #[.agg #[.slice .none 0 0, .slice .none 0 0, .slice .none 0 0], .int .i64 2]) (by simp [results, Try.results55, go_sem, q0, q1, q2, f0, f1, f2, fl]) rfl (RetA.no HR.out (by (repeat (first | with_reducible exact Below.refl _ _ | assumption | with_reducible refine below_drewN ?_ _ | with_reducible refine Below.drew ?_ | with_reducible refine balloc ?_ _ | (with_reducible refine Below.setCell ?_ ?_ _; rotate_left; focus (first | (simp; done) | (simp; omega) | omega))))))
      · have e1 : ((l.length : Int) != a.s.length) = false := by rw [bne_eq_false_iff_eq]; omega
        clear h
        go_enter Try.func55, Try.ntmps55
        go_wp2_with fail
        refine (HCA _ (hx.keep hbX)).mono ?_
        rintro _ w1 ⟨rfl, hb1⟩
        have hB1 := bstep hbX hb1
        replace hk1 := hk1.keep hb1
        replace hk3 := hk3.keep hb1
        have qa0 : World.cell? w1 ⟨w.heap.size, 0, none⟩ = some (.slice S a.s.length c1) := hk1.cell 0
        have fa0 := hk1.frozen 0
        have qa1 : World.cell? w1 ⟨w.heap.size, 1, none⟩ = some (.slice N a.n.length c2) := hk1.cell 1
        have fa1 := hk1.frozen 1
        have qa2 : World.cell? w1 ⟨w.heap.size, 2, none⟩ = some (.slice G a.g.length c3) := hk1.cell 2
        have fa2 := hk1.frozen 2
        have fal := hk1.lt
        have q0 : World.cell? w1 ⟨(w.heap.size + 1), 0, none⟩ = some (.slice .none 0 0) := hk3.cell 0
        have f0 := hk3.frozen 0
        have q1 : World.cell? w1 ⟨(w.heap.size + 1), 1, none⟩ = some (.slice .none 0 0) := hk3.cell 1
        have f1 := hk3.frozen 1
        have q2 : World.cell? w1 ⟨(w.heap.size + 1), 2, none⟩ = some (.slice .none 0 0) := hk3.cell 2
        have f2 := hk3.frozen 2
        have fl := hk3.lt
        go_wp2_with fail
        refine (HCL _ (hL.keep hB1)).mono ?_
        rintro _ w2 ⟨rfl, hb2⟩
        have hB2 := bstep hB1 hb2
        clear qa0 qa1 qa2 q0 q1 q2 fa0 fa1 fa2 f0 f1 f2 fal fl
        replace hk1 := hk1.keep hb2
        replace hk3 := hk3.keep hb2
        have qa0 : World.cell? w2 ⟨w.heap.size, 0, none⟩ = some (.slice S a.s.length c1) := hk1.cell 0
        have fa0 := hk1.frozen 0
        have qa1 : World.cell? w2 ⟨w.heap.size, 1, none⟩ = some (.slice N a.n.length c2) := hk1.cell 1
        have fa1 := hk1.frozen 1
        have qa2 : World.cell? w2 ⟨w.heap.size, 2, none⟩ = some (.slice G a.g.length c3) := hk1.cell 2
        have fa2 := hk1.frozen 2
        have fal := hk1.lt
        have q0 : World.cell? w2 ⟨(w.heap.size + 1), 0, none⟩ = some (.slice .none 0 0) := hk3.cell 0
        have f0 := hk3.frozen 0
        have q1 : World.cell? w2 ⟨(w.heap.size + 1), 1, none⟩ = some (.slice .none 0 0) := hk3.cell 1
        have f1 := hk3.frozen 1
        have q2 : World.cell? w2 ⟨(w.heap.size + 1), 2, none⟩ = some (.slice .none 0 0) := hk3.cell 2
        have f2 := hk3.frozen 2
        have fl := hk3.lt
        go_wp2
        exact bodyPost_ret (v := .tuple #[.agg #[.slice .none 0 0, .slice .none 0 0, .slice .none 0 0], .int .i64 2]) (by simp [results, Try.results55, go_sem, q0, q1, q2, f0, f1, f2, fl]) rfl (RetA.no HR.out (by (repeat (first | with_reducible exact Below.refl _ _ | assumption | with_reducible refine below_drewN ?_ _ | with_reducible refine Below.drew ?_ | with_reducible refine balloc ?_ _ | (with_reducible refine Below.setCell ?_ ?_ _; rotate_left; focus (first | (simp; done) | (simp; omega) | omega))))))
      · have e1 : ((l.length : Int) != a.s.length) = false := by rw [bne_eq_false_iff_eq]; omega
        clear h
        go_enter Try.func55, Try.ntmps55
        go_wp2_with fail
        refine (HCA _ (hx.keep hbX)).mono ?_
        rintro _ w1 ⟨rfl, hb1⟩
        have hB1 := bstep hbX hb1
        replace hk1 := hk1.keep hb1
        replace hk3 := hk3.keep hb1
        have qa0 : World.cell? w1 ⟨w.heap.size, 0, none⟩ = some (.slice S a.s.length c1) := hk1.cell 0
        have fa0 := hk1.frozen 0
        have qa1 : World.cell? w1 ⟨w.heap.size, 1, none⟩ = some (.slice N a.n.length c2) := hk1.cell 1
        have fa1 := hk1.frozen 1
        have qa2 : World.cell? w1 ⟨w.heap.size, 2, none⟩ = some (.slice G a.g.length c3) := hk1.cell 2
        have fa2 := hk1.frozen 2
        have fal := hk1.lt
        have q0 : World.cell? w1 ⟨(w.heap.size + 1), 0, none⟩ = some (.slice .none 0 0) := hk3.cell 0
        have f0 := hk3.frozen 0
        have q1 : World.cell? w1 ⟨(w.heap.size + 1), 1, none⟩ = some (.slice .none 0 0) := hk3.cell 1
        have f1 := hk3.frozen 1
        have q2 : World.cell? w1 ⟨(w.heap.size + 1), 2, none⟩ = some (.slice .none 0 0) := hk3.cell 2
        have f2 := hk3.frozen 2
        have fl := hk3.lt
        go_wp2_with fail
        refine (HCL _ (hL.keep hB1)).mono ?_
        rintro _ w2 ⟨rfl, hb2⟩
        have hB2 := bstep hB1 hb2
        clear qa0 qa1 qa2 q0 q1 q2 fa0 fa1 fa2 f0 f1 f2 fal fl
        replace hk1 := hk1.keep hb2
        replace hk3 := hk3.keep hb2
        have qa0 : World.cell? w2 ⟨w.heap.size, 0, none⟩ = some (.slice S a.s.length c1) := hk1.cell 0
        have fa0 := hk1.frozen 0
        have qa1 : World.cell? w2 ⟨w.heap.size, 1, none⟩ = some (.slice N a.n.length c2) := hk1.cell 1
        have fa1 := hk1.frozen 1
        have qa2 : World.cell? w2 ⟨w.heap.size, 2, none⟩ = some (.slice G a.g.length c3) := hk1.cell 2
        have fa2 := hk1.frozen 2
        have fal := hk1.lt
        have q0 : World.cell? w2 ⟨(w.heap.size + 1), 0, none⟩ = some (.slice .none 0 0) := hk3.cell 0
        have f0 := hk3.frozen 0
        have q1 : World.cell? w2 ⟨(w.heap.size + 1), 1, none⟩ = some (.slice .none 0 0) := hk3.cell 1
        have f1 := hk3.frozen 1
        have q2 : World.cell? w2 ⟨(w.heap.size + 1), 2, none⟩ = some (.slice .none 0 0) := hk3.cell 2
        have f2 := hk3.frozen 2
        have fl := hk3.lt
        go_wp2
        exact bodyPost_ret (v := .tuple #[.agg #[.slice .none 0 0, .slice .none 0 0, .slice .none 0 0], .int .i64 2]) (by simp [results, Try.results55, go_sem, q0, q1, q2, f0, f1, f2, fl]) rfl (RetA.no HR.out (by (repeat (first | with_reducible exact Below.refl _ _ | assumption | with_reducible refine below_drewN ?_ _ | with_reducible refine Below.drew ?_ | with_reducible refine balloc ?_ _ | (with_reducible refine Below.setCell ?_ ?_ _; rotate_left; focus (first | (simp; done) | (simp; omega) | omega))))))
      · have e1 : ((l.length : Int) != a.s.length) = false := by rw [bne_eq_false_iff_eq]; omega
        clear h
        go_enter Try.func55, Try.ntmps55
        go_wp2_with fail
        refine (HCA _ (hx.keep hbX)).mono ?_
        rintro _ w1 ⟨rfl, hb1⟩
        have hB1 := bstep hbX hb1
        replace hk1 := hk1.keep hb1
        replace hk3 := hk3.keep hb1
        have qa0 : World.cell? w1 ⟨w.heap.size, 0, none⟩ = some (.slice S a.s.length c1) := hk1.cell 0
        have fa0 := hk1.frozen 0
        have qa1 : World.cell? w1 ⟨w.heap.size, 1, none⟩ = some (.slice N a.n.length c2) := hk1.cell 1
        have fa1 := hk1.frozen 1
        have qa2 : World.cell? w1 ⟨w.heap.size, 2, none⟩ = some (.slice G a.g.length c3) := hk1.cell 2
        have fa2 := hk1.frozen 2
        have fal := hk1.lt
        have q0 : World.cell? w1 ⟨(w.heap.size + 1), 0, none⟩ = some (.slice .none 0 0) := hk3.cell 0
        have f0 := hk3.frozen 0
        have q1 : World.cell? w1 ⟨(w.heap.size + 1), 1, none⟩ = some (.slice .none 0 0) := hk3.cell 1
        have f1 := hk3.frozen 1
        have q2 : World.cell? w1 ⟨(w.heap.size + 1), 2, none⟩ = some (.slice .none 0 0) := hk3.cell 2
        have f2 := hk3.frozen 2
        have fl := hk3.lt
        go_wp2_with fail
        refine (HCL _ (hL.keep hB1)).mono ?_
        rintro _ w2 ⟨rfl, hb2⟩
        have hB2 := bstep hB1 hb2
        clear qa0 qa1 qa2 q0 q1 q2 fa0 fa1 fa2 f0 f1 f2 fal fl
        replace hk1 := hk1.keep hb2
        replace hk3 := hk3.keep hb2
        have qa0 : World.cell? w2 ⟨w.heap.size, 0, none⟩ = some (.slice S a.s.length c1) := hk1.cell 0
        have fa0 := hk1.frozen 0
        have qa1 : World.cell? w2 ⟨w.heap.size, 1, none⟩ = some (.slice N a.n.length c2) := hk1.cell 1
        have fa1 := hk1.frozen 1
        have qa2 : World.cell? w2 ⟨w.heap.size, 2, none⟩ = some (.slice G a.g.length c3) := hk1.cell 2
        have fa2 := hk1.frozen 2
        have fal := hk1.lt
        have q0 : World.cell? w2 ⟨(w.heap.size + 1), 0, none⟩ = some (.slice .none 0 0) := hk3.cell 0
        have f0 := hk3.frozen 0
        have q1 : World.cell? w2 ⟨(w.heap.size + 1), 1, none⟩ = some (.slice .none 0 0) := hk3.cell 1
        have f1 := hk3.frozen 1
        have q2 : World.cell? w2 ⟨(w.heap.size + 1), 2, none⟩ = some (.slice .none 0 0) := hk3.cell 2
        have f2 := hk3.frozen 2
        have fl := hk3.lt
        go_wp2
        exact bodyPost_ret (v := .tuple #[.agg #[.slice .none 0 0, .slice .none 0 0, .slice .none 0 0], .int .i64 2]) (by simp [results, Try.results55, go_sem, q0, q1, q2, f0, f1, f2, fl]) rfl (RetA.no HR.out (by (repeat (first | with_reducible exact Below.refl _ _ | assumption | with_reducible refine below_drewN ?_ _ | with_reducible refine Below.drew ?_ | with_reducible refine balloc ?_ _ | (with_reducible refine Below.setCell ?_ ?_ _; rotate_left; focus (first | (simp; done) | (simp; omega) | omega))))))
      · have e1 : ((l.length : Int) != a.s.length) = false := by rw [bne_eq_false_iff_eq]; omega
        clear h
        go_enter Try.func55, Try.ntmps55
        go_wp2_with fail
        refine (HCA _ (hx.keep hbX)).mono ?_
        rintro _ w1 ⟨rfl, hb1⟩
        have hB1 := bstep hbX hb1
        replace hk1 := hk1.keep hb1
        replace hk3 := hk3.keep hb1
        have qa0 : World.cell? w1 ⟨w.heap.size, 0, none⟩ = some (.slice S a.s.length c1) := hk1.cell 0
        have fa0 := hk1.frozen 0
        have qa1 : World.cell? w1 ⟨w.heap.size, 1, none⟩ = some (.slice N a.n.length c2) := hk1.cell 1
        have fa1 := hk1.frozen 1
        have qa2 : World.cell? w1 ⟨w.heap.size, 2, none⟩ = some (.slice G a.g.length c3) := hk1.cell 2
        have fa2 := hk1.frozen 2
        have fal := hk1.lt
        have q0 : World.cell? w1 ⟨(w.heap.size + 1), 0, none⟩ = some (.slice .none 0 0) := hk3.cell 0
        have f0 := hk3.frozen 0
        have q1 : World.cell? w1 ⟨(w.heap.size + 1), 1, none⟩ = some (.slice .none 0 0) := hk3.cell 1
        have f1 := hk3.frozen 1
        have q2 : World.cell? w1 ⟨(w.heap.size + 1), 2, none⟩ = some (.slice .none 0 0) := hk3.cell 2
        have f2 := hk3.frozen 2
        have fl := hk3.lt
        go_wp2_with fail
        refine (HCL _ (hL.keep hB1)).mono ?_
        rintro _ w2 ⟨rfl, hb2⟩
        have hB2 := bstep hB1 hb2
        clear qa0 qa1 qa2 q0 q1 q2 fa0 fa1 fa2 f0 f1 f2 fal fl
        replace hk1 := hk1.keep hb2
        replace hk3 := hk3.keep hb2
        have qa0 : World.cell? w2 ⟨w.heap.size, 0, none⟩ = some (.slice S a.s.length c1) := hk1.cell 0
        have fa0 := hk1.frozen 0
        have qa1 : World.cell? w2 ⟨w.heap.size, 1, none⟩ = some (.slice N a.n.length c2) := hk1.cell 1
        have fa1 := hk1.frozen 1
        have qa2 : World.cell? w2 ⟨w.heap.size, 2, none⟩ = some (.slice G a.g.length c3) := hk1.cell 2
        have fa2 := hk1.frozen 2
        have fal := hk1.lt
        have q0 : World.cell? w2 ⟨(w.heap.size + 1), 0, none⟩ = some (.slice .none 0 0) := hk3.cell 0
        have f0 := hk3.frozen 0
        have q1 : World.cell? w2 ⟨(w.heap.size + 1), 1, none⟩ = some (.slice .none 0 0) := hk3.cell 1
        have f1 := hk3.frozen 1
        have q2 : World.cell? w2 ⟨(w.heap.size + 1), 2, none⟩ = some (.slice .none 0 0) := hk3.cell 2
        have f2 := hk3.frozen 2
        have fl := hk3.lt
        go_wp2
        exact bodyPost_ret (v := .tuple #[.agg #[.slice .none 0 0, .slice .none 0 0, .slice .none 0 0], .int .i64 2]) (by simp [results, Try.results55, go_sem, q0, q1, q2, f0, f1, f2, fl]) rfl (RetA.no HR.out (by (repeat (first | with_reducible exact Below.refl _ _ | assumption | with_reducible refine below_drewN ?_ _ | with_reducible refine Below.drew ?_ | with_reducible refine balloc ?_ _ | (with_reducible refine Below.setCell ?_ ?_ _; rotate_left; focus (first | (simp; done) | (simp; omega) | omega))))))
    · have HR := Lib.hid (addAcc_e2 (p := p) (m := m) ea el)
      have e2 : (lagErr l != 0) = true := by rw [bne_iff_ne]; exact el
      rw [ea] at HCA
      clear ea el hno
      generalize lagErr l = E at *
      go_enter Try.func55, Try.ntmps55
      go_wp2_with fail
      refine (HCA _ (hx.keep hbX)).mono ?_
      rintro _ w1 ⟨rfl, hb1⟩
      have hB1 := bstep hbX hb1
      replace hk1 := hk1.keep hb1
      replace hk3 := hk3.keep hb1
      have qa0 : World.cell? w1 ⟨w.heap.size, 0, none⟩ = some (.slice S a.s.length c1) := hk1.cell 0
      have fa0 := hk1.frozen 0
      have qa1 : World.cell? w1 ⟨w.heap.size, 1, none⟩ = some (.slice N a.n.length c2) := hk1.cell 1
      have fa1 := hk1.frozen 1
      have qa2 : World.cell? w1 ⟨w.heap.size, 2, none⟩ = some (.slice G a.g.length c3) := hk1.cell 2
      have fa2 := hk1.frozen 2
      have fal := hk1.lt
      have q0 : World.cell? w1 ⟨(w.heap.size + 1), 0, none⟩ = some (.slice .none 0 0) := hk3.cell 0
      have f0 := hk3.frozen 0
      have q1 : World.cell? w1 ⟨(w.heap.size + 1), 1, none⟩ = some (.slice .none 0 0) := hk3.cell 1
      have f1 := hk3.frozen 1
      have q2 : World.cell? w1 ⟨(w.heap.size + 1), 2, none⟩ = some (.slice .none 0 0) := hk3.cell 2
      have f2 := hk3.frozen 2
      have fl := hk3.lt
      go_wp2_with fail
      refine (HCL _ (hL.keep hB1)).mono ?_
      rintro _ w2 ⟨rfl, hb2⟩
      have hB2 := bstep hB1 hb2
      clear qa0 qa1 qa2 q0 q1 q2 fa0 fa1 fa2 f0 f1 f2 fal fl
      replace hk1 := hk1.keep hb2
      replace hk3 := hk3.keep hb2
      have qa0 : World.cell? w2 ⟨w.heap.size, 0, none⟩ = some (.slice S a.s.length c1) := hk1.cell 0
      have fa0 := hk1.frozen 0
      have qa1 : World.cell? w2 ⟨w.heap.size, 1, none⟩ = some (.slice N a.n.length c2) := hk1.cell 1
      have fa1 := hk1.frozen 1
      have qa2 : World.cell? w2 ⟨w.heap.size, 2, none⟩ = some (.slice G a.g.length c3) := hk1.cell 2
      have fa2 := hk1.frozen 2
      have fal := hk1.lt
      have q0 : World.cell? w2 ⟨(w.heap.size + 1), 0, none⟩ = some (.slice .none 0 0) := hk3.cell 0
      have f0 := hk3.frozen 0
      have q1 : World.cell? w2 ⟨(w.heap.size + 1), 1, none⟩ = some (.slice .none 0 0) := hk3.cell 1
      have f1 := hk3.frozen 1
      have q2 : World.cell? w2 ⟨(w.heap.size + 1), 2, none⟩ = some (.slice .none 0 0) := hk3.cell 2
      have f2 := hk3.frozen 2
      have fl := hk3.lt
      go_wp2_with fail
      refine (HCL _ (hL.keep hB2)).mono ?_
      rintro _ w3 ⟨rfl, hb3⟩
      have hB3 := bstep hB2 hb3
      clear qa0 qa1 qa2 q0 q1 q2 fa0 fa1 fa2 f0 f1 f2 fal fl
      replace hk1 := hk1.keep hb3
      replace hk3 := hk3.keep hb3
      have qa0 : World.cell? w3 ⟨w.heap.size, 0, none⟩ = some (.slice S a.s.length c1) := hk1.cell 0
      have fa0 := hk1.frozen 0
      have qa1 : World.cell? w3 ⟨w.heap.size, 1, none⟩ = some (.slice N a.n.length c2) := hk1.cell 1
      have fa1 := hk1.frozen 1
      have qa2 : World.cell? w3 ⟨w.heap.size, 2, none⟩ = some (.slice G a.g.length c3) := hk1.cell 2
      have fa2 := hk1.frozen 2
      have fal := hk1.lt
      have q0 : World.cell? w3 ⟨(w.heap.size + 1), 0, none⟩ = some (.slice .none 0 0) := hk3.cell 0
      have f0 := hk3.frozen 0
      have q1 : World.cell? w3 ⟨(w.heap.size + 1), 1, none⟩ = some (.slice .none 0 0) := hk3.cell 1
      have f1 := hk3.frozen 1
      have q2 : World.cell? w3 ⟨(w.heap.size + 1), 2, none⟩ = some (.slice .none 0 0) := hk3.cell 2
      have f2 := hk3.frozen 2
      have fl := hk3.lt
      go_wp2
      exact bodyPost_ret (v := .tuple #[.agg #[.slice .none 0 0, .slice .none 0 0, .slice .none 0 0], .int .i64 E]) (by simp [results, Try.results55, go_sem, q0, q1, q2, f0, f1, f2, fl]) rfl (RetA.no HR.out (by (repeat (first | with_reducible exact Below.refl _ _ | assumption | with_reducible refine below_drewN ?_ _ | with_reducible refine Below.drew ?_ | with_reducible refine balloc ?_ _ | (with_reducible refine Below.setCell ?_ ?_ _; rotate_left; focus (first | (simp; done) | (simp; omega) | omega))))))
  · have HR := Lib.hid (addAcc_e1 (l := l) (p := p) (m := m) ea)
    have e2 : (accErr a != 0) = true := by rw [bne_iff_ne]; exact ea
    clear ea hno
    generalize accErr a = E at *
    go_enter Try.func55, Try.ntmps55
    go_wp2_with fail
    refine (HCA _ (hx.keep hbX)).mono ?_
    rintro _ w1 ⟨rfl, hb1⟩
    have hB1 := bstep hbX hb1
    replace hk1 := hk1.keep hb1
    replace hk3 := hk3.keep hb1
    have qa0 : World.cell? w1 ⟨w.heap.size, 0, none⟩ = some (.slice S a.s.length c1) := hk1.cell 0
    have fa0 := hk1.frozen 0
    have qa1 : World.cell? w1 ⟨w.heap.size, 1, none⟩ = some (.slice N a.n.length c2) := hk1.cell 1
    have fa1 := hk1.frozen 1
    have qa2 : World.cell? w1 ⟨w.heap.size, 2, none⟩ = some (.slice G a.g.length c3) := hk1.cell 2
    have fa2 := hk1.frozen 2
    have fal := hk1.lt
    have q0 : World.cell? w1 ⟨(w.heap.size + 1), 0, none⟩ = some (.slice .none 0 0) := hk3.cell 0
    have f0 := hk3.frozen 0
    have q1 : World.cell? w1 ⟨(w.heap.size + 1), 1, none⟩ = some (.slice .none 0 0) := hk3.cell 1
    have f1 := hk3.frozen 1
    have q2 : World.cell? w1 ⟨(w.heap.size + 1), 2, none⟩ = some (.slice .none 0 0) := hk3.cell 2
    have f2 := hk3.frozen 2
    have fl := hk3.lt
    go_wp2_with fail
    refine (HCA _ (hx.keep hB1)).mono ?_
    rintro _ w2 ⟨rfl, hb2⟩
    have hB2 := bstep hB1 hb2
    clear qa0 qa1 qa2 q0 q1 q2 fa0 fa1 fa2 f0 f1 f2 fal fl
    replace hk1 := hk1.keep hb2
    replace hk3 := hk3.keep hb2
    have qa0 : World.cell? w2 ⟨w.heap.size, 0, none⟩ = some (.slice S a.s.length c1) := hk1.cell 0
    have fa0 := hk1.frozen 0
    have qa1 : World.cell? w2 ⟨w.heap.size, 1, none⟩ = some (.slice N a.n.length c2) := hk1.cell 1
    have fa1 := hk1.frozen 1
    have qa2 : World.cell? w2 ⟨w.heap.size, 2, none⟩ = some (.slice G a.g.length c3) := hk1.cell 2
    have fa2 := hk1.frozen 2
    have fal := hk1.lt
    have q0 : World.cell? w2 ⟨(w.heap.size + 1), 0, none⟩ = some (.slice .none 0 0) := hk3.cell 0
    have f0 := hk3.frozen 0
    have q1 : World.cell? w2 ⟨(w.heap.size + 1), 1, none⟩ = some (.slice .none 0 0) := hk3.cell 1
    have f1 := hk3.frozen 1
    have q2 : World.cell? w2 ⟨(w.heap.size + 1), 2, none⟩ = some (.slice .none 0 0) := hk3.cell 2
    have f2 := hk3.frozen 2
    have fl := hk3.lt
    go_wp2
    exact bodyPost_ret (v := .tuple #[.agg #[.slice .none 0 0, .slice .none 0 0, .slice .none 0 0], .int .i64 E]) (by simp [results, Try.results55, go_sem, q0, q1, q2, f0, f1, f2, fl]) rfl (RetA.no HR.out (by (repeat (first | with_reducible exact Below.refl _ _ | assumption | with_reducible refine below_drewN ?_ _ | with_reducible refine Below.drew ?_ | with_reducible refine balloc ?_ _ | (with_reducible refine Below.setCell ?_ ?_ _; rotate_left; focus (first | (simp; done) | (simp; omega) | omega))))))
set_option maxRecDepth 20000 in
set_option maxHeartbeats 4000000 in
theorem refAdd_yes (S N G L : Option Addr) (c1 c2 c3 c4 : Nat) (a : Acc) (l : List (Int × Int)) (p m : Int) (w : World) (hx : RA w S N G a) (hL : RL w L l)
    (ea : accErr a = 0) (el : lagErr l = 0) (h3 : addArg a l p m = false) :
    Calls Try.prog 55 #[.agg #[.slice S a.s.length c1, .slice N a.n.length c2, .slice G a.g.length c3], .slice L l.length c4, .int .i64 p, .int .i64 m] w (RetA w (addAcc a l p m)) := by
  have hbX : Below w.heap.size w ((w.alloc (.cells #[.slice S a.s.length c1, .slice N a.n.length c2, .slice G a.g.length c3] 39)).alloc (.cells #[.slice .none 0 0, .slice .none 0 0, .slice .none 0 0] 39)) := balloc (balloc (Below.refl _ _) _) _
  have hk1 := (Blk.new w 39 #[.slice S a.s.length c1, .slice N a.n.length c2, .slice G a.g.length c3]).alloc (.cells #[.slice .none 0 0, .slice .none 0 0, .slice .none 0 0] 39)
  have hk3 := Blk.newAt (w := (w.alloc (.cells #[.slice S a.s.length c1, .slice N a.n.length c2, .slice G a.g.length c3] 39))) (g := w.heap.size + 1) 39 #[.slice .none 0 0, .slice .none 0 0, .slice .none 0 0] (by simp)
  have fa := acc_fine.1 ea
  have hls := fa.ls
  have hln := fa.ln
  have hlg := fa.lg
  obtain ⟨hll, _, hlok⟩ := lagErr_zero el
  obtain ⟨hlen, hm1, hm2, hp1, hp2⟩ := addArg_no h3
  have fb := lagAcc_fine el hm1 hp1 hp2
  have HR := Lib.hid ((addAcc_e0 ea el h3).trans (mergeS_fine fa fb (by show a.s.length = (fullL _ _).length; rw [fullL_len, hlen])).symm)
  have HCA := fun w hx => refCheck_any S N G c1 c2 c3 a w hx (by omega) (by omega) (by omega) (fine_rg2 fa)
  have HCL := fun w hx => refCheck16_any L c4 l w hx (by omega)
  rw [ea] at HCA
  rw [el] at HCL
  have HFA := Lib.hid fa
  have HFB := Lib.hid fb
  have HLK := Lib.hid hlok
  have e1 : ((l.length : Int) != a.s.length) = false := by rw [bne_eq_false_iff_eq]; omega
  have HLEN := Lib.hid hlen
  obtain ⟨i0, hi0, hz0, hz1, hz2⟩ := info_parts info_count
  clear ea el h3 fa fb hlok hlen hln
  go_enter Try.func55, Try.ntmps55
  go_wp2_with fail
  refine (HCA _ (hx.keep hbX)).mono ?_
  rintro _ w1 ⟨rfl, hb1⟩
  have hB1 := bstep hbX hb1
  replace hk1 := hk1.keep hb1
  replace hk3 := hk3.keep hb1
  have qa0 : World.cell? w1 ⟨w.heap.size, 0, none⟩ = some (.slice S a.s.length c1) := hk1.cell 0
  have fa0 := hk1.frozen 0
  have qa1 : World.cell? w1 ⟨w.heap.size, 1, none⟩ = some (.slice N a.n.length c2) := hk1.cell 1
  have fa1 := hk1.frozen 1
  have qa2 : World.cell? w1 ⟨w.heap.size, 2, none⟩ = some (.slice G a.g.length c3) := hk1.cell 2
  have fa2 := hk1.frozen 2
  have fal := hk1.lt
  have q0 : World.cell? w1 ⟨(w.heap.size + 1), 0, none⟩ = some (.slice .none 0 0) := hk3.cell 0
  have f0 := hk3.frozen 0
  have q1 : World.cell? w1 ⟨(w.heap.size + 1), 1, none⟩ = some (.slice .none 0 0) := hk3.cell 1
  have f1 := hk3.frozen 1
  have q2 : World.cell? w1 ⟨(w.heap.size + 1), 2, none⟩ = some (.slice .none 0 0) := hk3.cell 2
  have f2 := hk3.frozen 2
  have fl := hk3.lt
  go_wp2_with fail
  refine (HCL _ (hL.keep hB1)).mono ?_
  rintro _ w2 ⟨rfl, hb2⟩
  have hB2 := bstep hB1 hb2
  clear qa0 qa1 qa2 q0 q1 q2 fa0 fa1 fa2 f0 f1 f2 fal fl
  replace hk1 := hk1.keep hb2
  replace hk3 := hk3.keep hb2
  have qa0 : World.cell? w2 ⟨w.heap.size, 0, none⟩ = some (.slice S a.s.length c1) := hk1.cell 0
  have fa0 := hk1.frozen 0
  have qa1 : World.cell? w2 ⟨w.heap.size, 1, none⟩ = some (.slice N a.n.length c2) := hk1.cell 1
  have fa1 := hk1.frozen 1
  have qa2 : World.cell? w2 ⟨w.heap.size, 2, none⟩ = some (.slice G a.g.length c3) := hk1.cell 2
  have fa2 := hk1.frozen 2
  have fal := hk1.lt
  have q0 : World.cell? w2 ⟨(w.heap.size + 1), 0, none⟩ = some (.slice .none 0 0) := hk3.cell 0
  have f0 := hk3.frozen 0
  have q1 : World.cell? w2 ⟨(w.heap.size + 1), 1, none⟩ = some (.slice .none 0 0) := hk3.cell 1
  have f1 := hk3.frozen 1
  have q2 : World.cell? w2 ⟨(w.heap.size + 1), 2, none⟩ = some (.slice .none 0 0) := hk3.cell 2
  have f2 := hk3.frozen 2
  have fl := hk3.lt
  go_wp2
  obtain ⟨w3, hw3⟩ : ∃ w3, w3 = w2.alloc (.cells #[.int .i64 p, .int .i64 m] 99) := ⟨_, rfl⟩
  have hb3 : Below w2.heap.size w2 w3 := by rw [hw3]; exact balloc (Below.refl _ _) _
  have hG3 : Blk w3 w2.heap.size 99 #[.int .i64 p, .int .i64 m] := by rw [hw3]; exact Blk.new _ _ _
  have hs3 : w3.heap.size = w2.heap.size + 1 := by rw [hw3]; simp
  obtain ⟨gB, hg⟩ : ∃ gB, gB = w2.heap.size + 1 := ⟨_, rfl⟩
  have hgs : w3.heap.size = gB := by rw [hs3, hg]
  rw [← hw3, ← hg]
  obtain ⟨BB, hBB⟩ : ∃ BB, BB = gB + 1 := ⟨_, rfl⟩
  have hF0 : FillG (w3.alloc (.cells #[.slice .none 0 0, .slice .none 0 0, .slice (some ⟨w2.heap.size, 0, none⟩) 1 1] 39)) gB BB (.slice (some ⟨w2.heap.size, 0, none⟩) 1 1) (sF l) (nF l) (.slice .none 0 0) (.slice .none 0 0) 0 0 := ⟨Blk.newAt _ _ hgs, World.ownsRow_nil _ _ _ _, World.ownsRow_nil _ _ _ _, (by intro h h2; cases h2), by omega⟩
  have hB3 := bstep hB2 hb3
  have HGS := Lib.hid hgs
  have HBB := Lib.hid hBB
  have HG2 := Lib.hid hg
  clear hw3 hs3 hg hgs hBB
  obtain ⟨wo, hwo⟩ : ∃ wo, wo = w3.alloc (.cells #[.slice .none 0 0, .slice .none 0 0, .slice (some ⟨w2.heap.size, 0, none⟩) 1 1] 39) := ⟨_, rfl⟩
  have hb3o : Below w3.heap.size w3 wo := by rw [hwo]; exact balloc (Below.refl _ _) _
  rw [← hwo] at hF0 ⊢
  clear hwo
  go_loopg [11, 12, 13, 14, 15] l.length (fun gk i _ _ _ _ wr => ∃ k : Nat, ∃ vS vN : Value, k + gk = l.length ∧ i = .int .i64 k ∧ FillG wr gB BB (.slice (some ⟨w2.heap.size, 0, none⟩) 1 1) (sF l) (nF l) vS vN k k ∧ Kept BB gB wo wr)
  case atStart => exact ⟨0, _, _, by omega, rfl, hF0, Kept.refl _ _ _⟩
  case round =>
    obtain ⟨k, vS, vN, hk, rfl, hF, hKp⟩ := hrel
    have hk' : k ≤ l.length := by omega
    have HK := Lib.hid hk
    clear hk
    have hb3k : Below w3.heap.size w3 wr := hb3o.trans (hKp.below (by have := HGS.out; have := HBB.out; omega) (by have := HGS.out; omega))
    have hbw : Below w.heap.size w wr := hB3.trans (hb3k.mono (by have := hB3.size; omega))
    have hb2k : Below w2.heap.size w2 wr := hb3.trans (hb3k.mono hb3.size)
    by_cases hlt : k < l.length
    · obtain ⟨b1, off1, rfl, hl1, hc1, hd1⟩ := (hL.keep hbw).at_ hlt
      have hbd := okLag_bd (HLK.out _ (getD_mem (d := (0, 0)) hlt))
      have HXS := Lib.hid (show sF l k = cnt (l.getD k (0, 0)).1 from rfl)
      have HXN := Lib.hid (show nF l k = cnt (l.getD k (0, 0)).2 from rfl)
      generalize l.getD k (0, 0) = z at *
      go_wp2_with fail
      refine (counted_any z.1 _ (by omega)).mono ?_
      rintro _ w5 ⟨rfl, hb5⟩
      have hc5 := (hb5.cell (p := ⟨b1, _, none⟩) hl1).trans hc1
      have hd5 := (hb5.cell (p := ⟨b1, _, none⟩) hl1).trans hd1
      have hl5 : b1 < w5.heap.size := Nat.lt_of_lt_of_le hl1 hb5.size
      clear hc1 hd1
      go_wp2_with fail
      obtain ⟨u5, hu5⟩ : ∃ u5, u5 = w5.alloc (.cells #[.int .i64 (cnt z.1).1, .int .i64 (cnt z.1).2] 97) := ⟨_, rfl⟩
      have hX : Blk u5 w5.heap.size 97 #[.int .i64 (cnt z.1).1, .int .i64 (cnt z.1).2] := by rw [hu5]; exact Blk.new _ _ _
      have hbu : Below w5.heap.size w5 u5 := by rw [hu5]; exact balloc (Below.refl _ _) _
      rw [← hu5]
      clear hu5 hc5 hd5
      refine (counted_any z.2 _ (by omega)).mono ?_
      rintro _ w6 ⟨rfl, hb6⟩
      have hb56 := bstep hbu hb6
      have hbr6 := bstep hb5 hb56
      have hX6 := hX.keep hb6
      have hgx : wr.heap.size ≤ w5.heap.size := hb5.size
      go_wp2
      obtain ⟨wc, hwc⟩ : ∃ wc, wc = w6.alloc (.cells #[.int .i64 (cnt z.2).1, .int .i64 (cnt z.2).2] 97) := ⟨_, rfl⟩
      have hY : Blk wc w6.heap.size 97 #[.int .i64 (cnt z.2).1, .int .i64 (cnt z.2).2] := by rw [hwc]; exact Blk.new _ _ _
      have hbc : Below w6.heap.size w6 wc := by rw [hwc]; exact balloc (Below.refl _ _) _
      rw [← hwc]
      clear hwc
      have hbrc := bstep hbr6 hbc
      have hX2 := hX6.keep hbc
      have hF2 := hF.keep hbrc
      have hwsz : BB ≤ wr.heap.size := by have := hF.blk.lt; have := HBB.out; omega
      have hKp2 : Kept BB gB wo wc := hKp.trans (Kept.of_below (hbrc.mono hwsz))
      have hxs : vS.ownBlock ≠ some w5.heap.size ∧ vN.ownBlock ≠ some w5.heap.size := ⟨own_old hF.s hgx, own_old hF.n hgx⟩
      have hys : vS.ownBlock ≠ some w6.heap.size ∧ vN.ownBlock ≠ some w6.heap.size := ⟨own_old hF.s hbr6.size, own_old hF.n hbr6.size⟩
      have hBc : BB ≤ wc.heap.size := Nat.le_trans hwsz hbrc.size
      generalize cnt z.1 = x at *
      generalize cnt z.2 = y at *
      obtain ⟨gx, hgx'⟩ : ∃ gx, gx = w5.heap.size := ⟨_, rfl⟩
      obtain ⟨gy, hgy'⟩ : ∃ gy, gy = w6.heap.size := ⟨_, rfl⟩
      rw [← hgx'] at hX2 hxs ⊢
      rw [← hgy'] at hY hys ⊢
      have hJ0 := TwoI.start (n := 14) hF2 hBc hX2 hY hxs hys (fun _ => undef)
      clear hgx' hgy' hX hX6
      refine wp_region_val (by kernel_rfl) (by kernel_rfl) (by kernel_rfl) (TwoI ⟨wc, gB, BB, .slice (some ⟨w2.heap.size, 0, none⟩) 1 1, vS, vN, k, sF l, nF l, gx, gy, x, y⟩) hJ0 ⟨?_, ?_, ?_, ?_, ?_, ?_, ?_, ?_, ?_, ?_, ?_, ?_, ?_, ?_, trivial⟩ ?_
      · intro L val a wr hsz hJ hu hdep hE K hK
        obtain ⟨rS, rN, c0, c1, kS, kN, h⟩ := hJ
        have e1 : a.tmps[10]?.getD undef = .pointer (some ⟨gB, 0, none⟩) := ev_tmps (hE.old 10 (by rfl))
        go_simp
        exact hK _ _ (h.yield rfl (lt_of_un hu))
      · intro L val a wr hsz hJ hu hdep hE K hK
        obtain ⟨rS, rN, c0, c1, kS, kN, h⟩ := hJ
        obtain ⟨e0, o0⟩ := hE.arg hdep 0 82 rfl rfl rfl
        have e1 : a.tmps[82]?.getD undef = .pointer (some ⟨gB, 0, none⟩) := ev_tmps (e0.trans (h.pure 0 _ rfl o0))
        have q0 : wr.cell? ⟨gB, 0, none⟩ = some vS := by
          have hc : c0 = vS := (h.b11.resolve_right (fun h1 => on_not hu (h.cl.1 h1.1).1)).2
          rw [← hc]
          exact h.box.cell 0
        have ql := h.box.lt
        clear e0 o0
        go_simp
        exact hK _ _ (h.yield rfl (lt_of_un hu))
      · intro L val a wr hsz hJ hu hdep hE K hK
        obtain ⟨rS, rN, c0, c1, kS, kN, h⟩ := hJ
        have e1 : a.tmps[12]?.getD undef = .pointer (some ⟨gx, 0, none⟩) := ev_tmps (hE.old 12 (by rfl))
        have q0 := h.xb.cell 0
        have q1 := h.xb.cell 1
        have ql := h.xb.lt
        simp only [List.getElem?_toArray, List.getElem?_cons_zero, List.getElem?_cons_succ] at q0 q1
        go_simp
        exact hK _ _ (h.yield rfl (lt_of_un hu))
      · intro L val a wr hsz hJ hu hdep hE K hK
        obtain ⟨rS, rN, c0, c1, kS, kN, h⟩ := hJ
        obtain ⟨e0, o0⟩ := hE.arg hdep 2 84 rfl rfl rfl
        have e1 : a.tmps[84]?.getD undef = .agg #[.int .i64 (x).1, .int .i64 (x).2] := ev_tmps (e0.trans (h.pure 2 _ rfl o0))
        clear e0 o0
        go_simp
        exact hK _ _ (h.build3 (lt_of_un hu))
      · intro L val a wr hsz hJ hu hdep hE K hK
        obtain ⟨rS, rN, c0, c1, kS, kN, h⟩ := hJ
        obtain ⟨e0, o0⟩ := hE.arg hdep 1 83 rfl rfl rfl
        obtain ⟨e9, o9⟩ := hE.arg hdep 3 85 rfl rfl rfl
        obtain ⟨hb, e8, hb8, _⟩ := h.t3 o9
        have hst := ((h.s4.resolve_right (fun h1 => on_not hu h1.1)).2)
        have e1 := (e0.trans (h.pure 1 _ rfl o0)).trans hst.1.symm
        refine step_append_lies _ rfl (.tmp 83) (.tmp 85) 36 rfl BB 97 i0 _ 2 16 Try.underlying36 hi0 hz0 hz1 hz2 rfl (by omega) rS kS _ e1 h.s ⟨hb, 0, none⟩ 1 1 (encP (x)) (e9.trans e8) rfl (World.news_of_block (cs := (encP (x)).toArray) (t := 97) (fr := (0, 0)) hb8) (encP_one _) (by omega) (by have := hst.2; unfold maxLen; simp only at this; omega) (by have := hst.2; simp only at this; omega) h.hB.2 wr.heap.size rfl ?_
        intro g4 c4 w4 hown hgr hat hlt
        exact hK _ _ (h.app4 hu HXS.out hown hgr hat)
      · intro L val a wr hsz hJ hu hdep hE K hK
        obtain ⟨rS, rN, c0, c1, kS, kN, h⟩ := hJ
        have e1 : a.tmps[10]?.getD undef = .pointer (some ⟨gB, 0, none⟩) := ev_tmps (hE.old 10 (by rfl))
        go_simp
        exact hK _ _ (h.yield rfl (lt_of_un hu))
      · intro L val a wr hsz hJ hu hdep hE K hK
        obtain ⟨rS, rN, c0, c1, kS, kN, h⟩ := hJ
        obtain ⟨e0, o0⟩ := hE.arg hdep 5 87 rfl rfl rfl
        have e1 : a.tmps[87]?.getD undef = .pointer (some ⟨gB, 1, none⟩) := ev_tmps (e0.trans (h.pure 5 _ rfl o0))
        have q0 : wr.cell? ⟨gB, 1, none⟩ = some vN := by
          have hc : c1 = vN := (h.b13.resolve_right (fun h1 => on_not hu (h.cl.2 h1.1).1)).2
          rw [← hc]
          exact h.box.cell 1
        have ql := h.box.lt
        clear e0 o0
        go_simp
        exact hK _ _ (h.yield rfl (lt_of_un hu))
      · intro L val a wr hsz hJ hu hdep hE K hK
        obtain ⟨rS, rN, c0, c1, kS, kN, h⟩ := hJ
        have e1 : a.tmps[14]?.getD undef = .pointer (some ⟨gy, 0, none⟩) := ev_tmps (hE.old 14 (by rfl))
        have q0 := h.yb.cell 0
        have q1 := h.yb.cell 1
        have ql := h.yb.lt
        simp only [List.getElem?_toArray, List.getElem?_cons_zero, List.getElem?_cons_succ] at q0 q1
        go_simp
        exact hK _ _ (h.yield rfl (lt_of_un hu))
      · intro L val a wr hsz hJ hu hdep hE K hK
        obtain ⟨rS, rN, c0, c1, kS, kN, h⟩ := hJ
        obtain ⟨e0, o0⟩ := hE.arg hdep 7 89 rfl rfl rfl
        have e1 : a.tmps[89]?.getD undef = .agg #[.int .i64 (y).1, .int .i64 (y).2] := ev_tmps (e0.trans (h.pure 7 _ rfl o0))
        clear e0 o0
        go_simp
        exact hK _ _ (h.build8 (lt_of_un hu))
      · intro L val a wr hsz hJ hu hdep hE K hK
        obtain ⟨rS, rN, c0, c1, kS, kN, h⟩ := hJ
        obtain ⟨e0, o0⟩ := hE.arg hdep 6 88 rfl rfl rfl
        obtain ⟨e9, o9⟩ := hE.arg hdep 8 90 rfl rfl rfl
        obtain ⟨hb, e8, hb8, _⟩ := h.t8 o9
        have hst := ((h.n9.resolve_right (fun h1 => on_not hu h1.1)).2)
        have e1 := (e0.trans (h.pure 6 _ rfl o0)).trans hst.1.symm
        refine step_append_lies _ rfl (.tmp 88) (.tmp 90) 36 rfl BB 97 i0 _ 2 16 Try.underlying36 hi0 hz0 hz1 hz2 rfl (by omega) rN kN _ e1 h.n ⟨hb, 0, none⟩ 1 1 (encP (y)) (e9.trans e8) rfl (World.news_of_block (cs := (encP (y)).toArray) (t := 97) (fr := (0, 0)) hb8) (encP_one _) (by omega) (by have := hst.2; unfold maxLen; simp only at this; omega) (by have := hst.2; simp only at this; omega) h.hB.2 wr.heap.size rfl ?_
        intro g4 c4 w4 hown hgr hat hlt
        exact hK _ _ (h.app9 hu HXN.out hown hgr hat)
      · intro L val a wr hsz hJ hu hdep hE K hK
        obtain ⟨rS, rN, c0, c1, kS, kN, h⟩ := hJ
        have e1 : a.tmps[10]?.getD undef = .pointer (some ⟨gB, 0, none⟩) := ev_tmps (hE.old 10 (by rfl))
        go_simp
        exact hK _ _ (h.yield rfl (lt_of_un hu))
      · intro L val a wr hsz hJ hu hdep hE K hK
        obtain ⟨rS, rN, c0, c1, kS, kN, h⟩ := hJ
        obtain ⟨e0, o0⟩ := hE.arg hdep 10 92 rfl rfl rfl
        have e1 : a.tmps[92]?.getD undef = .pointer (some ⟨gB, 0, none⟩) := ev_tmps (e0.trans (h.pure 10 _ rfl o0))
        obtain ⟨As, cs, hsh⟩ := own_shape h.s
        have hv := (h.s4.resolve_left (fun h1 => h1.1 (dep_on hdep 4 rfl))).2.1.trans hsh
        have e2 := ev_tmps ((hE.arg hdep 4 86 rfl rfl rfl).1.trans hv)
        have hres := h.st11 hu (by first | exact ⟨dep_on hdep 1 rfl, dep_on hdep 4 rfl, dep_on hdep 6 rfl, dep_on hdep 9 rfl⟩ | exact ⟨dep_on hdep 6 rfl, dep_on hdep 9 rfl, dep_on hdep 11 rfl⟩) undef
        rw [hv] at hres
        have HRES := Lib.hid hres
        have q0 := h.box.cell 0
        have q1 := h.box.frozen 0
        have ql := h.box.lt
        simp only [List.getElem?_toArray, List.getElem?_cons_zero, List.getElem?_cons_succ] at q0
        clear e0 o0 hv hsh hres
        go_simp
        exact hK undef _ HRES.out
      · intro L val a wr hsz hJ hu hdep hE K hK
        obtain ⟨rS, rN, c0, c1, kS, kN, h⟩ := hJ
        have e1 : a.tmps[10]?.getD undef = .pointer (some ⟨gB, 0, none⟩) := ev_tmps (hE.old 10 (by rfl))
        go_simp
        exact hK _ _ (h.yield rfl (lt_of_un hu))
      · intro L val a wr hsz hJ hu hdep hE K hK
        obtain ⟨rS, rN, c0, c1, kS, kN, h⟩ := hJ
        obtain ⟨e0, o0⟩ := hE.arg hdep 12 93 rfl rfl rfl
        have e1 : a.tmps[93]?.getD undef = .pointer (some ⟨gB, 1, none⟩) := ev_tmps (e0.trans (h.pure 12 _ rfl o0))
        obtain ⟨As, cs, hsh⟩ := own_shape h.n
        have hv := (h.n9.resolve_left (fun h1 => h1.1 (dep_on hdep 9 rfl))).2.1.trans hsh
        have e2 := ev_tmps ((hE.arg hdep 9 91 rfl rfl rfl).1.trans hv)
        have hres := h.st13 hu (by first | exact ⟨dep_on hdep 1 rfl, dep_on hdep 4 rfl, dep_on hdep 6 rfl, dep_on hdep 9 rfl⟩ | exact ⟨dep_on hdep 6 rfl, dep_on hdep 9 rfl, dep_on hdep 11 rfl⟩) undef
        rw [hv] at hres
        have HRES := Lib.hid hres
        have q0 := h.box.cell 1
        have q1 := h.box.frozen 1
        have ql := h.box.lt
        simp only [List.getElem?_toArray, List.getElem?_cons_zero, List.getElem?_cons_succ] at q0
        clear e0 o0 hv hsh hres
        go_simp
        exact hK undef _ HRES.out
      intro L9 val w9 hall hJ9
      obtain ⟨hF9, hK9⟩ := hJ9.done (fun i hi => hall i (by simpa using hi))
      clear hall hJ9 hJ0
      simp only [putL]
      go_wp2
      go_roundg (gk - 1)
      case rel => exact ⟨k + 1, _, _, by have := HK.out; omega, by go_num, hF9, hKp2.trans hK9⟩
      case measure => have := HK.out; omega
    · obtain rfl : k = l.length := by omega
      obtain ⟨A1, x1, rfl⟩ := own_shape hF.s
      obtain ⟨A2, x2, rfl⟩ := own_shape hF.n
      have e1' : (lagAcc l p m).s.length = l.length := fullL_len _ _
      have e2' : (lagAcc l p m).n.length = l.length := fullL_len _ _
      have hr : RA wr A1 A2 (some ⟨w2.heap.size, 0, none⟩) (lagAcc l p m) := ⟨own_RL_at (fullL_len _ _) hF.s, own_RL_at (fullL_len _ _) hF.n, RL_lit [(p, m)] _ (hG3.keep hb3k) rfl⟩
      have HM := fun w hx hy => refMerge_any S N G A1 A2 (some ⟨w2.heap.size, 0, none⟩) c1 c2 c3 x1 x2 1 a (lagAcc l p m) w hx hy (by omega) (by rw [HFA.out.ln]; omega) (by omega) (by rw [e1']; omega) (by rw [e2']; omega) (by show 1 ≤ 140737488355328; omega) (fine_rg2 HFA.out) (fine_rg2 HFB.out)
      rw [e1', e2', show (lagAcc l p m).g.length = 1 from rfl, ← HR.out] at HM
      have HMH := Lib.hid HM
      clear HM e1' e2'
      clear qa0 qa1 qa2 q0 q1 q2 fa0 fa1 fa2 f0 f1 f2 fal fl
      replace hk1 := hk1.keep hb2k
      replace hk3 := hk3.keep hb2k
      have qa0 : World.cell? wr ⟨w.heap.size, 0, none⟩ = some (.slice S a.s.length c1) := hk1.cell 0
      have fa0 := hk1.frozen 0
      have qa1 : World.cell? wr ⟨w.heap.size, 1, none⟩ = some (.slice N a.n.length c2) := hk1.cell 1
      have fa1 := hk1.frozen 1
      have qa2 : World.cell? wr ⟨w.heap.size, 2, none⟩ = some (.slice G a.g.length c3) := hk1.cell 2
      have fa2 := hk1.frozen 2
      have fal := hk1.lt
      have q0 : World.cell? wr ⟨(w.heap.size + 1), 0, none⟩ = some (.slice .none 0 0) := hk3.cell 0
      have f0 := hk3.frozen 0
      have q1 : World.cell? wr ⟨(w.heap.size + 1), 1, none⟩ = some (.slice .none 0 0) := hk3.cell 1
      have f1 := hk3.frozen 1
      have q2 : World.cell? wr ⟨(w.heap.size + 1), 2, none⟩ = some (.slice .none 0 0) := hk3.cell 2
      have f2 := hk3.frozen 2
      have fl := hk3.lt
      have p0 : World.cell? wr ⟨gB, 0, none⟩ = some (.slice A1 l.length x1) := hF.blk.cell 0
      have pf0 := hF.blk.frozen 0
      have p1 : World.cell? wr ⟨gB, 1, none⟩ = some (.slice A2 l.length x2) := hF.blk.cell 1
      have pf1 := hF.blk.frozen 1
      have p2 : World.cell? wr ⟨gB, 2, none⟩ = some (.slice (some ⟨w2.heap.size, 0, none⟩) 1 1) := hF.blk.cell 2
      have pf2 := hF.blk.frozen 2
      have pfl := hF.blk.lt
      go_wp2_with fail
      refine (HMH.out _ (hx.keep hbw) hr).mono ?_
      rintro _ w5 ⟨S9, N9, G9, y1, y2, y3, rfl, r5, g5, hb5⟩
      have hB5 := bstep hbw hb5
      clear qa0 qa1 qa2 q0 q1 q2 fa0 fa1 fa2 f0 f1 f2 fal fl
      replace hk1 := hk1.keep hb5
      replace hk3 := hk3.keep hb5
      have qa0 : World.cell? w5 ⟨w.heap.size, 0, none⟩ = some (.slice S a.s.length c1) := hk1.cell 0
      have fa0 := hk1.frozen 0
      have qa1 : World.cell? w5 ⟨w.heap.size, 1, none⟩ = some (.slice N a.n.length c2) := hk1.cell 1
      have fa1 := hk1.frozen 1
      have qa2 : World.cell? w5 ⟨w.heap.size, 2, none⟩ = some (.slice G a.g.length c3) := hk1.cell 2
      have fa2 := hk1.frozen 2
      have fal := hk1.lt
      have q0 : World.cell? w5 ⟨(w.heap.size + 1), 0, none⟩ = some (.slice .none 0 0) := hk3.cell 0
      have f0 := hk3.frozen 0
      have q1 : World.cell? w5 ⟨(w.heap.size + 1), 1, none⟩ = some (.slice .none 0 0) := hk3.cell 1
      have f1 := hk3.frozen 1
      have q2 : World.cell? w5 ⟨(w.heap.size + 1), 2, none⟩ = some (.slice .none 0 0) := hk3.cell 2
      have f2 := hk3.frozen 2
      have fl := hk3.lt
      have z1 : w.heap.size + 2 ≤ wr.heap.size := by have := hb1.size; have := hb2.size; have := hb2k.size; simp at *; omega
      clear HR
      generalize addAcc a l p m = R at *
      go_wp2
      refine bodyPost_ret (v := .tuple #[.agg #[.slice S9 R.1.s.length y1, .slice N9 R.1.n.length y2, .slice G9 R.1.g.length y3], .int .i64 R.2]) (by simp [results, Try.results55, go_sem, q0, q1, q2, f0, f1, f2, fl]) rfl (RetA.all rfl ?_ (g5.mono (by omega)) (by (repeat (first | with_reducible exact Below.refl _ _ | assumption | with_reducible refine below_drewN ?_ _ | with_reducible refine Below.drew ?_ | with_reducible refine balloc ?_ _ | (with_reducible refine Below.setCell ?_ ?_ _; rotate_left; focus (first | (simp; done) | (simp; omega) | omega))))))
      have g5' := g5.mono z1
      repeat (first | exact r5 | (refine RA.far ?_ g5' (by first | (simp; done) | (simp; omega) | omega) _) | (refine RA.keep ?_ (balloc (Below.refl _ _) _)))
theorem refAdd_any (S N G L : Option Addr) (c1 c2 c3 c4 : Nat) (a : Acc) (l : List (Int × Int)) (p m : Int) (w : World) (hx : RA w S N G a) (hL : RL w L l) (l1 : a.s.length ≤ 140737488355328) (l2 : a.n.length ≤ 140737488355328) (l3 : a.g.length ≤ 140737488355328) (l4 : l.length ≤ 140737488355328) (ga : ∀ x ∈ a.g, -9223372036854775808 ≤ x.1 ∧ x.1 ≤ 9223372036854775807) (hp : -9223372036854775808 ≤ p ∧ p ≤ 9223372036854775807) (hm : -9223372036854775808 ≤ m ∧ m ≤ 9223372036854775807) :
    Calls Try.prog 55 #[.agg #[.slice S a.s.length c1, .slice N a.n.length c2, .slice G a.g.length c3], .slice L l.length c4, .int .i64 p, .int .i64 m] w (RetA w (addAcc a l p m)) := by
  by_cases h : accErr a = 0 ∧ lagErr l = 0 ∧ addArg a l p m = false
  · exact refAdd_yes S N G L c1 c2 c3 c4 a l p m w hx hL h.1 h.2.1 h.2.2
  · exact refAdd_no S N G L c1 c2 c3 c4 a l p m w hx hL l1 l2 l3 l4 ga hp hm h
end Go.Proofs.Ytdekbncpodjgnaa
