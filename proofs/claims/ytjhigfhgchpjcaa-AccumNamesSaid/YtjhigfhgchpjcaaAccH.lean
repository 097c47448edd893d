/-
  Contracts: accum.Merge, New, Times.
-/
import Derived.Test.YtjhigfhgchpjcaaAccG
namespace Go.Proofs.Ytjhigfhgchpjcaa
open Go.RowKit Runs Lagc
set_option linter.unusedVariables false
set_option linter.unusedSimpArgs false

theorem RetA.all {w w' : World} {r : Acc × Int} {S N G : Option Addr} {c1 c2 c3 : Nat} {x : Int} (hx : r.2 = x) (h : RA w' S N G r.1) (hf : FA w.heap.size S N G) (hb : Below w.heap.size w w') : RetA w r (.returned (.tuple #[.agg #[.slice S r.1.s.length c1, .slice N r.1.n.length c2, .slice G r.1.g.length c3], .int .i64 x])) w' := by
  subst hx; exact ⟨S, N, G, c1, c2, c3, rfl, h, hf, hb⟩
theorem mergeS_e1 {a b : Acc} (h : accErr a ≠ 0) : mergeS a b = (.none, accErr a) := by unfold mergeS; rw [if_pos h]
theorem mergeS_e2 {a b : Acc} (h : accErr a = 0) (h2 : accErr b ≠ 0) : mergeS a b = (.none, accErr b) := by unfold mergeS; rw [if_neg (by simpa using h), if_pos h2]
set_option maxRecDepth 20000 in
set_option maxHeartbeats 1000000 in
theorem accMerge_any (S N G S' N' G' : Option Addr) (c1 c2 c3 d1 d2 d3 : Nat) (a b : Acc) (w : World) (hx : RA w S N G a) (hy : RA w S' N' G' b) (l1 : a.s.length ≤ 140737488355328) (l2 : a.n.length ≤ 140737488355328) (l3 : a.g.length ≤ 140737488355328) (k1 : b.s.length ≤ 140737488355328) (k2 : b.n.length ≤ 140737488355328) (k3 : b.g.length ≤ 140737488355328) :
    Calls Try.prog 20 #[.agg #[.slice S a.s.length c1, .slice N a.n.length c2, .slice G a.g.length c3], .agg #[.slice S' b.s.length d1, .slice N' b.n.length d2, .slice G' b.g.length d3]] w (RetA w (mergeS a b)) := by
  have hbX : Below w.heap.size w (((w.alloc (.cells #[.slice S a.s.length c1, .slice N a.n.length c2, .slice G a.g.length c3] 25)).alloc (.cells #[.slice S' b.s.length d1, .slice N' b.n.length d2, .slice G' b.g.length d3] 25)).alloc (.cells #[.slice .none 0 0, .slice .none 0 0, .slice .none 0 0] 25)) := balloc (balloc (balloc (Below.refl _ _) _) _) _
  have hk1 := ((Blk.new w 25 #[.slice S a.s.length c1, .slice N a.n.length c2, .slice G a.g.length c3]).alloc (.cells #[.slice S' b.s.length d1, .slice N' b.n.length d2, .slice G' b.g.length d3] 25)).alloc (.cells #[.slice .none 0 0, .slice .none 0 0, .slice .none 0 0] 25)
  have hk2 := (Blk.newAt (w := w.alloc (.cells #[.slice S a.s.length c1, .slice N a.n.length c2, .slice G a.g.length c3] 25)) (g := w.heap.size + 1) 25 #[.slice S' b.s.length d1, .slice N' b.n.length d2, .slice G' b.g.length d3] (by simp)).alloc (.cells #[.slice .none 0 0, .slice .none 0 0, .slice .none 0 0] 25)
  have hk3 := Blk.newAt (w := (w.alloc (.cells #[.slice S a.s.length c1, .slice N a.n.length c2, .slice G a.g.length c3] 25)).alloc (.cells #[.slice S' b.s.length d1, .slice N' b.n.length d2, .slice G' b.g.length d3] 25)) (g := w.heap.size + 2) 25 #[.slice .none 0 0, .slice .none 0 0, .slice .none 0 0] (by simp)
  have HCA := fun w hx => accCheck_any S N G c1 c2 c3 a w hx l1 l2 l3
  have HCB := fun w hx => accCheck_any S' N' G' d1 d2 d3 b w hx k1 k2 k3
  by_cases ea : accErr a = 0
  · by_cases eb : accErr b = 0
    · have fa := acc_fine.1 ea
      have fb := acc_fine.1 eb
      by_cases hl : a.s.length = b.s.length
      · have HM := fun w hx hy => merge_any S N G S' N' G' c1 c2 c3 d1 d2 d3 a b w hx hy fa fb hl
        rw [← mergeS_fine fa fb hl] at HM
        have HMH := Lib.hid HM
        have e1 : ((a.s.length : Int) != b.s.length) = false := by rw [bne_eq_false_iff_eq]; omega
        rw [ea] at HCA
        rw [eb] at HCB
        clear HM ea eb fa fb hl
        go_enter Try.func20, Try.ntmps20
        go_wp2_with fail
        refine (HCA _ (hx.keep hbX)).mono ?_
        rintro _ w1 ⟨rfl, hb1⟩
        have hB1 := bstep hbX hb1
        replace hk1 := hk1.keep hb1
        replace hk2 := hk2.keep hb1
        replace hk3 := hk3.keep hb1
        have qa0 : World.cell? w1 ⟨w.heap.size, 0, none⟩ = some (.slice S a.s.length c1) := hk1.cell 0
        have fa0 := hk1.frozen 0
        have qa1 : World.cell? w1 ⟨w.heap.size, 1, none⟩ = some (.slice N a.n.length c2) := hk1.cell 1
        have fa1 := hk1.frozen 1
        have qa2 : World.cell? w1 ⟨w.heap.size, 2, none⟩ = some (.slice G a.g.length c3) := hk1.cell 2
        have fa2 := hk1.frozen 2
        have fal := hk1.lt
        have qb0 : World.cell? w1 ⟨(w.heap.size + 1), 0, none⟩ = some (.slice S' b.s.length d1) := hk2.cell 0
        have fb0 := hk2.frozen 0
        have qb1 : World.cell? w1 ⟨(w.heap.size + 1), 1, none⟩ = some (.slice N' b.n.length d2) := hk2.cell 1
        have fb1 := hk2.frozen 1
        have qb2 : World.cell? w1 ⟨(w.heap.size + 1), 2, none⟩ = some (.slice G' b.g.length d3) := hk2.cell 2
        have fb2 := hk2.frozen 2
        have fbl := hk2.lt
        have q0 : World.cell? w1 ⟨(w.heap.size + 2), 0, none⟩ = some (.slice .none 0 0) := hk3.cell 0
        have f0 := hk3.frozen 0
        have q1 : World.cell? w1 ⟨(w.heap.size + 2), 1, none⟩ = some (.slice .none 0 0) := hk3.cell 1
        have f1 := hk3.frozen 1
        have q2 : World.cell? w1 ⟨(w.heap.size + 2), 2, none⟩ = some (.slice .none 0 0) := hk3.cell 2
        have f2 := hk3.frozen 2
        have fl := hk3.lt
        go_wp2_with fail
        refine (HCB _ (hy.keep hB1)).mono ?_
        rintro _ w2 ⟨rfl, hb2⟩
        have hB2 := bstep hB1 hb2
        clear qa0 qa1 qa2 qb0 qb1 qb2 q0 q1 q2 fa0 fa1 fa2 fb0 fb1 fb2 f0 f1 f2 fal fbl fl
        replace hk1 := hk1.keep hb2
        replace hk2 := hk2.keep hb2
        replace hk3 := hk3.keep hb2
        have qa0 : World.cell? w2 ⟨w.heap.size, 0, none⟩ = some (.slice S a.s.length c1) := hk1.cell 0
        have fa0 := hk1.frozen 0
        have qa1 : World.cell? w2 ⟨w.heap.size, 1, none⟩ = some (.slice N a.n.length c2) := hk1.cell 1
        have fa1 := hk1.frozen 1
        have qa2 : World.cell? w2 ⟨w.heap.size, 2, none⟩ = some (.slice G a.g.length c3) := hk1.cell 2
        have fa2 := hk1.frozen 2
        have fal := hk1.lt
        have qb0 : World.cell? w2 ⟨(w.heap.size + 1), 0, none⟩ = some (.slice S' b.s.length d1) := hk2.cell 0
        have fb0 := hk2.frozen 0
        have qb1 : World.cell? w2 ⟨(w.heap.size + 1), 1, none⟩ = some (.slice N' b.n.length d2) := hk2.cell 1
        have fb1 := hk2.frozen 1
        have qb2 : World.cell? w2 ⟨(w.heap.size + 1), 2, none⟩ = some (.slice G' b.g.length d3) := hk2.cell 2
        have fb2 := hk2.frozen 2
        have fbl := hk2.lt
        have q0 : World.cell? w2 ⟨(w.heap.size + 2), 0, none⟩ = some (.slice .none 0 0) := hk3.cell 0
        have f0 := hk3.frozen 0
        have q1 : World.cell? w2 ⟨(w.heap.size + 2), 1, none⟩ = some (.slice .none 0 0) := hk3.cell 1
        have f1 := hk3.frozen 1
        have q2 : World.cell? w2 ⟨(w.heap.size + 2), 2, none⟩ = some (.slice .none 0 0) := hk3.cell 2
        have f2 := hk3.frozen 2
        have fl := hk3.lt
        go_wp2_with fail
        refine (HMH.out _ (hx.keep hB2) (hy.keep hB2)).mono ?_
        rintro _ w3 ⟨S9, N9, G9, x1, x2, x3, rfl, r3, g3, hb3⟩
        have hB3 := bstep hB2 hb3
        clear qa0 qa1 qa2 qb0 qb1 qb2 q0 q1 q2 fa0 fa1 fa2 fb0 fb1 fb2 f0 f1 f2 fal fbl fl
        replace hk1 := hk1.keep hb3
        replace hk2 := hk2.keep hb3
        replace hk3 := hk3.keep hb3
        have qa0 : World.cell? w3 ⟨w.heap.size, 0, none⟩ = some (.slice S a.s.length c1) := hk1.cell 0
        have fa0 := hk1.frozen 0
        have qa1 : World.cell? w3 ⟨w.heap.size, 1, none⟩ = some (.slice N a.n.length c2) := hk1.cell 1
        have fa1 := hk1.frozen 1
        have qa2 : World.cell? w3 ⟨w.heap.size, 2, none⟩ = some (.slice G a.g.length c3) := hk1.cell 2
        have fa2 := hk1.frozen 2
        have fal := hk1.lt
        have qb0 : World.cell? w3 ⟨(w.heap.size + 1), 0, none⟩ = some (.slice S' b.s.length d1) := hk2.cell 0
        have fb0 := hk2.frozen 0
        have qb1 : World.cell? w3 ⟨(w.heap.size + 1), 1, none⟩ = some (.slice N' b.n.length d2) := hk2.cell 1
        have fb1 := hk2.frozen 1
        have qb2 : World.cell? w3 ⟨(w.heap.size + 1), 2, none⟩ = some (.slice G' b.g.length d3) := hk2.cell 2
        have fb2 := hk2.frozen 2
        have fbl := hk2.lt
        have q0 : World.cell? w3 ⟨(w.heap.size + 2), 0, none⟩ = some (.slice .none 0 0) := hk3.cell 0
        have f0 := hk3.frozen 0
        have q1 : World.cell? w3 ⟨(w.heap.size + 2), 1, none⟩ = some (.slice .none 0 0) := hk3.cell 1
        have f1 := hk3.frozen 1
        have q2 : World.cell? w3 ⟨(w.heap.size + 2), 2, none⟩ = some (.slice .none 0 0) := hk3.cell 2
        have f2 := hk3.frozen 2
        have fl := hk3.lt
        have z1 : w.heap.size + 3 ≤ w2.heap.size := by have := hb1.size; have := hb2.size; simp at *; omega
        generalize hR : mergeS a b = R at *
        go_wp2
        refine bodyPost_ret (v := .tuple #[.agg #[.slice S9 R.1.s.length x1, .slice N9 R.1.n.length x2, .slice G9 R.1.g.length x3], .int .i64 R.2]) (by simp [results, Try.results20, go_sem, q0, q1, q2, f0, f1, f2, fl]) rfl (RetA.all rfl ?_ (g3.mono (by omega)) (by (repeat (first | with_reducible exact Below.refl _ _ | assumption | with_reducible refine below_drewN ?_ _ | with_reducible refine Below.drew ?_ | with_reducible refine balloc ?_ _ | (with_reducible refine Below.setCell ?_ ?_ _; rotate_left; focus (first | (simp; done) | (simp; omega) | omega))))))
        have g3' := g3.mono z1
        repeat (first | exact r3 | (refine RA.far ?_ g3' (by first | (simp; done) | (simp; omega) | omega) _) | (refine RA.keep ?_ (balloc (Below.refl _ _) _)))
      · have e1 : ((a.s.length : Int) != b.s.length) = true := by rw [bne_iff_ne]; omega
        have HR := Lib.hid (mergeS_len fa fb hl)
        rw [ea] at HCA
        rw [eb] at HCB
        clear ea eb fa fb hl
        go_enter Try.func20, Try.ntmps20
        go_wp2_with fail
        refine (HCA _ (hx.keep hbX)).mono ?_
        rintro _ w1 ⟨rfl, hb1⟩
        have hB1 := bstep hbX hb1
        replace hk1 := hk1.keep hb1
        replace hk2 := hk2.keep hb1
        replace hk3 := hk3.keep hb1
        have qa0 : World.cell? w1 ⟨w.heap.size, 0, none⟩ = some (.slice S a.s.length c1) := hk1.cell 0
        have fa0 := hk1.frozen 0
        have qa1 : World.cell? w1 ⟨w.heap.size, 1, none⟩ = some (.slice N a.n.length c2) := hk1.cell 1
        have fa1 := hk1.frozen 1
        have qa2 : World.cell? w1 ⟨w.heap.size, 2, none⟩ = some (.slice G a.g.length c3) := hk1.cell 2
        have fa2 := hk1.frozen 2
        have fal := hk1.lt
        have qb0 : World.cell? w1 ⟨(w.heap.size + 1), 0, none⟩ = some (.slice S' b.s.length d1) := hk2.cell 0
        have fb0 := hk2.frozen 0
        have qb1 : World.cell? w1 ⟨(w.heap.size + 1), 1, none⟩ = some (.slice N' b.n.length d2) := hk2.cell 1
        have fb1 := hk2.frozen 1
        have qb2 : World.cell? w1 ⟨(w.heap.size + 1), 2, none⟩ = some (.slice G' b.g.length d3) := hk2.cell 2
        have fb2 := hk2.frozen 2
        have fbl := hk2.lt
        have q0 : World.cell? w1 ⟨(w.heap.size + 2), 0, none⟩ = some (.slice .none 0 0) := hk3.cell 0
        have f0 := hk3.frozen 0
        have q1 : World.cell? w1 ⟨(w.heap.size + 2), 1, none⟩ = some (.slice .none 0 0) := hk3.cell 1
        have f1 := hk3.frozen 1
        have q2 : World.cell? w1 ⟨(w.heap.size + 2), 2, none⟩ = some (.slice .none 0 0) := hk3.cell 2
        have f2 := hk3.frozen 2
        have fl := hk3.lt
        go_wp2_with fail
        refine (HCB _ (hy.keep hB1)).mono ?_
        rintro _ w2 ⟨rfl, hb2⟩
        have hB2 := bstep hB1 hb2
        clear qa0 qa1 qa2 qb0 qb1 qb2 q0 q1 q2 fa0 fa1 fa2 fb0 fb1 fb2 f0 f1 f2 fal fbl fl
        replace hk1 := hk1.keep hb2
        replace hk2 := hk2.keep hb2
        replace hk3 := hk3.keep hb2
        have qa0 : World.cell? w2 ⟨w.heap.size, 0, none⟩ = some (.slice S a.s.length c1) := hk1.cell 0
        have fa0 := hk1.frozen 0
        have qa1 : World.cell? w2 ⟨w.heap.size, 1, none⟩ = some (.slice N a.n.length c2) := hk1.cell 1
        have fa1 := hk1.frozen 1
        have qa2 : World.cell? w2 ⟨w.heap.size, 2, none⟩ = some (.slice G a.g.length c3) := hk1.cell 2
        have fa2 := hk1.frozen 2
        have fal := hk1.lt
        have qb0 : World.cell? w2 ⟨(w.heap.size + 1), 0, none⟩ = some (.slice S' b.s.length d1) := hk2.cell 0
        have fb0 := hk2.frozen 0
        have qb1 : World.cell? w2 ⟨(w.heap.size + 1), 1, none⟩ = some (.slice N' b.n.length d2) := hk2.cell 1
        have fb1 := hk2.frozen 1
        have qb2 : World.cell? w2 ⟨(w.heap.size + 1), 2, none⟩ = some (.slice G' b.g.length d3) := hk2.cell 2
        have fb2 := hk2.frozen 2
        have fbl := hk2.lt
        have q0 : World.cell? w2 ⟨(w.heap.size + 2), 0, none⟩ = some (.slice .none 0 0) := hk3.cell 0
        have f0 := hk3.frozen 0
        have q1 : World.cell? w2 ⟨(w.heap.size + 2), 1, none⟩ = some (.slice .none 0 0) := hk3.cell 1
        have f1 := hk3.frozen 1
        have q2 : World.cell? w2 ⟨(w.heap.size + 2), 2, none⟩ = some (.slice .none 0 0) := hk3.cell 2
        have f2 := hk3.frozen 2
        have fl := hk3.lt
        go_wp2
        exact bodyPost_ret (v := .tuple #[.agg #[.slice .none 0 0, .slice .none 0 0, .slice .none 0 0], .int .i64 2]) (by simp [results, Try.results20, go_sem, q0, q1, q2, f0, f1, f2, fl]) rfl (RetA.no HR.out (by (repeat (first | with_reducible exact Below.refl _ _ | assumption | with_reducible refine below_drewN ?_ _ | with_reducible refine Below.drew ?_ | with_reducible refine balloc ?_ _ | (with_reducible refine Below.setCell ?_ ?_ _; rotate_left; focus (first | (simp; done) | (simp; omega) | omega))))))
    · have HR := Lib.hid (mergeS_e2 ea eb)
      have e2 : (accErr b != 0) = true := by rw [bne_iff_ne]; exact eb
      rw [ea] at HCA
      clear ea eb
      generalize accErr b = E at *
      go_enter Try.func20, Try.ntmps20
      go_wp2_with fail
      refine (HCA _ (hx.keep hbX)).mono ?_
      rintro _ w1 ⟨rfl, hb1⟩
      have hB1 := bstep hbX hb1
      replace hk1 := hk1.keep hb1
      replace hk2 := hk2.keep hb1
      replace hk3 := hk3.keep hb1
      have qa0 : World.cell? w1 ⟨w.heap.size, 0, none⟩ = some (.slice S a.s.length c1) := hk1.cell 0
      have fa0 := hk1.frozen 0
      have qa1 : World.cell? w1 ⟨w.heap.size, 1, none⟩ = some (.slice N a.n.length c2) := hk1.cell 1
      have fa1 := hk1.frozen 1
      have qa2 : World.cell? w1 ⟨w.heap.size, 2, none⟩ = some (.slice G a.g.length c3) := hk1.cell 2
      have fa2 := hk1.frozen 2
      have fal := hk1.lt
      have qb0 : World.cell? w1 ⟨(w.heap.size + 1), 0, none⟩ = some (.slice S' b.s.length d1) := hk2.cell 0
      have fb0 := hk2.frozen 0
      have qb1 : World.cell? w1 ⟨(w.heap.size + 1), 1, none⟩ = some (.slice N' b.n.length d2) := hk2.cell 1
      have fb1 := hk2.frozen 1
      have qb2 : World.cell? w1 ⟨(w.heap.size + 1), 2, none⟩ = some (.slice G' b.g.length d3) := hk2.cell 2
      have fb2 := hk2.frozen 2
      have fbl := hk2.lt
      have q0 : World.cell? w1 ⟨(w.heap.size + 2), 0, none⟩ = some (.slice .none 0 0) := hk3.cell 0
      have f0 := hk3.frozen 0
      have q1 : World.cell? w1 ⟨(w.heap.size + 2), 1, none⟩ = some (.slice .none 0 0) := hk3.cell 1
      have f1 := hk3.frozen 1
      have q2 : World.cell? w1 ⟨(w.heap.size + 2), 2, none⟩ = some (.slice .none 0 0) := hk3.cell 2
      have f2 := hk3.frozen 2
      have fl := hk3.lt
      go_wp2_with fail
      refine (HCB _ (hy.keep hB1)).mono ?_
      rintro _ w2 ⟨rfl, hb2⟩
      have hB2 := bstep hB1 hb2
      clear qa0 qa1 qa2 qb0 qb1 qb2 q0 q1 q2 fa0 fa1 fa2 fb0 fb1 fb2 f0 f1 f2 fal fbl fl
      replace hk1 := hk1.keep hb2
      replace hk2 := hk2.keep hb2
      replace hk3 := hk3.keep hb2
      have qa0 : World.cell? w2 ⟨w.heap.size, 0, none⟩ = some (.slice S a.s.length c1) := hk1.cell 0
      have fa0 := hk1.frozen 0
      have qa1 : World.cell? w2 ⟨w.heap.size, 1, none⟩ = some (.slice N a.n.length c2) := hk1.cell 1
      have fa1 := hk1.frozen 1
      have qa2 : World.cell? w2 ⟨w.heap.size, 2, none⟩ = some (.slice G a.g.length c3) := hk1.cell 2
      have fa2 := hk1.frozen 2
      have fal := hk1.lt
      have qb0 : World.cell? w2 ⟨(w.heap.size + 1), 0, none⟩ = some (.slice S' b.s.length d1) := hk2.cell 0
      have fb0 := hk2.frozen 0
      have qb1 : World.cell? w2 ⟨(w.heap.size + 1), 1, none⟩ = some (.slice N' b.n.length d2) := hk2.cell 1
      have fb1 := hk2.frozen 1
      have qb2 : World.cell? w2 ⟨(w.heap.size + 1), 2, none⟩ = some (.slice G' b.g.length d3) := hk2.cell 2
      have fb2 := hk2.frozen 2
      have fbl := hk2.lt
      have q0 : World.cell? w2 ⟨(w.heap.size + 2), 0, none⟩ = some (.slice .none 0 0) := hk3.cell 0
      have f0 := hk3.frozen 0
      have q1 : World.cell? w2 ⟨(w.heap.size + 2), 1, none⟩ = some (.slice .none 0 0) := hk3.cell 1
      have f1 := hk3.frozen 1
      have q2 : World.cell? w2 ⟨(w.heap.size + 2), 2, none⟩ = some (.slice .none 0 0) := hk3.cell 2
      have f2 := hk3.frozen 2
      have fl := hk3.lt
      go_wp2
      exact bodyPost_ret (v := .tuple #[.agg #[.slice .none 0 0, .slice .none 0 0, .slice .none 0 0], .int .i64 E]) (by simp [results, Try.results20, go_sem, q0, q1, q2, f0, f1, f2, fl]) rfl (RetA.no HR.out (by (repeat (first | with_reducible exact Below.refl _ _ | assumption | with_reducible refine below_drewN ?_ _ | with_reducible refine Below.drew ?_ | with_reducible refine balloc ?_ _ | (with_reducible refine Below.setCell ?_ ?_ _; rotate_left; focus (first | (simp; done) | (simp; omega) | omega))))))
  · have HR := Lib.hid (mergeS_e1 (b := b) ea)
    have e2 : (accErr a != 0) = true := by rw [bne_iff_ne]; exact ea
    clear ea
    generalize accErr a = E at *
    go_enter Try.func20, Try.ntmps20
    go_wp2_with fail
    refine (HCA _ (hx.keep hbX)).mono ?_
    rintro _ w1 ⟨rfl, hb1⟩
    have hB1 := bstep hbX hb1
    replace hk1 := hk1.keep hb1
    replace hk2 := hk2.keep hb1
    replace hk3 := hk3.keep hb1
    have qa0 : World.cell? w1 ⟨w.heap.size, 0, none⟩ = some (.slice S a.s.length c1) := hk1.cell 0
    have fa0 := hk1.frozen 0
    have qa1 : World.cell? w1 ⟨w.heap.size, 1, none⟩ = some (.slice N a.n.length c2) := hk1.cell 1
    have fa1 := hk1.frozen 1
    have qa2 : World.cell? w1 ⟨w.heap.size, 2, none⟩ = some (.slice G a.g.length c3) := hk1.cell 2
    have fa2 := hk1.frozen 2
    have fal := hk1.lt
    have qb0 : World.cell? w1 ⟨(w.heap.size + 1), 0, none⟩ = some (.slice S' b.s.length d1) := hk2.cell 0
    have fb0 := hk2.frozen 0
    have qb1 : World.cell? w1 ⟨(w.heap.size + 1), 1, none⟩ = some (.slice N' b.n.length d2) := hk2.cell 1
    have fb1 := hk2.frozen 1
    have qb2 : World.cell? w1 ⟨(w.heap.size + 1), 2, none⟩ = some (.slice G' b.g.length d3) := hk2.cell 2
    have fb2 := hk2.frozen 2
    have fbl := hk2.lt
    have q0 : World.cell? w1 ⟨(w.heap.size + 2), 0, none⟩ = some (.slice .none 0 0) := hk3.cell 0
    have f0 := hk3.frozen 0
    have q1 : World.cell? w1 ⟨(w.heap.size + 2), 1, none⟩ = some (.slice .none 0 0) := hk3.cell 1
    have f1 := hk3.frozen 1
    have q2 : World.cell? w1 ⟨(w.heap.size + 2), 2, none⟩ = some (.slice .none 0 0) := hk3.cell 2
    have f2 := hk3.frozen 2
    have fl := hk3.lt
    go_wp2
    exact bodyPost_ret (v := .tuple #[.agg #[.slice .none 0 0, .slice .none 0 0, .slice .none 0 0], .int .i64 E]) (by simp [results, Try.results20, go_sem, q0, q1, q2, f0, f1, f2, fl]) rfl (RetA.no HR.out (by (repeat (first | with_reducible exact Below.refl _ _ | assumption | with_reducible refine below_drewN ?_ _ | with_reducible refine Below.drew ?_ | with_reducible refine balloc ?_ _ | (with_reducible refine Below.setCell ?_ ?_ _; rotate_left; focus (first | (simp; done) | (simp; omega) | omega))))))

/-! ### New -/
theorem newS_no {m : Int} (h : m < 0 ∨ 255 < m) : newS m = (.none, 2) := by unfold newS; rw [if_pos h]
theorem newS_yes {m : Nat} (h : m ≤ 255) : newS (m : Int) = (⟨List.replicate (2 * m + 1) (0, 0), List.replicate (2 * m + 1) (0, 0), []⟩, 0) := by
  unfold newS; rw [if_neg (by omega)]; simp
set_option maxHeartbeats 1000000 in
theorem accNew_any (m : Int) (w : World) (h : -9223372036854775808 ≤ m ∧ m ≤ 9223372036854775807) :
    Calls Try.prog 12 #[.int .i64 m] w (RetA w (newS m)) := by
  have hk3 := Blk.new w 25 #[.slice .none 0 0, .slice .none 0 0, .slice .none 0 0]
  have q0 : World.cell? (w.alloc (.cells #[.slice .none 0 0, .slice .none 0 0, .slice .none 0 0] 25)) ⟨w.heap.size, 0, none⟩ = some (.slice .none 0 0) := hk3.cell 0
  have f0 := hk3.frozen 0
  have q1 : World.cell? (w.alloc (.cells #[.slice .none 0 0, .slice .none 0 0, .slice .none 0 0] 25)) ⟨w.heap.size, 1, none⟩ = some (.slice .none 0 0) := hk3.cell 1
  have f1 := hk3.frozen 1
  have q2 : World.cell? (w.alloc (.cells #[.slice .none 0 0, .slice .none 0 0, .slice .none 0 0] 25)) ⟨w.heap.size, 2, none⟩ = some (.slice .none 0 0) := hk3.cell 2
  have f2 := hk3.frozen 2
  have fl := hk3.lt
  by_cases h1 : m < 0
  · have HR := Lib.hid (newS_no (.inl h1))
    go_enter Try.func12, Try.ntmps12
    go_wp2
    exact bodyPost_ret (v := .tuple #[.agg #[.slice .none 0 0, .slice .none 0 0, .slice .none 0 0], .int .i64 2]) (by simp [results, Try.results12, go_sem, q0, q1, q2, f0, f1, f2, fl]) rfl (RetA.no HR.out (by (repeat (first | with_reducible exact Below.refl _ _ | assumption | with_reducible refine below_drewN ?_ _ | with_reducible refine Below.drew ?_ | with_reducible refine balloc ?_ _ | (with_reducible refine Below.setCell ?_ ?_ _; rotate_left; focus (first | (simp; done) | (simp; omega) | omega))))))
  by_cases h2 : 255 < m
  · have HR := Lib.hid (newS_no (.inr h2))
    go_enter Try.func12, Try.ntmps12
    go_wp2
    exact bodyPost_ret (v := .tuple #[.agg #[.slice .none 0 0, .slice .none 0 0, .slice .none 0 0], .int .i64 2]) (by simp [results, Try.results12, go_sem, q0, q1, q2, f0, f1, f2, fl]) rfl (RetA.no HR.out (by (repeat (first | with_reducible exact Below.refl _ _ | assumption | with_reducible refine below_drewN ?_ _ | with_reducible refine Below.drew ?_ | with_reducible refine balloc ?_ _ | (with_reducible refine Below.setCell ?_ ?_ _; rotate_left; focus (first | (simp; done) | (simp; omega) | omega))))))
  obtain ⟨M, rfl⟩ : ∃ M : Nat, m = M := ⟨m.toNat, by omega⟩
  have HR := Lib.hid (newS_yes (m := M) (by omega))
  obtain ⟨i0, hi0, hz0, hz1, hz2⟩ := info_parts info_count
  have hmk := mk_row (P := Try.prog) 22 60 Try.underlying22 hi0 hz0 hz1 hz2 encP encP_len (by omega) (0, 0) rfl (2 * M + 1) (by omega) (by omega)
  have hcast : (2 : Int) * (M : Int) + 1 = ((2 * M + 1 : Nat) : Int) := by omega
  rw [← hcast] at hmk
  clear hcast
  go_enter Try.func12, Try.ntmps12
  go_wp2
  go_region
  all_goals go_wp2
  · refine bodyPost_ret (v := .tuple #[.agg #[.slice (some ⟨w.heap.size + 1, 0, none⟩) (2 * M + 1) (2 * M + 1), .slice (some ⟨w.heap.size + 2, 0, none⟩) (2 * M + 1) (2 * M + 1), .slice .none 0 0], .int .i64 0]) (by simp [results, Try.results12, go_sem, q0, q1, q2, f0, f1, f2, fl]) rfl (RetA.yes HR.out (by simp) (by simp) rfl ⟨?_, Fresh.mk (by omega)⟩ ⟨?_, Fresh.mk (by omega)⟩ ⟨RL.nil, Fresh.none⟩ (by (repeat (first | with_reducible exact Below.refl _ _ | assumption | with_reducible refine below_drewN ?_ _ | with_reducible refine Below.drew ?_ | with_reducible refine balloc ?_ _ | (with_reducible refine Below.setCell ?_ ?_ _; rotate_left; focus (first | (simp; done) | (simp; omega) | omega))))))
    · repeat (refine RL.far ?_ (base := w.heap.size + 1) (Fresh.mk (by omega)) (by simp) _)
      refine blk_RL (e := 60) ?_
      repeat (first | with_reducible refine Blk.drew ?_ | with_reducible refine Blk.drewN ?_ _ | (with_reducible refine Blk.newAt _ _ ?_; simp; done) | with_reducible refine Blk.alloc ?_ _)
    · repeat (refine RL.far ?_ (base := w.heap.size + 1) (Fresh.mk (by omega)) (by simp) _)
      refine blk_RL (e := 60) ?_
      repeat (first | with_reducible refine Blk.drew ?_ | with_reducible refine Blk.drewN ?_ _ | (with_reducible refine Blk.newAt _ _ ?_; simp; done) | with_reducible refine Blk.alloc ?_ _)
  · refine bodyPost_ret (v := .tuple #[.agg #[.slice (some ⟨w.heap.size + 2, 0, none⟩) (2 * M + 1) (2 * M + 1), .slice (some ⟨w.heap.size + 1, 0, none⟩) (2 * M + 1) (2 * M + 1), .slice .none 0 0], .int .i64 0]) (by simp [results, Try.results12, go_sem, q0, q1, q2, f0, f1, f2, fl]) rfl (RetA.yes HR.out (by simp) (by simp) rfl ⟨?_, Fresh.mk (by omega)⟩ ⟨?_, Fresh.mk (by omega)⟩ ⟨RL.nil, Fresh.none⟩ (by (repeat (first | with_reducible exact Below.refl _ _ | assumption | with_reducible refine below_drewN ?_ _ | with_reducible refine Below.drew ?_ | with_reducible refine balloc ?_ _ | (with_reducible refine Below.setCell ?_ ?_ _; rotate_left; focus (first | (simp; done) | (simp; omega) | omega))))))
    · repeat (refine RL.far ?_ (base := w.heap.size + 1) (Fresh.mk (by omega)) (by simp) _)
      refine blk_RL (e := 60) ?_
      repeat (first | with_reducible refine Blk.drew ?_ | with_reducible refine Blk.drewN ?_ _ | (with_reducible refine Blk.newAt _ _ ?_; simp; done) | with_reducible refine Blk.alloc ?_ _)
    · repeat (refine RL.far ?_ (base := w.heap.size + 1) (Fresh.mk (by omega)) (by simp) _)
      refine blk_RL (e := 60) ?_
      repeat (first | with_reducible refine Blk.drew ?_ | with_reducible refine Blk.drewN ?_ _ | (with_reducible refine Blk.newAt _ _ ?_; simp; done) | with_reducible refine Blk.alloc ?_ _)

/-! ### Times -/
def timP (w : World) (r : Int × Int) (e : Ending) (w' : World) : Prop := e = .returned (.tuple #[.int .i64 r.1, .int .i64 r.2]) ∧ Below w.heap.size w w'
theorem timS_no {a : Acc} (h : accErr a ≠ 0) : timS a = (0, accErr a) := by unfold timS; rw [if_pos h]
theorem timS_yes {a : Acc} (h : accErr a = 0) : timS a = (tot a.g, 0) := by unfold timS; rw [if_neg (by simpa using h)]
theorem tot_bound {l : List G} (h : ∀ g ∈ l, okG g) : 0 ≤ tot l ∧ tot l ≤ 1000000000 * l.length := by
  induction l with
  | nil => simp [tot_nil]
  | cons g r ih =>
    have h1 := h g (by simp)
    have h2 := ih (fun x hx => h x (by simp [hx]))
    unfold okG at h1
    rw [tot_cons]
    simp only [List.length_cons]
    omega
theorem tot_snoc {l : List G} {k : Nat} (hk : k < l.length) : tot (l.take (k + 1)) = tot (l.take k) + (l.getD k (0, 0)).2 := by
  rw [List.take_succ_eq_append_getElem hk, tot_append, tot_one, getD_lt _ _ hk]
set_option maxHeartbeats 1000000 in
theorem accTimes_any (S N G : Option Addr) (c1 c2 c3 : Nat) (a : Acc) (w : World) (hx : RA w S N G a) (l1 : a.s.length ≤ 140737488355328) (l2 : a.n.length ≤ 140737488355328) (l3 : a.g.length ≤ 140737488355328) :
    Calls Try.prog 26 #[.agg #[.slice S a.s.length c1, .slice N a.n.length c2, .slice G a.g.length c3]] w (timP w (timS a)) := by
  have hb0 : Below w.heap.size w (w.alloc (.cells #[.slice S a.s.length c1, .slice N a.n.length c2, .slice G a.g.length c3] 25)) := balloc (Below.refl _ _) _
  have hk1 := Blk.new w 25 #[.slice S a.s.length c1, .slice N a.n.length c2, .slice G a.g.length c3]
  have HCA := fun w hx => accCheck_any S N G c1 c2 c3 a w hx l1 l2 l3
  by_cases ea : accErr a = 0
  · have HR := Lib.hid (timS_yes ea)
    have fa := acc_fine.1 ea
    have HF := Lib.hid fa
    have hlg := fa.lg
    rw [ea] at HCA
    clear ea fa
    go_enter Try.func26, Try.ntmps26
    go_wp2_with fail
    refine (HCA _ (hx.keep hb0)).mono ?_
    rintro _ w1 ⟨rfl, hb1⟩
    have hB1 := bstep hb0 hb1
    replace hk1 := hk1.keep hb1
    have qa0 : World.cell? w1 ⟨w.heap.size, 0, none⟩ = some (.slice S a.s.length c1) := hk1.cell 0
    have fa0 := hk1.frozen 0
    have qa1 : World.cell? w1 ⟨w.heap.size, 1, none⟩ = some (.slice N a.n.length c2) := hk1.cell 1
    have fa1 := hk1.frozen 1
    have qa2 : World.cell? w1 ⟨w.heap.size, 2, none⟩ = some (.slice G a.g.length c3) := hk1.cell 2
    have fa2 := hk1.frozen 2
    have fal := hk1.lt
    go_wp2
    go_loopg [5, 7, 16] a.g.length (fun gk t _ i wr => ∃ k : Nat, k + gk = a.g.length ∧ i = .int .i64 k ∧ t = .int .i64 (tot (a.g.take k)) ∧ Below w.heap.size w wr)
    case atStart => exact ⟨0, by omega, rfl, by simp [tot_nil], hB1⟩
    case round =>
      obtain ⟨k, hk, rfl, rfl, hb⟩ := hrel
      have hk' : k ≤ a.g.length := by omega
      have HK := Lib.hid hk
      clear hk
      by_cases hlt : k < a.g.length
      · obtain ⟨b, off, rfl, _, hc1, hc2⟩ := (hx.g.keep hb).at_ hlt
        have hT := tot_snoc hlt
        rw [getD_lt _ _ hlt] at hc1 hc2 hT
        have HT := Lib.hid hT
        clear hT
        have ht := tot_bound (l := a.g.take k) (fun x hx => HF.out.rn.1 x (List.mem_of_mem_take hx))
        rw [List.length_take] at ht
        have hm : okG a.g[k] := HF.out.rn.1 _ (List.getElem_mem hlt)
        unfold okG at hm
        have hmin : min k a.g.length ≤ 64 := by omega
        generalize min k a.g.length = mm at *
        go_wp2
        go_roundg (gk - 1)
        case rel => exact ⟨k + 1, by have := HK.out; omega, by go_num, by rw [HT.out], by (repeat (first | with_reducible exact Below.refl _ _ | assumption | with_reducible refine below_drewN ?_ _ | with_reducible refine Below.drew ?_ | with_reducible refine balloc ?_ _ | (with_reducible refine Below.setCell ?_ ?_ _; rotate_left; focus (first | (simp; done) | (simp; omega) | omega))))⟩
        case measure => have := HK.out; omega
      · obtain rfl : k = a.g.length := by omega
        go_wp2
        go_ret2
        rw [HR.out]
        exact ⟨by rw [List.take_length]; rfl, hb⟩
  · have HR := Lib.hid (timS_no ea)
    have e2 : (accErr a != 0) = true := by rw [bne_iff_ne]; exact ea
    clear ea
    generalize accErr a = E at *
    go_enter Try.func26, Try.ntmps26
    go_wp2_with fail
    refine (HCA _ (hx.keep hb0)).mono ?_
    rintro _ w1 ⟨rfl, hb1⟩
    go_wp2
    go_ret2
    rw [HR.out]
    exact ⟨rfl, bstep hb0 hb1⟩
end Go.Proofs.Ytjhigfhgchpjcaa
