/-
  Parts of the proof of WorkerNames: AccO Reg.
-/
import Derived.Test.YtdekbncpodjgnaaT11
import Derived.Test.YtdekbncpodjgnaaT01
import Derived.Orders
namespace Go.Proofs.Ytdekbncpodjgnaa
open Go.RowKit Runs Lagc
set_option linter.unusedVariables false
set_option linter.unusedSimpArgs false
theorem eqg_count : Try.prog.eqGuardType Try.prog.depth 97 = false := by kernel_rfl
theorem sih_count : Try.prog.stoodInHeld 97 = false := by kernel_rfl
theorem und_count : Try.prog.underlying 97 = some (.struct (Try.prog.fieldsOf 97)) := by kernel_rfl
theorem eq_count (x0 x1 y0 y1 : Int) (w : World) : (Op.equalIn 10000 97 (.agg #[.int .i64 x0, .int .i64 x1]) (.agg #[.int .i64 y0, .int .i64 y1])).run Try.prog w = .ok (x0 == y0 && x1 == y1) w := by
 have e3 := Try.underlying2
 rw [run_equalIn_agg _ _ _ _ _ und_count sih_count]
 by_cases h0 : x0 = y0 <;> by_cases h1 : x1 = y1 <;> simp [go_sem, Try.underlying97, h0, h1]
theorem eqg_gap : Try.prog.eqGuardType Try.prog.depth 99 = false := by kernel_rfl
theorem sih_gap : Try.prog.stoodInHeld 99 = false := by kernel_rfl
theorem und_gap : Try.prog.underlying 99 = some (.struct (Try.prog.fieldsOf 99)) := by kernel_rfl
theorem eq_gap (x0 x1 y0 y1 : Int) (w : World) : (Op.equalIn 10000 99 (.agg #[.int .i64 x0, .int .i64 x1]) (.agg #[.int .i64 y0, .int .i64 y1])).run Try.prog w = .ok (x0 == y0 && x1 == y1) w := by
 have e3 := Try.underlying3
 rw [run_equalIn_agg _ _ _ _ _ und_gap sih_gap]
 by_cases h0 : x0 = y0 <;> by_cases h1 : x1 = y1 <;> simp [go_sem, Try.underlying99, h0, h1]
theorem eqf_count (x y : Int × Int) (w : World) : (Op.equalIn 10000 97 (.agg #[.int .i64 x.1, .int .i64 x.2]) (.agg #[.int .i64 y.1, .int .i64 y.2])).run Try.prog w = .ok (decide (x = y)) w := by
 rw [eq_count]
 congr 1
 rw [Bool.eq_iff_iff]
 simp [Prod.ext_iff]
theorem eqf_gap (x y : Int × Int) (w : World) : (Op.equalIn 10000 99 (.agg #[.int .i64 x.1, .int .i64 x.2]) (.agg #[.int .i64 y.1, .int .i64 y.2])).run Try.prog w = .ok (decide (x = y)) w := by
 rw [eq_gap]
 congr 1
 rw [Bool.eq_iff_iff]
 simp [Prod.ext_iff]
def sameB (a b : Acc) : Bool := decide (a.s = b.s ∧ a.n = b.n ∧ a.g = b.g)
theorem sameB_len {a b : Acc} (h : a.s.length ≠ b.s.length ∨ a.n.length ≠ b.n.length ∨ a.g.length ≠ b.g.length) : sameB a b = false := by
 unfold sameB
 rw [decide_eq_false_iff_not]
 rintro ⟨h1, h2, h3⟩
 rw [h1, h2, h3] at h
 simp at h
theorem sameB_iff {a b : Acc} : sameB a b = true ↔ a = b := by
 unfold sameB
 rw [decide_eq_true_eq]
 cases a; cases b
 simp
theorem ne_at {α : Type} {d : α} {xs ys : List α} {k : Nat} (h : xs.getD k d ≠ ys.getD k d) : xs ≠ ys := fun e => h (by rw [e])
set_option maxRecDepth 20000 in
set_option maxHeartbeats 2000000 in
theorem same18_any (S N G S' N' G' : Option Addr) (c0 c1 c2 d0 d1 d2 : Nat) (a b : Acc) (w : World) (hx : RA w S N G a) (hy : RA w S' N' G' b) (l1 : a.s.length ≤ 140737488355328) (l2 : a.n.length ≤ 140737488355328) (l3 : a.g.length ≤ 140737488355328) (k1 : b.s.length ≤ 140737488355328) (k2 : b.n.length ≤ 140737488355328) (k3 : b.g.length ≤ 140737488355328) :
 Calls Try.prog 30 #[.agg #[.slice S a.s.length c0, .slice N a.n.length c1, .slice G a.g.length c2], .agg #[.slice S' b.s.length d0, .slice N' b.n.length d1, .slice G' b.g.length d2]] w fun e w' => e = .returned (.bool (sameB a b)) ∧ Below w.heap.size w w' := by
 obtain ⟨w0, hw0⟩ : ∃ w0, w0 = (w.alloc (.cells #[.slice S a.s.length c0, .slice N a.n.length c1, .slice G a.g.length c2] 39)).alloc (.cells #[.slice S' b.s.length d0, .slice N' b.n.length d1, .slice G' b.g.length d2] 39) := ⟨_, rfl⟩
 have hbX : Below w.heap.size w w0 := by rw [hw0]; exact balloc (balloc (Below.refl _ _) _) _
 have hk1 : Blk w0 w.heap.size 39 #[.slice S a.s.length c0, .slice N a.n.length c1, .slice G a.g.length c2] := by rw [hw0]; exact (Blk.new _ _ _).alloc _
 have hk2 : Blk w0 (w.heap.size + 1) 39 #[.slice S' b.s.length d0, .slice N' b.n.length d1, .slice G' b.g.length d2] := by rw [hw0]; exact Blk.newAt _ _ (by simp)
 have HW0 := Lib.hid hw0
 clear hw0
 by_cases h : a.s.length = b.s.length ∧ a.n.length = b.n.length ∧ a.g.length = b.g.length
 ·obtain ⟨h1, h2, h3⟩ := h
  have e1 : ((a.s.length : Int) != b.s.length) = false := by rw [bne_eq_false_iff_eq]; omega
  have e2 : ((a.n.length : Int) != b.n.length) = false := by rw [bne_eq_false_iff_eq]; omega
  have e3 : ((a.g.length : Int) != b.g.length) = false := by rw [bne_eq_false_iff_eq]; omega
  have HL0 : a.s.length ≤ b.s.length := by omega
  have HL1 : a.n.length ≤ b.n.length := by omega
  have HL2 : a.g.length ≤ b.g.length := by omega
  have HE0 := Lib.hid h1
  have HE1 := Lib.hid h2
  have HE2 := Lib.hid h3
  clear h1 h2 h3
  go_enter Try.func30, Try.ntmps30
  go_wp2
  rw [← HW0.out]
  go_loopg [5] a.s.length (fun gk i wr => ∃ k : Nat, k + gk = a.s.length ∧ i = .int .i64 k ∧ Below w0.heap.size w0 wr ∧ Hid (∀ j, j < k → a.s.getD j (0, 0) = b.s.getD j (0, 0)))
  case atStart => exact ⟨0, by omega, rfl, by (repeat (first | with_reducible exact Below.refl _ _ | assumption | with_reducible refine below_drewN ?_ _ | with_reducible refine Below.drew ?_ | with_reducible refine balloc ?_ _ | (with_reducible refine Below.setCell ?_ ?_ _; rotate_left; focus (first | (simp; done) | (simp; omega) | omega)))), Lib.hid (by intro j hj; omega)⟩
  case round =>
   obtain ⟨k, hk, rfl, hb, hall⟩ := hrel
   have hk' : k ≤ a.s.length := by omega
   have HK := Lib.hid hk
   clear hk
   have hbw := bstep hbX hb
   have hk1W := hk1.keep hb
   have hk2W := hk2.keep hb
   by_cases hlt : k < a.s.length
   ·have hlt2 := Nat.lt_of_lt_of_le hlt HL0
    obtain ⟨b1, off1, e1', hl1, hc1, hd1⟩ := hx.s.at_ hlt
    obtain ⟨b2, off2, e2', hl2, hc2, hd2⟩ := hy.s.at_ hlt2
    have HNE := Lib.hid (fun h => ne_at (xs := a.s) (ys := b.s) (k := k) (d := (0, 0)) h)
    have HEQ := Lib.hid (fun h => all_lt_succ (p := fun j => a.s.getD j (0, 0) = b.s.getD j (0, 0)) hall.out h)
    have p1 := (hbw.cell (p := ⟨b1, _, none⟩) hl1).trans hc1
    have p2 := (hbw.cell (p := ⟨b1, _, none⟩) hl1).trans hd1
    have p3 := (hbw.cell (p := ⟨b2, _, none⟩) hl2).trans hc2
    have p4 := (hbw.cell (p := ⟨b2, _, none⟩) hl2).trans hd2
    clear hc1 hd1 hc2 hd2
    have s1 : World.cell? wr ⟨w.heap.size, 0, none⟩ = some (.slice (some ⟨b1, off1, none⟩) a.s.length c0) := by rw [← e1']; exact hk1W.cell 0
    have s2 : World.cell? wr ⟨w.heap.size + 1, 0, none⟩ = some (.slice (some ⟨b2, off2, none⟩) b.s.length d0) := by rw [← e2']; exact hk2W.cell 0
    clear e1' e2'
    have s3 := hk1W.lt
    have s4 := hk2W.lt
    generalize a.s.getD k (0, 0) = x at *
    generalize b.s.getD k (0, 0) = y at *
    have g1 := eqg_count
    by_cases hxy : x = y
    ·have g2 := fun w => eqf_count x y w
     rw [decide_eq_true hxy] at g2
     have HXY := Lib.hid hxy
     clear hxy
     go_wp2
     go_quiet (fail)
     go_wp2
     go_roundg (gk - 1)
     case rel => exact ⟨k + 1, by have := HK.out; omega, by go_num, by (repeat (first | with_reducible exact Below.refl _ _ | assumption | with_reducible refine below_drewN ?_ _ | with_reducible refine Below.drew ?_ | with_reducible refine balloc ?_ _ | (with_reducible refine Below.setCell ?_ ?_ _; rotate_left; focus (first | (simp; done) | (simp; omega) | omega)))), Lib.hid (HEQ.out HXY.out)⟩
     case measure => have := HK.out; omega
    ·have g2 := fun w => eqf_count x y w
     rw [decide_eq_false hxy] at g2
     have HXY := Lib.hid hxy
     clear hxy
     go_wp2
     go_quiet (fail)
     go_wp2
     go_ret
     refine ⟨ret_bool ?_, by (repeat (first | with_reducible exact Below.refl _ _ | assumption | with_reducible refine below_drewN ?_ _ | with_reducible refine Below.drew ?_ | with_reducible refine balloc ?_ _ | (with_reducible refine Below.setCell ?_ ?_ _; rotate_left; focus (first | (simp; done) | (simp; omega) | omega))))⟩
     symm
     have hne := HNE.out HXY.out
     simp [sameB, hne]
   ·have HEQ0 := Lib.hid (plist_eq (d := (0, 0)) HE0.out (fun j hj => hall.out j (by omega)))
    clear hall HK
    have s1 : World.cell? wr ⟨w.heap.size, 0, none⟩ = some (.slice S a.s.length c0) := hk1W.cell 0
    have s2 : World.cell? wr ⟨w.heap.size, 1, none⟩ = some (.slice N a.n.length c1) := hk1W.cell 1
    have s3 : World.cell? wr ⟨w.heap.size, 2, none⟩ = some (.slice G a.g.length c2) := hk1W.cell 2
    have s4 := hk1W.lt
    go_wp2
    clear s1 s2 s3
    go_loopg [6] a.n.length (fun gk i wr => ∃ k : Nat, k + gk = a.n.length ∧ i = .int .i64 k ∧ Below w0.heap.size w0 wr ∧ Hid (∀ j, j < k → a.n.getD j (0, 0) = b.n.getD j (0, 0)))
    case atStart => exact ⟨0, by omega, rfl, by (repeat (first | with_reducible exact Below.refl _ _ | assumption | with_reducible refine below_drewN ?_ _ | with_reducible refine Below.drew ?_ | with_reducible refine balloc ?_ _ | (with_reducible refine Below.setCell ?_ ?_ _; rotate_left; focus (first | (simp; done) | (simp; omega) | omega)))), Lib.hid (by intro j hj; omega)⟩
    case round =>
     obtain ⟨k, hk, rfl, hb, hall⟩ := hrel
     have hk' : k ≤ a.n.length := by omega
     have HK := Lib.hid hk
     clear hk
     have hbw := bstep hbX hb
     have hk1W := hk1.keep hb
     have hk2W := hk2.keep hb
     by_cases hlt : k < a.n.length
     ·have hlt2 := Nat.lt_of_lt_of_le hlt HL1
      obtain ⟨b1, off1, e1', hl1, hc1, hd1⟩ := hx.n.at_ hlt
      obtain ⟨b2, off2, e2', hl2, hc2, hd2⟩ := hy.n.at_ hlt2
      have HNE := Lib.hid (fun h => ne_at (xs := a.n) (ys := b.n) (k := k) (d := (0, 0)) h)
      have HEQ := Lib.hid (fun h => all_lt_succ (p := fun j => a.n.getD j (0, 0) = b.n.getD j (0, 0)) hall.out h)
      have p1 := (hbw.cell (p := ⟨b1, _, none⟩) hl1).trans hc1
      have p2 := (hbw.cell (p := ⟨b1, _, none⟩) hl1).trans hd1
      have p3 := (hbw.cell (p := ⟨b2, _, none⟩) hl2).trans hc2
      have p4 := (hbw.cell (p := ⟨b2, _, none⟩) hl2).trans hd2
      clear hc1 hd1 hc2 hd2
      have s1 : World.cell? wr ⟨w.heap.size, 1, none⟩ = some (.slice (some ⟨b1, off1, none⟩) a.n.length c1) := by rw [← e1']; exact hk1W.cell 1
      have s2 : World.cell? wr ⟨w.heap.size + 1, 1, none⟩ = some (.slice (some ⟨b2, off2, none⟩) b.n.length d1) := by rw [← e2']; exact hk2W.cell 1
      clear e1' e2'
      have s3 := hk1W.lt
      have s4 := hk2W.lt
      generalize a.n.getD k (0, 0) = x at *
      generalize b.n.getD k (0, 0) = y at *
      have g1 := eqg_count
      by_cases hxy : x = y
      ·have g2 := fun w => eqf_count x y w
       rw [decide_eq_true hxy] at g2
       have HXY := Lib.hid hxy
       clear hxy
       go_wp2
       go_quiet (fail)
       go_wp2
       go_roundg (gk - 1)
       case rel => exact ⟨k + 1, by have := HK.out; omega, by go_num, by (repeat (first | with_reducible exact Below.refl _ _ | assumption | with_reducible refine below_drewN ?_ _ | with_reducible refine Below.drew ?_ | with_reducible refine balloc ?_ _ | (with_reducible refine Below.setCell ?_ ?_ _; rotate_left; focus (first | (simp; done) | (simp; omega) | omega)))), Lib.hid (HEQ.out HXY.out)⟩
       case measure => have := HK.out; omega
      ·have g2 := fun w => eqf_count x y w
       rw [decide_eq_false hxy] at g2
       have HXY := Lib.hid hxy
       clear hxy
       go_wp2
       go_quiet (fail)
       go_wp2
       go_ret
       refine ⟨ret_bool ?_, by (repeat (first | with_reducible exact Below.refl _ _ | assumption | with_reducible refine below_drewN ?_ _ | with_reducible refine Below.drew ?_ | with_reducible refine balloc ?_ _ | (with_reducible refine Below.setCell ?_ ?_ _; rotate_left; focus (first | (simp; done) | (simp; omega) | omega))))⟩
       symm
       have hne := HNE.out HXY.out
       simp [sameB, hne]
     ·have HEQ1 := Lib.hid (plist_eq (d := (0, 0)) HE1.out (fun j hj => hall.out j (by omega)))
      clear hall HK
      have s1 : World.cell? wr ⟨w.heap.size, 0, none⟩ = some (.slice S a.s.length c0) := hk1W.cell 0
      have s2 : World.cell? wr ⟨w.heap.size, 1, none⟩ = some (.slice N a.n.length c1) := hk1W.cell 1
      have s3 : World.cell? wr ⟨w.heap.size, 2, none⟩ = some (.slice G a.g.length c2) := hk1W.cell 2
      have s4 := hk1W.lt
      go_wp2
      clear s1 s2 s3
      go_loopg [7] a.g.length (fun gk i wr => ∃ k : Nat, k + gk = a.g.length ∧ i = .int .i64 k ∧ Below w0.heap.size w0 wr ∧ Hid (∀ j, j < k → a.g.getD j (0, 0) = b.g.getD j (0, 0)))
      case atStart => exact ⟨0, by omega, rfl, by (repeat (first | with_reducible exact Below.refl _ _ | assumption | with_reducible refine below_drewN ?_ _ | with_reducible refine Below.drew ?_ | with_reducible refine balloc ?_ _ | (with_reducible refine Below.setCell ?_ ?_ _; rotate_left; focus (first | (simp; done) | (simp; omega) | omega)))), Lib.hid (by intro j hj; omega)⟩
      case round =>
       obtain ⟨k, hk, rfl, hb, hall⟩ := hrel
       have hk' : k ≤ a.g.length := by omega
       have HK := Lib.hid hk
       clear hk
       have hbw := bstep hbX hb
       have hk1W := hk1.keep hb
       have hk2W := hk2.keep hb
       by_cases hlt : k < a.g.length
       ·have hlt2 := Nat.lt_of_lt_of_le hlt HL2
        obtain ⟨b1, off1, e1', hl1, hc1, hd1⟩ := hx.g.at_ hlt
        obtain ⟨b2, off2, e2', hl2, hc2, hd2⟩ := hy.g.at_ hlt2
        have HNE := Lib.hid (fun h => ne_at (xs := a.g) (ys := b.g) (k := k) (d := (0, 0)) h)
        have HEQ := Lib.hid (fun h => all_lt_succ (p := fun j => a.g.getD j (0, 0) = b.g.getD j (0, 0)) hall.out h)
        have p1 := (hbw.cell (p := ⟨b1, _, none⟩) hl1).trans hc1
        have p2 := (hbw.cell (p := ⟨b1, _, none⟩) hl1).trans hd1
        have p3 := (hbw.cell (p := ⟨b2, _, none⟩) hl2).trans hc2
        have p4 := (hbw.cell (p := ⟨b2, _, none⟩) hl2).trans hd2
        clear hc1 hd1 hc2 hd2
        have s1 : World.cell? wr ⟨w.heap.size, 2, none⟩ = some (.slice (some ⟨b1, off1, none⟩) a.g.length c2) := by rw [← e1']; exact hk1W.cell 2
        have s2 : World.cell? wr ⟨w.heap.size + 1, 2, none⟩ = some (.slice (some ⟨b2, off2, none⟩) b.g.length d2) := by rw [← e2']; exact hk2W.cell 2
        clear e1' e2'
        have s3 := hk1W.lt
        have s4 := hk2W.lt
        generalize a.g.getD k (0, 0) = x at *
        generalize b.g.getD k (0, 0) = y at *
        have g1 := eqg_gap
        by_cases hxy : x = y
        ·have g2 := fun w => eqf_gap x y w
         rw [decide_eq_true hxy] at g2
         have HXY := Lib.hid hxy
         clear hxy
         go_wp2
         go_quiet (fail)
         go_wp2
         go_roundg (gk - 1)
         case rel => exact ⟨k + 1, by have := HK.out; omega, by go_num, by (repeat (first | with_reducible exact Below.refl _ _ | assumption | with_reducible refine below_drewN ?_ _ | with_reducible refine Below.drew ?_ | with_reducible refine balloc ?_ _ | (with_reducible refine Below.setCell ?_ ?_ _; rotate_left; focus (first | (simp; done) | (simp; omega) | omega)))), Lib.hid (HEQ.out HXY.out)⟩
         case measure => have := HK.out; omega
        ·have g2 := fun w => eqf_gap x y w
         rw [decide_eq_false hxy] at g2
         have HXY := Lib.hid hxy
         clear hxy
         go_wp2
         go_quiet (fail)
         go_wp2
         go_ret
         refine ⟨ret_bool ?_, by (repeat (first | with_reducible exact Below.refl _ _ | assumption | with_reducible refine below_drewN ?_ _ | with_reducible refine Below.drew ?_ | with_reducible refine balloc ?_ _ | (with_reducible refine Below.setCell ?_ ?_ _; rotate_left; focus (first | (simp; done) | (simp; omega) | omega))))⟩
         symm
         have hne := HNE.out HXY.out
         simp [sameB, hne]
       ·have HEQ2 := Lib.hid (plist_eq (d := (0, 0)) HE2.out (fun j hj => hall.out j (by omega)))
        clear hall HK
        have s1 : World.cell? wr ⟨w.heap.size, 0, none⟩ = some (.slice S a.s.length c0) := hk1W.cell 0
        have s2 : World.cell? wr ⟨w.heap.size, 1, none⟩ = some (.slice N a.n.length c1) := hk1W.cell 1
        have s3 : World.cell? wr ⟨w.heap.size, 2, none⟩ = some (.slice G a.g.length c2) := hk1W.cell 2
        have s4 := hk1W.lt
        go_wp2
        clear s1 s2 s3
        go_ret
        exact ⟨ret_bool (by simp [sameB, HEQ0.out, HEQ1.out, HEQ2.out]), hbw⟩
 ·have hd : (a.s.length ≠ b.s.length) ∨ (a.s.length = b.s.length ∧ a.n.length ≠ b.n.length) ∨ (a.s.length = b.s.length ∧ a.n.length = b.n.length ∧ a.g.length ≠ b.g.length) := by omega
  have HN := Lib.hid (sameB_len (a := a) (b := b) (by omega))
  have hbF := HW0.out ▸ hbX
  clear h
  rcases hd with h1 | ⟨h1, h2⟩ | ⟨h1, h2, h3⟩
  ·have e1 : ((a.s.length : Int) != b.s.length) = true := by rw [bne_iff_ne]; omega
   clear h1
   go_enter Try.func30, Try.ntmps30
   go_wp2
   go_ret
   exact ⟨ret_bool HN.out.symm, by (repeat (first | with_reducible exact Below.refl _ _ | assumption | with_reducible refine below_drewN ?_ _ | with_reducible refine Below.drew ?_ | with_reducible refine balloc ?_ _ | (with_reducible refine Below.setCell ?_ ?_ _; rotate_left; focus (first | (simp; done) | (simp; omega) | omega))))⟩
  ·have e1 : ((a.s.length : Int) != b.s.length) = false := by rw [bne_eq_false_iff_eq]; omega
   have e2 : ((a.n.length : Int) != b.n.length) = true := by rw [bne_iff_ne]; omega
   clear h1 h2
   go_enter Try.func30, Try.ntmps30
   go_wp2
   go_ret
   exact ⟨ret_bool HN.out.symm, by (repeat (first | with_reducible exact Below.refl _ _ | assumption | with_reducible refine below_drewN ?_ _ | with_reducible refine Below.drew ?_ | with_reducible refine balloc ?_ _ | (with_reducible refine Below.setCell ?_ ?_ _; rotate_left; focus (first | (simp; done) | (simp; omega) | omega))))⟩
  ·have e1 : ((a.s.length : Int) != b.s.length) = false := by rw [bne_eq_false_iff_eq]; omega
   have e2 : ((a.n.length : Int) != b.n.length) = false := by rw [bne_eq_false_iff_eq]; omega
   have e3 : ((a.g.length : Int) != b.g.length) = true := by rw [bne_iff_ne]; omega
   clear h1 h2 h3
   go_enter Try.func30, Try.ntmps30
   go_wp2
   go_ret
   exact ⟨ret_bool HN.out.symm, by (repeat (first | with_reducible exact Below.refl _ _ | assumption | with_reducible refine below_drewN ?_ _ | with_reducible refine Below.drew ?_ | with_reducible refine balloc ?_ _ | (with_reducible refine Below.setCell ?_ ?_ _; rotate_left; focus (first | (simp; done) | (simp; omega) | omega))))⟩
end Go.Proofs.Ytdekbncpodjgnaa
namespace Go.Proofs.Ytdekbncpodjgnaa
open Go
set_option linter.unusedVariables false
namespace Reg
section
variable {P : Program} {ops : Array Oper} {Q : Exit → Act → World → Prop}
def left (L : Array Bool) : Nat := L.toList.count false
theorem lt_of_un {L : Array Bool} {i : Nat} (h : L.getD i true = false) : i < L.size := by
 rcases Nat.lt_or_ge i L.size with h1 | h1
 ·exact h1
 ·rw [Array.getD_eq_getD_getElem?, Array.getElem?_eq_none h1] at h
  cases h
theorem left_set {L : Array Bool} {i : Nat} (h : L.getD i true = false) : left (L.setIfInBounds i true) + 1 = left L := by
 have hi := lt_of_un h
 have hv : L.toList[i]'(by simpa using hi) = false := by
  rw [Array.getD_eq_getD_getElem?, Array.getElem?_eq_getElem hi] at h
  simpa using h
 unfold left
 rw [Array.toList_setIfInBounds, List.count_set (by simpa using hi), hv]
 have hm : false ∈ L.toList := by rw [← hv]; exact List.getElem_mem _
 have := List.count_pos_iff.2 hm
 have e1 : (if (false == false) = true then 1 else 0) = 1 := rfl
 have e2 : (if (true == false) = true then 1 else 0) = 0 := rfl
 rw [e1, e2]
 omega
theorem wpAny_inv (I : Array Bool → Act → World → Prop)
 (hs : ∀ i o, ops[i]? = some o → ∀ L a w, I L a w → L.getD i true = false → (∀ e ∈ o.after, Region.binds .any e = true → L.getD e.on false = true) → wpOp P ops Q i (fun a' w' => I (L.setIfInBounds i true) a' w') a w)
 (hd : ∀ L a w, I L a w → Region.ready .any ops L = [] → Q .normal a w) :
 ∀ (fuel : Nat) (L : Array Bool) (a : Act) (w : World), I L a w → left L ≤ fuel → wpAny P .any ops Q fuel L a w := by
 intro fuel
 induction fuel with
 | zero =>
  intro L a w hI hl
  have hr : Region.ready .any ops L = [] := by
   rw [List.eq_nil_iff_forall_not_mem]
   intro j hj
   have := left_set (mem_ready.1 hj).1
   omega
  exact ⟨hr, hd L a w hI hr⟩
 | succ fuel ih =>
  intro L a w hI hl
  refine ⟨fun hr => hd L a w hI hr, fun i hi => ?_⟩
  obtain ⟨h1, o, ho, hdep⟩ := mem_ready.1 hi
  exact wpOp_mono (fun a' w' h3 => ih _ a' w' h3 (by have := left_set h1; omega)) (hs i o ho L a w hI h1 hdep)
def backB (ops : Array Oper) : Bool := (List.range ops.size).all fun i => ((ops[i]?).map fun o => o.after.all fun e => !Region.binds .any e || decide (e.on < i)).getD true
theorem all_listed (hb : backB ops = true) {L : Array Bool} (hsz : L.size = ops.size) (hr : Region.ready .any ops L = []) : ∀ i, i < ops.size → L.getD i false = true := by
 intro i
 induction i using Nat.strongRecOn with
 | ind i ih =>
  intro hi
  cases hv : L.getD i false with
  | true => rfl
  | false =>
   exfalso
   have hlt : i < L.size := by omega
   have hu : L.getD i true = false := by
    rw [Array.getD_eq_getD_getElem?, Array.getElem?_eq_getElem hlt] at hv ⊢
    exact hv
   have ho : ops[i]? = some ops[i] := Array.getElem?_eq_getElem hi
   have hmem : i ∈ Region.ready .any ops L := by
    refine mem_ready.2 ⟨hu, ops[i], ho, fun e he hbi => ?_⟩
    have h1 := List.all_eq_true.1 hb i (by simpa using hi)
    rw [ho] at h1
    simp only [Option.map_some, Option.getD_some] at h1
    have h2 := Array.all_eq_true_iff_forall_mem.1 h1 e he
    rw [hbi] at h2
    have h3 : e.on < i := by simpa using h2
    exact ih e.on h3 (by omega)
   rw [hr] at hmem
   cases hmem
structure Ev (ops : Array Oper) (a0 : Act) (L : Array Bool) (val : Nat → Value) (a : Act) : Prop where
 size : a.tmps.size = a0.tmps.size
 defers : a.defers = a0.defers
 at_ : ∀ j o d, ops[j]? = some o → o.dst = some d → L.getD j false = true → a.tmps[d]? = some (val j)
 out : ∀ t, (∀ j o, ops[j]? = some o → L.getD j false = true → o.dst ≠ some t) → a.tmps[t]? = a0.tmps[t]?
def upd (val : Nat → Value) (i : Nat) (v : Value) : Nat → Value := fun j => if j = i then v else val j
theorem upd_same (val : Nat → Value) (i : Nat) (v : Value) : upd val i v i = v := by simp [upd]
theorem upd_ne {val : Nat → Value} {i j : Nat} (v : Value) (h : j ≠ i) : upd val i v j = val j := by simp [upd, h]
def dstB (ops : Array Oper) (n : Nat) : Bool :=
 (List.range ops.size).all fun i => match (ops[i]?).bind (·.dst) with
   | none => true
   | some d => decide (d < n) && (List.range ops.size).all fun j => decide (i = j) || (ops[j]?).bind (·.dst) != some d
theorem dst_lt {n : Nat} (h : dstB ops n = true) {i d : Nat} {o : Oper} (ho : ops[i]? = some o) (hd : o.dst = some d) : d < n := by
 have hi : i < ops.size := by
  rcases Nat.lt_or_ge i ops.size with h1 | h1
  ·exact h1
  ·rw [Array.getElem?_eq_none h1] at ho; cases ho
 have h1 := List.all_eq_true.1 h i (by simpa using hi)
 rw [ho, Option.bind_some, hd] at h1
 simp only [Bool.and_eq_true, decide_eq_true_eq] at h1
 exact h1.1
theorem dst_ne {n : Nat} (h : dstB ops n = true) {i j d : Nat} {o o' : Oper} (ho : ops[i]? = some o) (ho' : ops[j]? = some o') (hd : o.dst = some d) (hij : i ≠ j) : o'.dst ≠ some d := by
 have hi : i < ops.size := by
  rcases Nat.lt_or_ge i ops.size with h1 | h1
  ·exact h1
  ·rw [Array.getElem?_eq_none h1] at ho; cases ho
 have hj : j < ops.size := by
  rcases Nat.lt_or_ge j ops.size with h1 | h1
  ·exact h1
  ·rw [Array.getElem?_eq_none h1] at ho'; cases ho'
 have h1 := List.all_eq_true.1 h i (by simpa using hi)
 rw [ho, Option.bind_some, hd] at h1
 simp only [Bool.and_eq_true] at h1
 have h2 := List.all_eq_true.1 h1.2 j (by simpa using hj)
 rw [ho', Option.bind_some] at h2
 simp [hij] at h2
 exact h2
theorem on_set {L : Array Bool} {i k : Nat} (h : (L.setIfInBounds i true).getD k false = true) : k = i ∨ L.getD k false = true := by
 by_cases e : k = i
 ·exact .inl e
 ·rw [getD_set_ne false (fun h => e h.symm)] at h
  exact .inr h
theorem Ev.put {a0 a : Act} {L : Array Bool} {val : Nat → Value} (hE : Ev ops a0 L val a) (hsz : L.size = ops.size) (hdst : dstB ops a0.tmps.size = true) {i : Nat} {o : Oper} (ho : ops[i]? = some o) (v : Value) : Ev ops a0 (L.setIfInBounds i true) (upd val i v) (a.put o.dst v) := by
 cases hd : o.dst with
 | none =>
  refine ⟨hE.size, hE.defers, fun j oj d hj hdj hon => ?_, fun t ht => ?_⟩
  ·have hne : j ≠ i := by
    rintro rfl
    rw [ho] at hj
    cases hj
    rw [hd] at hdj
    cases hdj
   rw [upd_ne _ hne]
   exact hE.at_ j oj d hj hdj ((on_set hon).resolve_left hne)
  ·exact hE.out t (fun j oj hj hon => ht j oj hj (getD_set_true hon))
 | some d =>
  have hlt := dst_lt hdst ho hd
  refine ⟨by simpa [Act.put] using hE.size, hE.defers, fun j oj d' hj hdj hon => ?_, fun t ht => ?_⟩
  ·by_cases hji : j = i
   ·subst hji
    rw [ho] at hj
    cases hj
    rw [hd] at hdj
    cases hdj
    rw [upd_same]
    simp only [Act.put]
    rw [Array.getElem?_setIfInBounds_self_of_lt]
    rw [hE.size]
    exact hlt
   ·have hne := dst_ne hdst ho hj hd (fun e => hji e.symm)
    have hdd : d ≠ d' := fun e => hne (by rw [hdj, e])
    rw [upd_ne _ hji]
    simp only [Act.put]
    rw [Array.getElem?_setIfInBounds_ne hdd]
    exact hE.at_ j oj d' hj hdj ((on_set hon).resolve_left hji)
  ·by_cases htd : t = d
   ·subst htd
    have h1 : i < L.size := by
     rw [hsz]
     rcases Nat.lt_or_ge i ops.size with h1 | h1
     ·exact h1
     ·rw [Array.getElem?_eq_none h1] at ho; cases ho
    exact absurd hd (ht i o ho (by rw [Array.getD_eq_getD_getElem?, Array.getElem?_setIfInBounds_self_of_lt h1]; rfl))
   ·simp only [Act.put]
    rw [Array.getElem?_setIfInBounds_ne (fun e => htd e.symm)]
    exact hE.out t (fun j oj hj hon => ht j oj hj (getD_set_true hon))
def putL (val : Nat → Value) : Nat → List Oper → Act → Act
 | _, [], a => a
 | i, o :: l, a => putL val (i + 1) l (a.put o.dst (val i))
theorem put_size (a : Act) (d : Option Tmp) (v : Value) : (a.put d v).tmps.size = a.tmps.size := by cases d <;> simp [Act.put]
theorem put_defers (a : Act) (d : Option Tmp) (v : Value) : (a.put d v).defers = a.defers := by cases d <;> simp [Act.put]
theorem putL_defers (val : Nat → Value) (l : List Oper) : ∀ (i : Nat) (a : Act), (putL val i l a).defers = a.defers := by
 induction l with
 | nil => intro i a; rfl
 | cons o l ih => intro i a; rw [putL, ih, put_defers]
theorem putL_out (val : Nat → Value) (l : List Oper) : ∀ (i : Nat) (a : Act) (t : Nat), (∀ o ∈ l, o.dst ≠ some t) → (putL val i l a).tmps[t]? = a.tmps[t]? := by
 induction l with
 | nil => intro i a t _; rfl
 | cons o l ih =>
  intro i a t h
  rw [putL, ih _ _ _ (fun o' ho' => h o' (by simp [ho']))]
  have h1 := h o (by simp)
  cases hd : o.dst with
  | none => rfl
  | some d =>
   simp only [Act.put]
   rw [Array.getElem?_setIfInBounds_ne]
   intro e
   exact h1 (by rw [hd, e])
theorem putL_at (val : Nat → Value) (l : List Oper) : ∀ (i : Nat) (a : Act) (k t : Nat) (o : Oper), l[k]? = some o → o.dst = some t → t < a.tmps.size → (∀ j o', l[j]? = some o' → j ≠ k → o'.dst ≠ some t) → (putL val i l a).tmps[t]? = some (val (i + k)) := by
 induction l with
 | nil => intro i a k t o h; simp at h
 | cons o l ih =>
  intro i a k t o' hk hd hlt hne
  rw [putL]
  cases k with
  | zero =>
   simp only [List.getElem?_cons_zero, Option.some.injEq] at hk
   subst hk
   rw [putL_out]
   ·rw [hd]
    simp only [Act.put]
    rw [Array.getElem?_setIfInBounds_self_of_lt hlt]
    rfl
   ·intro o'' ho''
    obtain ⟨j, hj, e⟩ := List.getElem_of_mem ho''
    exact hne (j + 1) o'' (by simp [List.getElem?_eq_getElem hj, e]) (by omega)
  | succ k =>
   simp only [List.getElem?_cons_succ] at hk
   rw [ih (i + 1) _ k t o' hk hd (by rw [put_size]; exact hlt) (fun j o'' hj hjk => hne (j + 1) o'' (by simpa using hj) (by omega)), show i + 1 + k = i + (k + 1) by omega]
theorem Ev.all {a0 a : Act} {L : Array Bool} {val : Nat → Value} (hE : Ev ops a0 L val a) (hdst : dstB ops a0.tmps.size = true) (hall : ∀ i, i < ops.size → L.getD i false = true) : a = putL val 0 ops.toList a0 := by
 have key : a.tmps = (putL val 0 ops.toList a0).tmps := by
  apply Array.ext_getElem?
  intro t
  by_cases h : ∃ (k : Nat) (o : Oper), ops[k]? = some o ∧ o.dst = some t
  ·obtain ⟨k, o, ho, hd⟩ := h
   have hk : k < ops.size := by
    rcases Nat.lt_or_ge k ops.size with h1 | h1
    ·exact h1
    ·rw [Array.getElem?_eq_none h1] at ho; cases ho
   rw [hE.at_ k o t ho hd (hall k hk), putL_at val ops.toList 0 a0 k t o (by simpa using ho) hd (dst_lt hdst ho hd) (fun j o' hj hjk => dst_ne hdst ho (by simpa using hj) hd (fun e => hjk e.symm)), Nat.zero_add]
  ·rw [hE.out t (fun j (o : Oper) hj _ hd => h ⟨j, o, hj, hd⟩), putL_out]
   intro o ho hd
   obtain ⟨j, hj, e⟩ := List.getElem_of_mem ho
   exact h ⟨j, o, by simp at hj; rw [Array.getElem?_eq_getElem hj]; simpa using e, hd⟩
 have kd : a.defers = (putL val 0 ops.toList a0).defers := by rw [putL_defers]; exact hE.defers
 cases a
 cases hp : putL val 0 ops.toList a0
 rw [hp] at key kd
 simp only at key kd
 rw [key, kd]
def StepOk (P : Program) (ops : Array Oper) (Q : Exit → Act → World → Prop) (a0 : Act) (J : Array Bool → (Nat → Value) → World → Prop) (i : Nat) (o : Oper) : Prop :=
 ∀ (L : Array Bool) (val : Nat → Value) (a : Act) (w : World), L.size = ops.size → J L val w → L.getD i true = false → (∀ e ∈ o.after, Region.binds .any e = true → L.getD e.on false = true) → Ev ops a0 L val a →
  ∀ K : Act → World → Prop, (∀ v w', J (L.setIfInBounds i true) (upd val i v) w' → K (a.put o.dst v) w') → if Region.wanted o (yielded ops a.tmps) = true then o.wp P a w K Q else K (a.put o.dst undef) w
def AllIdx (f : Nat → Oper → Prop) : Nat → List Oper → Prop
 | _, [] => True
 | i, o :: l => f i o ∧ AllIdx f (i + 1) l
theorem AllIdx.at_ {f : Nat → Oper → Prop} (l : List Oper) : ∀ (i : Nat), AllIdx f i l → ∀ k o, l[k]? = some o → f (i + k) o := by
 induction l with
 | nil => intro i _ k o h; simp at h
 | cons x l ih =>
  intro i h k o hk
  cases k with
  | zero =>
   simp only [List.getElem?_cons_zero, Option.some.injEq] at hk
   subst hk
   exact h.1
  | succ k =>
   simp only [List.getElem?_cons_succ] at hk
   have := ih (i + 1) h.2 k o hk
   rwa [show i + 1 + k = i + (k + 1) by omega] at this
theorem wp_region_val {id : Nat} {a0 : Act} {w : World} (hm : P.follows .mixedOrders = true) (hback : backB ops = true) (hdst : dstB ops a0.tmps.size = true)
 (J : Array Bool → (Nat → Value) → World → Prop) (h0 : J (Array.replicate ops.size false) (fun _ => undef) w.drew) (hs : AllIdx (StepOk P ops Q a0 J) 0 ops.toList)
 (hd : ∀ L val w', (∀ i, i < ops.size → L.getD i false = true) → J L val w' → Q .normal (putL val 0 ops.toList a0) w') : (Code.region id ops true).wp P Q a0 w := by
 refine wp_region_any hm ?_
 refine wpAny_inv (fun L a w => L.size = ops.size ∧ ∃ val, J L val w ∧ Ev ops a0 L val a) ?_ ?_ _ _ _ _ ?_ ?_
 ·rintro i o ho L a w ⟨hsz, val, hJ, hE⟩ hu hdep
  have hS : StepOk P ops Q a0 J i o := by
   have := hs.at_ _ _ i o (by simpa using ho)
   rwa [Nat.zero_add] at this
  have h1 := hS L val a w hsz hJ hu hdep hE (fun a' w' => (L.setIfInBounds i true).size = ops.size ∧ ∃ val, J (L.setIfInBounds i true) val w' ∧ Ev ops a0 (L.setIfInBounds i true) val a') (fun v w' hJ' => ⟨by simpa using hsz, upd val i v, hJ', hE.put hsz hdst ho v⟩)
  unfold wpOp
  simp only [ho]
  by_cases hw : Region.wanted o (yielded ops a.tmps) = true
  ·rw [if_pos hw] at h1 ⊢
   exact .inl h1
  ·rw [if_neg hw] at h1 ⊢
   exact h1
 ·rintro L a w ⟨hsz, val, hJ, hE⟩ hr
  have hall := all_listed hback hsz hr
  rw [hE.all hdst hall]
  exact hd L val w hall hJ
 ·refine ⟨by simp, fun _ => undef, h0, ⟨rfl, rfl, fun j o d _ _ hon => ?_, fun t _ => rfl⟩⟩
  exfalso
  rw [Array.getD_eq_getD_getElem?, Array.getElem?_replicate] at hon
  split at hon <;> simp at hon
 ·unfold left
  simp
theorem Ev.arg {a0 a : Act} {L : Array Bool} {val : Nat → Value} (hE : Ev ops a0 L val a) {o : Oper} (hdep : ∀ e ∈ o.after, Region.binds .any e = true → L.getD e.on false = true) (j d : Nat) {oj : Oper} (hj : ops[j]? = some oj) (hd : oj.dst = some d) (hw : (o.after.toList.any fun e => e.on == j && Region.binds .any e) = true) : a.eval (.tmp d) = val j ∧ L.getD j false = true := by
 obtain ⟨e, hm, he⟩ := List.any_eq_true.1 hw
 simp only [Bool.and_eq_true, beq_iff_eq] at he
 have hon := hdep e (by simpa using hm) he.2
 rw [he.1] at hon
 refine ⟨?_, hon⟩
 have := hE.at_ j oj d hj hd hon
 simp [Act.eval, Array.getD_eq_getD_getElem?, this]
theorem Ev.old {a0 a : Act} {L : Array Bool} {val : Nat → Value} (hE : Ev ops a0 L val a) (t : Nat) (h : (ops.toList.all fun o : Oper => o.dst != some t) = true) : a.eval (.tmp t) = a0.eval (.tmp t) := by
 have := hE.out t (fun j o hj _ hd => by
  have hm : o ∈ ops.toList := by
   obtain ⟨hlt, e⟩ := Array.getElem?_eq_some_iff.1 hj
   rw [← e]
   simp
  have := List.all_eq_true.1 h o hm
  rw [hd] at this
  simp at this)
 simp [Act.eval, Array.getD_eq_getD_getElem?, this]
end
end Reg
end Go.Proofs.Ytdekbncpodjgnaa
