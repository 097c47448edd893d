/-
  Contracts of the reference: Same.
-/
import Derived.Test.YtjhigfhgchpjcaaAccN
namespace Go.Proofs.Ytjhigfhgchpjcaa
open Go.RowKit Runs Lagc
set_option linter.unusedVariables false
set_option linter.unusedSimpArgs false

theorem eqg_count : Try.prog.eqGuardType Try.prog.depth 60 = false := by kernel_rfl
theorem sih_count : Try.prog.stoodInHeld 60 = false := by kernel_rfl
theorem und_count : Try.prog.underlying 60 = some (.struct (Try.prog.fieldsOf 60)) := by kernel_rfl
theorem eq_count (x0 x1 y0 y1 : Int) (w : World) : (Op.equalIn 10000 60 (.agg #[.int .i64 x0, .int .i64 x1]) (.agg #[.int .i64 y0, .int .i64 y1])).run Try.prog w = .ok (x0 == y0 && x1 == y1) w := by
  have e3 := Try.underlying2
  rw [run_equalIn_agg _ _ _ _ _ und_count sih_count]
  by_cases h0 : x0 = y0 <;> by_cases h1 : x1 = y1 <;> simp [go_sem, Try.underlying60, h0, h1]
theorem eqg_gap : Try.prog.eqGuardType Try.prog.depth 62 = false := by kernel_rfl
theorem sih_gap : Try.prog.stoodInHeld 62 = false := by kernel_rfl
theorem und_gap : Try.prog.underlying 62 = some (.struct (Try.prog.fieldsOf 62)) := by kernel_rfl
theorem eq_gap (x0 x1 y0 y1 : Int) (w : World) : (Op.equalIn 10000 62 (.agg #[.int .i64 x0, .int .i64 x1]) (.agg #[.int .i64 y0, .int .i64 y1])).run Try.prog w = .ok (x0 == y0 && x1 == y1) w := by
  have e3 := Try.underlying3
  rw [run_equalIn_agg _ _ _ _ _ und_gap sih_gap]
  by_cases h0 : x0 = y0 <;> by_cases h1 : x1 = y1 <;> simp [go_sem, Try.underlying62, h0, h1]
theorem eqf_count (x y : Int × Int) (w : World) : (Op.equalIn 10000 60 (.agg #[.int .i64 x.1, .int .i64 x.2]) (.agg #[.int .i64 y.1, .int .i64 y.2])).run Try.prog w = .ok (decide (x = y)) w := by
  rw [eq_count]
  congr 1
  rw [Bool.eq_iff_iff]
  simp [Prod.ext_iff]
theorem eqf_gap (x y : Int × Int) (w : World) : (Op.equalIn 10000 62 (.agg #[.int .i64 x.1, .int .i64 x.2]) (.agg #[.int .i64 y.1, .int .i64 y.2])).run Try.prog w = .ok (decide (x = y)) w := by
  rw [eq_gap]
  congr 1
  rw [Bool.eq_iff_iff]
  simp [Prod.ext_iff]
def sameB (a b : Acc) : Bool := decide (a.s = b.s ∧ a.n = b.n ∧ a.g = b.g)
theorem sameB_len {a b : Acc} (h : a.s.length ≠ b.s.length ∨ a.n.length ≠ b.n.length ∨ a.g.length ≠ b.g.length) : sameB a b = false := by
  unfold sameB
  rw [decide_eq_false_iff_not]
  rintro ⟨h1, h2, h3⟩
  rw [h1, h2, h3] at h
  simp at h
theorem sameB_iff {a b : Acc} : sameB a b = true ↔ a = b := by
  unfold sameB
  rw [decide_eq_true_eq]
  cases a; cases b
  simp
theorem ne_at {α : Type} {d : α} {xs ys : List α} {k : Nat} (h : xs.getD k d ≠ ys.getD k d) : xs ≠ ys := fun e => h (by rw [e])

set_option maxRecDepth 20000 in
set_option maxHeartbeats 2000000 in
theorem same18_any (S N G S' N' G' : Option Addr) (c0 c1 c2 d0 d1 d2 : Nat) (a b : Acc) (w : World) (hx : RA w S N G a) (hy : RA w S' N' G' b) (l1 : a.s.length ≤ 140737488355328) (l2 : a.n.length ≤ 140737488355328) (l3 : a.g.length ≤ 140737488355328) (k1 : b.s.length ≤ 140737488355328) (k2 : b.n.length ≤ 140737488355328) (k3 : b.g.length ≤ 140737488355328) :
    Calls Try.prog 18 #[.agg #[.slice S a.s.length c0, .slice N a.n.length c1, .slice G a.g.length c2], .agg #[.slice S' b.s.length d0, .slice N' b.n.length d1, .slice G' b.g.length d2]] w fun e w' => e = .returned (.bool (sameB a b)) ∧ Below w.heap.size w w' := by
  obtain ⟨w0, hw0⟩ : ∃ w0, w0 = (w.alloc (.cells #[.slice S a.s.length c0, .slice N a.n.length c1, .slice G a.g.length c2] 25)).alloc (.cells #[.slice S' b.s.length d0, .slice N' b.n.length d1, .slice G' b.g.length d2] 25) := ⟨_, rfl⟩
  have hbX : Below w.heap.size w w0 := by rw [hw0]; exact balloc (balloc (Below.refl _ _) _) _
  have hk1 : Blk w0 w.heap.size 25 #[.slice S a.s.length c0, .slice N a.n.length c1, .slice G a.g.length c2] := by rw [hw0]; exact (Blk.new _ _ _).alloc _
  have hk2 : Blk w0 (w.heap.size + 1) 25 #[.slice S' b.s.length d0, .slice N' b.n.length d1, .slice G' b.g.length d2] := by rw [hw0]; exact Blk.newAt _ _ (by simp)
  have HW0 := Lib.hid hw0
  clear hw0
  by_cases h : a.s.length = b.s.length ∧ a.n.length = b.n.length ∧ a.g.length = b.g.length
  · obtain ⟨h1, h2, h3⟩ := h
    have e1 : ((a.s.length : Int) != b.s.length) = false := by rw [bne_eq_false_iff_eq]; omega
    have e2 : ((a.n.length : Int) != b.n.length) = false := by rw [bne_eq_false_iff_eq]; omega
    have e3 : ((a.g.length : Int) != b.g.length) = false := by rw [bne_eq_false_iff_eq]; omega
    have HL0 : a.s.length ≤ b.s.length := by omega
    have HL1 : a.n.length ≤ b.n.length := by omega
    have HL2 : a.g.length ≤ b.g.length := by omega
    have HE0 := Lib.hid h1
    have HE1 := Lib.hid h2
    have HE2 := Lib.hid h3
    clear h1 h2 h3
    go_enter Try.func18, Try.ntmps18
    go_wp2
    rw [← HW0.out]
    go_loopg [5] a.s.length (fun gk i wr => ∃ k : Nat, k + gk = a.s.length ∧ i = .int .i64 k ∧ Below w0.heap.size w0 wr ∧ Hid (∀ j, j < k → a.s.getD j (0, 0) = b.s.getD j (0, 0)))
    case atStart => exact ⟨0, by omega, rfl, by (repeat (first | with_reducible exact Below.refl _ _ | assumption | with_reducible refine below_drewN ?_ _ | with_reducible refine Below.drew ?_ | with_reducible refine balloc ?_ _ | (with_reducible refine Below.setCell ?_ ?_ _; rotate_left; focus (first | (simp; done) | (simp; omega) | omega)))), Lib.hid (by intro j hj; omega)⟩
    case round =>
      obtain ⟨k, hk, rfl, hb, hall⟩ := hrel
      have hk' : k ≤ a.s.length := by omega
      have HK := Lib.hid hk
      clear hk
      have hbw := bstep hbX hb
      have hk1W := hk1.keep hb
      have hk2W := hk2.keep hb
      by_cases hlt : k < a.s.length
      · have hlt2 := Nat.lt_of_lt_of_le hlt HL0
        obtain ⟨b1, off1, e1', hl1, hc1, hd1⟩ := hx.s.at_ hlt
        obtain ⟨b2, off2, e2', hl2, hc2, hd2⟩ := hy.s.at_ hlt2
        have HNE := Lib.hid (fun h => ne_at (xs := a.s) (ys := b.s) (k := k) (d := (0, 0)) h)
        have HEQ := Lib.hid (fun h => all_lt_succ (p := fun j => a.s.getD j (0, 0) = b.s.getD j (0, 0)) hall.out h)
        have p1 := (hbw.cell (p := ⟨b1, _, none⟩) hl1).trans hc1
        have p2 := (hbw.cell (p := ⟨b1, _, none⟩) hl1).trans hd1
        have p3 := (hbw.cell (p := ⟨b2, _, none⟩) hl2).trans hc2
        have p4 := (hbw.cell (p := ⟨b2, _, none⟩) hl2).trans hd2
        clear hc1 hd1 hc2 hd2
        have s1 : World.cell? wr ⟨w.heap.size, 0, none⟩ = some (.slice (some ⟨b1, off1, none⟩) a.s.length c0) := by rw [← e1']; exact hk1W.cell 0
        have s2 : World.cell? wr ⟨w.heap.size + 1, 0, none⟩ = some (.slice (some ⟨b2, off2, none⟩) b.s.length d0) := by rw [← e2']; exact hk2W.cell 0
        clear e1' e2'
        have s3 := hk1W.lt
        have s4 := hk2W.lt
        generalize a.s.getD k (0, 0) = x at *
        generalize b.s.getD k (0, 0) = y at *
        have g1 := eqg_count
        by_cases hxy : x = y
        · have g2 := fun w => eqf_count x y w
          rw [decide_eq_true hxy] at g2
          have HXY := Lib.hid hxy
          clear hxy
          go_wp2
          go_quiet (fail)
          go_wp2
          go_roundg (gk - 1)
          case rel => exact ⟨k + 1, by have := HK.out; omega, by go_num, by (repeat (first | with_reducible exact Below.refl _ _ | assumption | with_reducible refine below_drewN ?_ _ | with_reducible refine Below.drew ?_ | with_reducible refine balloc ?_ _ | (with_reducible refine Below.setCell ?_ ?_ _; rotate_left; focus (first | (simp; done) | (simp; omega) | omega)))), Lib.hid (HEQ.out HXY.out)⟩
          case measure => have := HK.out; omega
        · have g2 := fun w => eqf_count x y w
          rw [decide_eq_false hxy] at g2
          have HXY := Lib.hid hxy
          clear hxy
          go_wp2
          go_quiet (fail)
          go_wp2
          go_ret
          refine ⟨ret_bool ?_, by (repeat (first | with_reducible exact Below.refl _ _ | assumption | with_reducible refine below_drewN ?_ _ | with_reducible refine Below.drew ?_ | with_reducible refine balloc ?_ _ | (with_reducible refine Below.setCell ?_ ?_ _; rotate_left; focus (first | (simp; done) | (simp; omega) | omega))))⟩
          symm
          have hne := HNE.out HXY.out
          simp [sameB, hne]
      · have HEQ0 := Lib.hid (plist_eq (d := (0, 0)) HE0.out (fun j hj => hall.out j (by omega)))
        clear hall HK
        have s1 : World.cell? wr ⟨w.heap.size, 0, none⟩ = some (.slice S a.s.length c0) := hk1W.cell 0
        have s2 : World.cell? wr ⟨w.heap.size, 1, none⟩ = some (.slice N a.n.length c1) := hk1W.cell 1
        have s3 : World.cell? wr ⟨w.heap.size, 2, none⟩ = some (.slice G a.g.length c2) := hk1W.cell 2
        have s4 := hk1W.lt
        go_wp2
        clear s1 s2 s3
        go_loopg [6] a.n.length (fun gk i wr => ∃ k : Nat, k + gk = a.n.length ∧ i = .int .i64 k ∧ Below w0.heap.size w0 wr ∧ Hid (∀ j, j < k → a.n.getD j (0, 0) = b.n.getD j (0, 0)))
        case atStart => exact ⟨0, by omega, rfl, by (repeat (first | with_reducible exact Below.refl _ _ | assumption | with_reducible refine below_drewN ?_ _ | with_reducible refine Below.drew ?_ | with_reducible refine balloc ?_ _ | (with_reducible refine Below.setCell ?_ ?_ _; rotate_left; focus (first | (simp; done) | (simp; omega) | omega)))), Lib.hid (by intro j hj; omega)⟩
        case round =>
          obtain ⟨k, hk, rfl, hb, hall⟩ := hrel
          have hk' : k ≤ a.n.length := by omega
          have HK := Lib.hid hk
          clear hk
          have hbw := bstep hbX hb
          have hk1W := hk1.keep hb
          have hk2W := hk2.keep hb
          by_cases hlt : k < a.n.length
          · have hlt2 := Nat.lt_of_lt_of_le hlt HL1
            obtain ⟨b1, off1, e1', hl1, hc1, hd1⟩ := hx.n.at_ hlt
            obtain ⟨b2, off2, e2', hl2, hc2, hd2⟩ := hy.n.at_ hlt2
            have HNE := Lib.hid (fun h => ne_at (xs := a.n) (ys := b.n) (k := k) (d := (0, 0)) h)
            have HEQ := Lib.hid (fun h => all_lt_succ (p := fun j => a.n.getD j (0, 0) = b.n.getD j (0, 0)) hall.out h)
            have p1 := (hbw.cell (p := ⟨b1, _, none⟩) hl1).trans hc1
            have p2 := (hbw.cell (p := ⟨b1, _, none⟩) hl1).trans hd1
            have p3 := (hbw.cell (p := ⟨b2, _, none⟩) hl2).trans hc2
            have p4 := (hbw.cell (p := ⟨b2, _, none⟩) hl2).trans hd2
            clear hc1 hd1 hc2 hd2
            have s1 : World.cell? wr ⟨w.heap.size, 1, none⟩ = some (.slice (some ⟨b1, off1, none⟩) a.n.length c1) := by rw [← e1']; exact hk1W.cell 1
            have s2 : World.cell? wr ⟨w.heap.size + 1, 1, none⟩ = some (.slice (some ⟨b2, off2, none⟩) b.n.length d1) := by rw [← e2']; exact hk2W.cell 1
            clear e1' e2'
            have s3 := hk1W.lt
            have s4 := hk2W.lt
            generalize a.n.getD k (0, 0) = x at *
            generalize b.n.getD k (0, 0) = y at *
            have g1 := eqg_count
            by_cases hxy : x = y
            · have g2 := fun w => eqf_count x y w
              rw [decide_eq_true hxy] at g2
              have HXY := Lib.hid hxy
              clear hxy
              go_wp2
              go_quiet (fail)
              go_wp2
              go_roundg (gk - 1)
              case rel => exact ⟨k + 1, by have := HK.out; omega, by go_num, by (repeat (first | with_reducible exact Below.refl _ _ | assumption | with_reducible refine below_drewN ?_ _ | with_reducible refine Below.drew ?_ | with_reducible refine balloc ?_ _ | (with_reducible refine Below.setCell ?_ ?_ _; rotate_left; focus (first | (simp; done) | (simp; omega) | omega)))), Lib.hid (HEQ.out HXY.out)⟩
              case measure => have := HK.out; omega
            · have g2 := fun w => eqf_count x y w
              rw [decide_eq_false hxy] at g2
              have HXY := Lib.hid hxy
              clear hxy
              go_wp2
              go_quiet (fail)
              go_wp2
              go_ret
              refine ⟨ret_bool ?_, by (repeat (first | with_reducible exact Below.refl _ _ | assumption | with_reducible refine below_drewN ?_ _ | with_reducible refine Below.drew ?_ | with_reducible refine balloc ?_ _ | (with_reducible refine Below.setCell ?_ ?_ _; rotate_left; focus (first | (simp; done) | (simp; omega) | omega))))⟩
              symm
              have hne := HNE.out HXY.out
              simp [sameB, hne]
          · have HEQ1 := Lib.hid (plist_eq (d := (0, 0)) HE1.out (fun j hj => hall.out j (by omega)))
            clear hall HK
            have s1 : World.cell? wr ⟨w.heap.size, 0, none⟩ = some (.slice S a.s.length c0) := hk1W.cell 0
            have s2 : World.cell? wr ⟨w.heap.size, 1, none⟩ = some (.slice N a.n.length c1) := hk1W.cell 1
            have s3 : World.cell? wr ⟨w.heap.size, 2, none⟩ = some (.slice G a.g.length c2) := hk1W.cell 2
            have s4 := hk1W.lt
            go_wp2
            clear s1 s2 s3
            go_loopg [7] a.g.length (fun gk i wr => ∃ k : Nat, k + gk = a.g.length ∧ i = .int .i64 k ∧ Below w0.heap.size w0 wr ∧ Hid (∀ j, j < k → a.g.getD j (0, 0) = b.g.getD j (0, 0)))
            case atStart => exact ⟨0, by omega, rfl, by (repeat (first | with_reducible exact Below.refl _ _ | assumption | with_reducible refine below_drewN ?_ _ | with_reducible refine Below.drew ?_ | with_reducible refine balloc ?_ _ | (with_reducible refine Below.setCell ?_ ?_ _; rotate_left; focus (first | (simp; done) | (simp; omega) | omega)))), Lib.hid (by intro j hj; omega)⟩
            case round =>
              obtain ⟨k, hk, rfl, hb, hall⟩ := hrel
              have hk' : k ≤ a.g.length := by omega
              have HK := Lib.hid hk
              clear hk
              have hbw := bstep hbX hb
              have hk1W := hk1.keep hb
              have hk2W := hk2.keep hb
              by_cases hlt : k < a.g.length
              · have hlt2 := Nat.lt_of_lt_of_le hlt HL2
                obtain ⟨b1, off1, e1', hl1, hc1, hd1⟩ := hx.g.at_ hlt
                obtain ⟨b2, off2, e2', hl2, hc2, hd2⟩ := hy.g.at_ hlt2
                have HNE := Lib.hid (fun h => ne_at (xs := a.g) (ys := b.g) (k := k) (d := (0, 0)) h)
                have HEQ := Lib.hid (fun h => all_lt_succ (p := fun j => a.g.getD j (0, 0) = b.g.getD j (0, 0)) hall.out h)
                have p1 := (hbw.cell (p := ⟨b1, _, none⟩) hl1).trans hc1
                have p2 := (hbw.cell (p := ⟨b1, _, none⟩) hl1).trans hd1
                have p3 := (hbw.cell (p := ⟨b2, _, none⟩) hl2).trans hc2
                have p4 := (hbw.cell (p := ⟨b2, _, none⟩) hl2).trans hd2
                clear hc1 hd1 hc2 hd2
                have s1 : World.cell? wr ⟨w.heap.size, 2, none⟩ = some (.slice (some ⟨b1, off1, none⟩) a.g.length c2) := by rw [← e1']; exact hk1W.cell 2
                have s2 : World.cell? wr ⟨w.heap.size + 1, 2, none⟩ = some (.slice (some ⟨b2, off2, none⟩) b.g.length d2) := by rw [← e2']; exact hk2W.cell 2
                clear e1' e2'
                have s3 := hk1W.lt
                have s4 := hk2W.lt
                generalize a.g.getD k (0, 0) = x at *
                generalize b.g.getD k (0, 0) = y at *
                have g1 := eqg_gap
                by_cases hxy : x = y
                · have g2 := fun w => eqf_gap x y w
                  rw [decide_eq_true hxy] at g2
                  have HXY := Lib.hid hxy
                  clear hxy
                  go_wp2
                  go_quiet (fail)
                  go_wp2
                  go_roundg (gk - 1)
                  case rel => exact ⟨k + 1, by have := HK.out; omega, by go_num, by (repeat (first | with_reducible exact Below.refl _ _ | assumption | with_reducible refine below_drewN ?_ _ | with_reducible refine Below.drew ?_ | with_reducible refine balloc ?_ _ | (with_reducible refine Below.setCell ?_ ?_ _; rotate_left; focus (first | (simp; done) | (simp; omega) | omega)))), Lib.hid (HEQ.out HXY.out)⟩
                  case measure => have := HK.out; omega
                · have g2 := fun w => eqf_gap x y w
                  rw [decide_eq_false hxy] at g2
                  have HXY := Lib.hid hxy
                  clear hxy
                  go_wp2
                  go_quiet (fail)
                  go_wp2
                  go_ret
                  refine ⟨ret_bool ?_, by (repeat (first | with_reducible exact Below.refl _ _ | assumption | with_reducible refine below_drewN ?_ _ | with_reducible refine Below.drew ?_ | with_reducible refine balloc ?_ _ | (with_reducible refine Below.setCell ?_ ?_ _; rotate_left; focus (first | (simp; done) | (simp; omega) | omega))))⟩
                  symm
                  have hne := HNE.out HXY.out
                  simp [sameB, hne]
              · have HEQ2 := Lib.hid (plist_eq (d := (0, 0)) HE2.out (fun j hj => hall.out j (by omega)))
                clear hall HK
                have s1 : World.cell? wr ⟨w.heap.size, 0, none⟩ = some (.slice S a.s.length c0) := hk1W.cell 0
                have s2 : World.cell? wr ⟨w.heap.size, 1, none⟩ = some (.slice N a.n.length c1) := hk1W.cell 1
                have s3 : World.cell? wr ⟨w.heap.size, 2, none⟩ = some (.slice G a.g.length c2) := hk1W.cell 2
                have s4 := hk1W.lt
                go_wp2
                clear s1 s2 s3
                go_ret
                exact ⟨ret_bool (by simp [sameB, HEQ0.out, HEQ1.out, HEQ2.out]), hbw⟩
  · have hd : (a.s.length ≠ b.s.length) ∨ (a.s.length = b.s.length ∧ a.n.length ≠ b.n.length) ∨ (a.s.length = b.s.length ∧ a.n.length = b.n.length ∧ a.g.length ≠ b.g.length) := by omega
    have HN := Lib.hid (sameB_len (a := a) (b := b) (by omega))
    have hbF := HW0.out ▸ hbX
    clear h
    rcases hd with h1 | ⟨h1, h2⟩ | ⟨h1, h2, h3⟩
    · have e1 : ((a.s.length : Int) != b.s.length) = true := by rw [bne_iff_ne]; omega
      clear h1
      go_enter Try.func18, Try.ntmps18
      go_wp2
      go_ret
      exact ⟨ret_bool HN.out.symm, by (repeat (first | with_reducible exact Below.refl _ _ | assumption | with_reducible refine below_drewN ?_ _ | with_reducible refine Below.drew ?_ | with_reducible refine balloc ?_ _ | (with_reducible refine Below.setCell ?_ ?_ _; rotate_left; focus (first | (simp; done) | (simp; omega) | omega))))⟩
    · have e1 : ((a.s.length : Int) != b.s.length) = false := by rw [bne_eq_false_iff_eq]; omega
      have e2 : ((a.n.length : Int) != b.n.length) = true := by rw [bne_iff_ne]; omega
      clear h1 h2
      go_enter Try.func18, Try.ntmps18
      go_wp2
      go_ret
      exact ⟨ret_bool HN.out.symm, by (repeat (first | with_reducible exact Below.refl _ _ | assumption | with_reducible refine below_drewN ?_ _ | with_reducible refine Below.drew ?_ | with_reducible refine balloc ?_ _ | (with_reducible refine Below.setCell ?_ ?_ _; rotate_left; focus (first | (simp; done) | (simp; omega) | omega))))⟩
    · have e1 : ((a.s.length : Int) != b.s.length) = false := by rw [bne_eq_false_iff_eq]; omega
      have e2 : ((a.n.length : Int) != b.n.length) = false := by rw [bne_eq_false_iff_eq]; omega
      have e3 : ((a.g.length : Int) != b.g.length) = true := by rw [bne_iff_ne]; omega
      clear h1 h2 h3
      go_enter Try.func18, Try.ntmps18
      go_wp2
      go_ret
      exact ⟨ret_bool HN.out.symm, by (repeat (first | with_reducible exact Below.refl _ _ | assumption | with_reducible refine below_drewN ?_ _ | with_reducible refine Below.drew ?_ | with_reducible refine balloc ?_ _ | (with_reducible refine Below.setCell ?_ ?_ _; rotate_left; focus (first | (simp; done) | (simp; omega) | omega))))⟩
end Go.Proofs.Ytjhigfhgchpjcaa
