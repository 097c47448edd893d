/-
  Jobs of layer 19. Contract: fringeref19.Same.
-/
import Derived.Test.YtdekbncpodjgnaaWkS
import Derived.Deep.Onto
import Derived.Test.YtdekbncpodjgnaaAppend
import Derived.Deep.DrawnRows
import Derived.Deep.RegionLaw
import Derived.Laws.CopyOwn
namespace Go.Proofs.Ytdekbncpodjgnaa
open Go.RowKit
set_option linter.unusedVariables false
set_option linter.unusedSimpArgs false
namespace Wk
open Lagw

theorem sameB_self (a : Acc) : sameB a a = true := by simp [sameB]
set_option maxRecDepth 20000 in
set_option maxHeartbeats 2000000 in
theorem same19_yes (S N G D T S' N' G' D' T' : Option Addr) (c1 c2 c3 c4 c5 d1 d2 d3 d4 d5 : Nat) (r : Work) (w : World) (hx : RW w S N G D T r) (hy : RW w S' N' G' D' T' r) (l1 : r.a.s.length ≤ 140737488355328) (l2 : r.a.n.length ≤ 140737488355328) (l3 : r.a.g.length ≤ 140737488355328) (l4 : r.d.length ≤ 140737488355328) (l5 : r.t.length ≤ 140737488355328) :
    Calls Try.prog 19 #[.agg #[.slice S r.a.s.length c1, .slice N r.a.n.length c2, .slice G r.a.g.length c3, .slice D r.d.length c4, .slice T r.t.length c5], .agg #[.slice S' r.a.s.length d1, .slice N' r.a.n.length d2, .slice G' r.a.g.length d3, .slice D' r.d.length d4, .slice T' r.t.length d5]] w fun e w' => e = .returned (.bool true) ∧ Below w.heap.size w w' := by
  obtain ⟨w0, hw0⟩ : ∃ w0, w0 = (w.alloc (.cells #[.slice S r.a.s.length c1, .slice N r.a.n.length c2, .slice G r.a.g.length c3, .slice D r.d.length c4, .slice T r.t.length c5] 42)).alloc (.cells #[.slice S' r.a.s.length d1, .slice N' r.a.n.length d2, .slice G' r.a.g.length d3, .slice D' r.d.length d4, .slice T' r.t.length d5] 42) := ⟨_, rfl⟩
  have hbX : Below w.heap.size w w0 := by rw [hw0]; exact balloc (balloc (Below.refl _ _) _) _
  have hk1 : Blk w0 w.heap.size 42 #[.slice S r.a.s.length c1, .slice N r.a.n.length c2, .slice G r.a.g.length c3, .slice D r.d.length c4, .slice T r.t.length c5] := by rw [hw0]; exact (Blk.new _ _ _).alloc _
  have hk2 : Blk w0 (w.heap.size + 1) 42 #[.slice S' r.a.s.length d1, .slice N' r.a.n.length d2, .slice G' r.a.g.length d3, .slice D' r.d.length d4, .slice T' r.t.length d5] := by rw [hw0]; exact Blk.newAt _ _ (by simp)
  have HSB := Lib.hid (sameB_self r.a)
  go_enter Try.func19, Try.ntmps19
  have q0 : World.cell? w0 ⟨w.heap.size, 0, none⟩ = some (.slice S r.a.s.length c1) := hk1.cell 0
  have f0 := hk1.frozen 0
  have q1 : World.cell? w0 ⟨w.heap.size, 1, none⟩ = some (.slice N r.a.n.length c2) := hk1.cell 1
  have f1 := hk1.frozen 1
  have q2 : World.cell? w0 ⟨w.heap.size, 2, none⟩ = some (.slice G r.a.g.length c3) := hk1.cell 2
  have f2 := hk1.frozen 2
  have q3 : World.cell? w0 ⟨w.heap.size, 3, none⟩ = some (.slice D r.d.length c4) := hk1.cell 3
  have f3 := hk1.frozen 3
  have q4 : World.cell? w0 ⟨w.heap.size, 4, none⟩ = some (.slice T r.t.length c5) := hk1.cell 4
  have f4 := hk1.frozen 4
  have fl := hk1.lt
  have p0 : World.cell? w0 ⟨w.heap.size + 1, 0, none⟩ = some (.slice S' r.a.s.length d1) := hk2.cell 0
  have g0 := hk2.frozen 0
  have p1 : World.cell? w0 ⟨w.heap.size + 1, 1, none⟩ = some (.slice N' r.a.n.length d2) := hk2.cell 1
  have g1 := hk2.frozen 1
  have p2 : World.cell? w0 ⟨w.heap.size + 1, 2, none⟩ = some (.slice G' r.a.g.length d3) := hk2.cell 2
  have g2 := hk2.frozen 2
  have p3 : World.cell? w0 ⟨w.heap.size + 1, 3, none⟩ = some (.slice D' r.d.length d4) := hk2.cell 3
  have g3 := hk2.frozen 3
  have p4 : World.cell? w0 ⟨w.heap.size + 1, 4, none⟩ = some (.slice T' r.t.length d5) := hk2.cell 4
  have g4 := hk2.frozen 4
  have gl := hk2.lt
  have hxw := hx.keep hbX
  have hyw := hy.keep hbX
  subst hw0
  go_wp2_with fail
  refine (same13_any _ _ _ _ r.t r.t _ hxw.t hyw.t l5 l5).mono ?_
  rintro _ w1 ⟨rfl, n1, rfl⟩
  rw [decide_eq_true rfl]
  go_wp2_with fail
  refine (same18_any _ _ _ _ _ _ _ _ _ _ _ _ r.a r.a _ (hxw.a.keep (below_drewN (Below.refl _ _) _)) (hyw.a.keep (below_drewN (Below.refl _ _) _)) l1 l2 l3 l1 l2 l3).mono ?_
  rintro _ w2 ⟨rfl, hb2⟩
  rw [HSB.out]
  have hb2' := bstep (below_drewN (Below.refl _ _) n1) hb2
  have hB2 := bstep hbX hb2'
  have hxd := hxw.d.keep hb2'
  have hyd := hyw.d.keep hb2'
  have hk3 := hk1.keep hb2'
  have hk4 := hk2.keep hb2'
  clear q0 q1 q2 q3 q4 p0 p1 p2 p3 p4 f0 f1 f2 f3 f4 g0 g1 g2 g3 g4 fl gl hk1 hk2 hb2 hb2' hbX hxw hyw hx hy HSB
  have q0 : World.cell? w2 ⟨w.heap.size, 0, none⟩ = some (.slice S r.a.s.length c1) := hk3.cell 0
  have f0 := hk3.frozen 0
  have q1 : World.cell? w2 ⟨w.heap.size, 1, none⟩ = some (.slice N r.a.n.length c2) := hk3.cell 1
  have f1 := hk3.frozen 1
  have q2 : World.cell? w2 ⟨w.heap.size, 2, none⟩ = some (.slice G r.a.g.length c3) := hk3.cell 2
  have f2 := hk3.frozen 2
  have q3 : World.cell? w2 ⟨w.heap.size, 3, none⟩ = some (.slice D r.d.length c4) := hk3.cell 3
  have f3 := hk3.frozen 3
  have q4 : World.cell? w2 ⟨w.heap.size, 4, none⟩ = some (.slice T r.t.length c5) := hk3.cell 4
  have f4 := hk3.frozen 4
  have fl := hk3.lt
  have p0 : World.cell? w2 ⟨w.heap.size + 1, 0, none⟩ = some (.slice S' r.a.s.length d1) := hk4.cell 0
  have g0 := hk4.frozen 0
  have p1 : World.cell? w2 ⟨w.heap.size + 1, 1, none⟩ = some (.slice N' r.a.n.length d2) := hk4.cell 1
  have g1 := hk4.frozen 1
  have p2 : World.cell? w2 ⟨w.heap.size + 1, 2, none⟩ = some (.slice G' r.a.g.length d3) := hk4.cell 2
  have g2 := hk4.frozen 2
  have p3 : World.cell? w2 ⟨w.heap.size + 1, 3, none⟩ = some (.slice D' r.d.length d4) := hk4.cell 3
  have g3 := hk4.frozen 3
  have p4 : World.cell? w2 ⟨w.heap.size + 1, 4, none⟩ = some (.slice T' r.t.length d5) := hk4.cell 4
  have g4 := hk4.frozen 4
  have gl := hk4.lt
  go_wp2
  go_loopg [5] r.d.length (fun gk i wr => ∃ k n : Nat, k + gk = r.d.length ∧ i = .int .i64 k ∧ wr = w2.drewN n)
  case atStart => exact ⟨0, 0, by omega, rfl, rfl⟩
  case round =>
    obtain ⟨k, n, hk, rfl, rfl⟩ := hrel
    have hk' : k ≤ r.d.length := by omega
    have HK := Lib.hid hk
    clear hk
    by_cases hlt : k < r.d.length
    · obtain ⟨b1, o1, rfl, m1, h1⟩ := hxd (by omega)
      obtain ⟨b2, o2, rfl, m2, h2⟩ := hyd (by omega)
      have h1' := h1 k hlt
      have h2' := h2 k hlt
      generalize r.d.getD k false = x at h1' h2'
      have hv : (x != x) = false := by simp
      clear h1 h2
      go_wp2
      go_quiet (fail)
      go_wp2
      go_roundg (gk - 1)
      case rel => exact ⟨k + 1, _, by have := HK.out; omega, by go_num, rfl⟩
      case measure => have := HK.out; omega
    · go_wp2
      go_ret
      exact ⟨rfl, below_drewN hB2 _⟩
end Wk
end Go.Proofs.Ytdekbncpodjgnaa
