/-
  Jobs of layer 19. Contracts: bounds, part, both Part.
-/
import Derived.Test.YtdekbncpodjgnaaWkD
import Derived.Test.YtdekbncpodjgnaaAppend
import Derived.Deep.DrawnRows
import Derived.Deep.RegionLaw
import Derived.Laws.CopyOwn
namespace Go.Proofs.Ytdekbncpodjgnaa
open Go.RowKit
set_option linter.unusedVariables false
set_option linter.unusedSimpArgs false
namespace Wk
open Lagw

set_option maxHeartbeats 2000000 in
theorem bounds_any (X Y : Option Addr) (cx cy n nx : Nat) (m : Int) (S b lo hi : Nat) (w : World) (hS1 : 1 ≤ S) (hS2 : S ≤ 256) (hl : nx ≤ 256) (hb : b ≤ 256) (hlo : lo = b * S) (hhi : hi = min (lo + S) nx) :
    Calls Try.prog 58 #[.agg #[.slice X nx cx, .slice Y n cy, .int .i64 m, .int .i64 (S : Int)], .int .i64 (b : Int)] w fun e w' => e = .returned (.tuple #[.int .i64 (lo : Int), .int .i64 (hi : Int)]) ∧ Below w.heap.size w w' := by
  have hk := Blk.new w 24 #[.slice X nx cx, .slice Y n cy, .int .i64 m, .int .i64 (S : Int)]
  have q0 : World.cell? (w.alloc (.cells #[.slice X nx cx, .slice Y n cy, .int .i64 m, .int .i64 (S : Int)] 24)) ⟨w.heap.size, 0, none⟩ = some (.slice X nx cx) := hk.cell 0
  have f0 := hk.frozen 0
  have q1 : World.cell? (w.alloc (.cells #[.slice X nx cx, .slice Y n cy, .int .i64 m, .int .i64 (S : Int)] 24)) ⟨w.heap.size, 1, none⟩ = some (.slice Y n cy) := hk.cell 1
  have f1 := hk.frozen 1
  have q2 : World.cell? (w.alloc (.cells #[.slice X nx cx, .slice Y n cy, .int .i64 m, .int .i64 (S : Int)] 24)) ⟨w.heap.size, 2, none⟩ = some (.int .i64 m) := hk.cell 2
  have f2 := hk.frozen 2
  have q3 : World.cell? (w.alloc (.cells #[.slice X nx cx, .slice Y n cy, .int .i64 m, .int .i64 (S : Int)] 24)) ⟨w.heap.size, 3, none⟩ = some (.int .i64 (S : Int)) := hk.cell 3
  have f3 := hk.frozen 3
  have fl := hk.lt
  have hm := Nat.mul_le_mul hb hS2
  obtain ⟨up, hup⟩ : ∃ up, up = lo + S := ⟨_, rfl⟩
  have f1 : IntKind.i64.wrap ((b : Int) * (S : Int)) = (lo : Int) := by rw [hlo]; exact mulw (by omega) (by omega)
  have f2 : IntKind.i64.wrap ((b : Int) + 1) = (b : Int) + 1 := IntWalk.i64_in _ (by omega)
  have f3 : IntKind.i64.wrap (((b : Int) + 1) * (S : Int)) = (up : Int) := by
    have := mulw (k := b + 1) (s := S) (by omega) (by omega)
    rw [show ((b + 1) * S : Nat) = up by rw [hup, hlo, Nat.succ_mul]] at this
    simpa using this
  by_cases h : nx < up
  · have d1 : ((nx : Int) < (up : Int)) := by omega
    obtain rfl : hi = nx := by omega
    clear hup hlo hhi hm
    go_enter Try.func58, Try.ntmps58
    go_wp2
    go_region_law (fail)
    all_goals
      go_wp2
      go_ret2
      exact ⟨rfl, (balloc (Below.refl _ _) _).drew⟩
  · have d1 : ¬ ((nx : Int) < (up : Int)) := by omega
    obtain rfl : hi = up := by omega
    clear hup hlo hhi hm
    go_enter Try.func58, Try.ntmps58
    go_wp2
    go_region_law (fail)
    all_goals
      go_wp2
      go_ret2
      exact ⟨rfl, (balloc (Below.refl _ _) _).drew⟩
end Wk
end Go.Proofs.Ytdekbncpodjgnaa
