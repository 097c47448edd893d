/-
  Contracts: fringeref10.Power, ring.power and its function times: both are a^n mod p.
-/
import Derived.Test.YtnngkghmhbcgeaaProg
import Derived.Test.YtnngkghmhbcgeaaWords
import Derived.StillTailTactics
import Derived.Deep.LoopGhost
import Derived.Deep.QuietTactic
import Derived.BigQuiet
namespace Go.Proofs.Ytnngkghmhbcgeaa
open Go.RowKit
set_option linter.unusedVariables false

theorem mul_fit {x y : Nat} (hx : x ≤ 2000000000) (hy : y ≤ 2000000000) : ((x : Int) * (y : Int)) ≤ 4000000000000000000 ∧ 0 ≤ (x : Int) * (y : Int) := by
  have h := Nat.mul_le_mul hx hy
  have : ((x * y : Nat) : Int) ≤ ((2000000000 * 2000000000 : Nat) : Int) := by exact_mod_cast h
  rw [Int.natCast_mul] at this
  refine ⟨by omega, ?_⟩
  rw [← Int.natCast_mul]; omega
theorem mul_wrap {x y : Nat} (hx : x ≤ 2000000000) (hy : y ≤ 2000000000) : IntKind.i64.wrap ((x : Int) * (y : Int)) = ((x * y : Nat) : Int) := by
  have := mul_fit hx hy
  rw [IntWalk.i64_in _ (by omega), Int.natCast_mul]

theorem pow_odd {r b m p : Nat} (h : m % 2 = 1) : (r * b % p) * (b * b % p) ^ (m / 2) % p = r * b ^ m % p := by
  have e : m = 2 * (m / 2) + 1 := by omega
  have e2 : b ^ m = b * (b * b) ^ (m / 2) := by
    rw [← Nat.pow_two, ← Nat.pow_mul, Nat.mul_comm b, ← Nat.pow_succ]; exact congrArg (b ^ ·) e
  rw [e2, Nat.mul_mod, Nat.mod_mod, Nat.pow_mod, Nat.mod_mod, ← Nat.pow_mod, ← Nat.mul_mod, Nat.mul_assoc]
theorem pow_even {r b m p : Nat} (h : m % 2 = 0) : r * (b * b % p) ^ (m / 2) % p = r * b ^ m % p := by
  have e : m = 2 * (m / 2) := by omega
  have e2 : b ^ m = (b * b) ^ (m / 2) := by
    rw [← Nat.pow_two, ← Nat.pow_mul]; exact congrArg (b ^ ·) e
  rw [e2, Nat.mul_mod, Nat.pow_mod, Nat.mod_mod, ← Nat.pow_mod, ← Nat.mul_mod]

theorem refPower_any (p a n : Nat) (w : World) (hp : 2 ≤ p) (hp2 : p ≤ 2000000000) (ha : a ≤ 2000000000) (hn : n ≤ 9223372036854775807) :
    Calls Try.prog 27 #[.int .i64 p, .int .i64 a, .int .i64 n] w fun e w' => e = .returned (.int .i64 ((a ^ n % p : Nat) : Int)) ∧ w = w' := by
  go_enter Try.func27, Try.ntmps27
  go_wp2
  go_loopg [7, 1, 2] n (fun gk o b m wr => ∃ r c : Nat, o = .int .i64 r ∧ b = .int .i64 c ∧ m = .int .i64 gk ∧ wr = w ∧ gk ≤ n ∧ r < p ∧ c ≤ 2000000000 ∧ Hid (r * c ^ gk % p = a ^ n % p))
  case atStart => exact ⟨1, a, rfl, rfl, rfl, rfl, by omega, by omega, ha, Lib.hid (by rw [Nat.one_mul])⟩
  case round =>
    obtain ⟨r, c, rfl, rfl, rfl, rfl, hgn, hr, hc, HI⟩ := hrel
    by_cases h0 : 0 < gk
    · have f1 := mul_wrap (x := c) (y := c) hc hc
      have f2 := mul_wrap (x := r) (y := c) (by omega) hc
      have b1 : c * c % p < p := Nat.mod_lt _ (by omega)
      have b2 : r * c % p < p := Nat.mod_lt _ (by omega)
      by_cases ho : gk % 2 = 1
      · have f3 : (((gk % 2 : Nat) : Int) == 1) = true := by rw [ho]; rfl
        go_wp2
        go_roundg (gk / 2)
        case rel => exact ⟨r * c % p, c * c % p, rfl, rfl, rfl, rfl, by omega, b2, by omega, Lib.hid ((pow_odd ho).trans HI.out)⟩
        case measure => omega
      · have f3 : (((gk % 2 : Nat) : Int) == 1) = false := by rw [show gk % 2 = 0 by omega]; rfl
        go_wp2
        go_roundg (gk / 2)
        case rel => exact ⟨r, c * c % p, rfl, rfl, rfl, rfl, by omega, hr, by omega, Lib.hid ((pow_even (by omega)).trans HI.out)⟩
        case measure => omega
    · have e := Lib.hid (show gk = 0 by omega)
      have d0 : decide (0 < gk) = false := decide_eq_false (by omega)
      have d1 : decide ((0 : Int) < (gk : Int)) = false := decide_eq_false (by omega)
      clear h0
      go_wp2
      go_ret
      have := HI.out
      rw [e.out, Nat.pow_zero, Nat.mul_one, Nat.mod_eq_of_lt hr] at this
      exact ⟨ret_int (by rw [this]), rfl⟩

theorem times_any (p x y : Nat) (g : Nat) (t : TypeId) (w : World) (hg : Blk w g t #[.int .i64 p]) (hp : 1 ≤ p) (hx : x ≤ 2000000000) (hy : y ≤ 2000000000) :
    Calls Try.prog 36 #[.int .i64 x, .int .i64 y, .pointer (some ⟨g, 0, none⟩)] w fun e w' => e = .returned (.int .i64 ((x * y % p : Nat) : Int)) ∧ w' = w := by
  have f1 := mul_wrap hx hy
  have q0 : World.cell? w ⟨g, 0, none⟩ = some (.int .i64 p) := hg.cell 0
  go_enter Try.func36, Try.ntmps36
  go_wp2
  go_ret
  exact ⟨rfl, rfl⟩

theorem power_any (p a n : Nat) (w : World) (hp : 2 ≤ p) (hp2 : p ≤ 2000000000) (ha : a ≤ 2000000000) (hn : n ≤ 9223372036854775807) :
    Calls Try.prog 30 #[.int .i64 p, .int .i64 a, .int .i64 n] w fun e w' => e = .returned (.int .i64 ((a ^ n % p : Nat) : Int)) ∧ Below w.heap.size w w' := by
  have hmf : ∀ (fn : Fn) (first cap : Array Value) (w : World), (Instr.makeFunc fn first cap).run Try.prog w = .ok (.func fn first cap) w := fun _ _ _ _ => rfl
  have e1 : 1 % p = 1 := Nat.mod_eq_of_lt (by omega)
  go_enter Try.func30, Try.ntmps30
  go_wp2
  go_loopg [8, 1, 2] n (fun gk o b m wr => ∃ r c : Nat, o = .int .i64 r ∧ b = .int .i64 c ∧ m = .int .i64 gk ∧ wr = w.alloc (.cells #[.int .i64 p] 2) ∧ gk ≤ n ∧ r < p ∧ c ≤ 2000000000 ∧ Hid (r * c ^ gk % p = a ^ n % p))
  case atStart => exact ⟨1, a, by rw [show (1 : Int) % (p : Int) = ((1 % p : Nat) : Int) from rfl, e1], rfl, rfl, rfl, by omega, by omega, ha, Lib.hid (by rw [Nat.one_mul])⟩
  case round =>
    obtain ⟨r, c, rfl, rfl, rfl, rfl, hgn, hr, hc, HI⟩ := hrel
    have hb := Blk.new w 2 #[.int .i64 (p : Int)]
    by_cases h0 : 0 < gk
    · have b1 : c * c % p < p := Nat.mod_lt _ (by omega)
      have b2 : r * c % p < p := Nat.mod_lt _ (by omega)
      by_cases ho : gk % 2 = 1
      · have f3 : (((gk % 2 : Nat) : Int) == 1) = true := by rw [ho]; rfl
        go_wp2_with fail
        refine (times_any p r c w.heap.size _ _ hb (by omega) (by omega) hc).mono ?_
        rintro _ w1 ⟨rfl, rfl⟩
        go_wp2_with fail
        refine (times_any p c c w.heap.size _ _ hb (by omega) hc hc).mono ?_
        rintro _ w1 ⟨rfl, rfl⟩
        go_wp2
        go_roundg (gk / 2)
        case rel => exact ⟨r * c % p, c * c % p, rfl, rfl, rfl, rfl, by omega, b2, by omega, Lib.hid ((pow_odd ho).trans HI.out)⟩
        case measure => omega
      · have f3 : (((gk % 2 : Nat) : Int) == 1) = false := by rw [show gk % 2 = 0 by omega]; rfl
        go_wp2_with fail
        refine (times_any p c c w.heap.size _ _ hb (by omega) hc hc).mono ?_
        rintro _ w1 ⟨rfl, rfl⟩
        go_wp2
        go_roundg (gk / 2)
        case rel => exact ⟨r, c * c % p, rfl, rfl, rfl, rfl, by omega, hr, by omega, Lib.hid ((pow_even (by omega)).trans HI.out)⟩
        case measure => omega
    · have e := Lib.hid (show gk = 0 by omega)
      have d0 : decide (0 < gk) = false := decide_eq_false (by omega)
      have d1 : decide ((0 : Int) < (gk : Int)) = false := decide_eq_false (by omega)
      clear h0
      go_wp2
      go_ret
      have := HI.out
      rw [e.out, Nat.pow_zero, Nat.mul_one, Nat.mod_eq_of_lt hr] at this
      exact ⟨ret_int (by rw [this]), balloc (Below.refl _ _) _⟩
end Go.Proofs.Ytnngkghmhbcgeaa
