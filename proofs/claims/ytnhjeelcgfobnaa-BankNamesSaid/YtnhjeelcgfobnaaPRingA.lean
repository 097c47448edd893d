/-
  Contracts: fringeref10.Power, ring.power and its function times: both are a^n mod p.
  Contract: ring.prime tells whether a number is a prime number.
-/
import Derived.Test.YtnhjeelcgfobnaaProg
import Derived.Test.YtnhjeelcgfobnaaPWords
import Derived.StillTailTactics
import Derived.Deep.LoopGhost
import Derived.Deep.QuietTactic
import Derived.BigQuiet
import Derived.Test.YtnhjeelcgfobnaaPNumF
import Derived.WalkMore
namespace Go.Proofs.Ytnhjeelcgfobnaa
open Go.RowKit
set_option maxRecDepth 8000
set_option linter.unusedVariables false

theorem mul_fit {x y : Nat} (hx : x ≤ 2000000000) (hy : y ≤ 2000000000) : ((x : Int) * (y : Int)) ≤ 4000000000000000000 ∧ 0 ≤ (x : Int) * (y : Int) := by
  have h := Nat.mul_le_mul hx hy
  have : ((x * y : Nat) : Int) ≤ ((2000000000 * 2000000000 : Nat) : Int) := by exact_mod_cast h
  rw [Int.natCast_mul] at this
  refine ⟨by omega, ?_⟩
  rw [← Int.natCast_mul]; omega
theorem mul_wrap {x y : Nat} (hx : x ≤ 2000000000) (hy : y ≤ 2000000000) : IntKind.i64.wrap ((x : Int) * (y : Int)) = ((x * y : Nat) : Int) := by
  have := mul_fit hx hy
  rw [IntWalk.i64_in _ (by omega), Int.natCast_mul]

theorem pow_odd {r b m p : Nat} (h : m % 2 = 1) : (r * b % p) * (b * b % p) ^ (m / 2) % p = r * b ^ m % p := by
  have e : m = 2 * (m / 2) + 1 := by omega
  have e2 : b ^ m = b * (b * b) ^ (m / 2) := by
    rw [← Nat.pow_two, ← Nat.pow_mul, Nat.mul_comm b, ← Nat.pow_succ]; exact congrArg (b ^ ·) e
  rw [e2, Nat.mul_mod, Nat.mod_mod, Nat.pow_mod, Nat.mod_mod, ← Nat.pow_mod, ← Nat.mul_mod, Nat.mul_assoc]
theorem pow_even {r b m p : Nat} (h : m % 2 = 0) : r * (b * b % p) ^ (m / 2) % p = r * b ^ m % p := by
  have e : m = 2 * (m / 2) := by omega
  have e2 : b ^ m = (b * b) ^ (m / 2) := by
    rw [← Nat.pow_two, ← Nat.pow_mul]; exact congrArg (b ^ ·) e
  rw [e2, Nat.mul_mod, Nat.pow_mod, Nat.mod_mod, ← Nat.pow_mod, ← Nat.mul_mod]

theorem refPower_any (p a n : Nat) (w : World) (hp : 2 ≤ p) (hp2 : p ≤ 2000000000) (ha : a ≤ 2000000000) (hn : n ≤ 9223372036854775807) :
    Calls Try.prog 77 #[.int .i64 p, .int .i64 a, .int .i64 n] w fun e w' => e = .returned (.int .i64 ((a ^ n % p : Nat) : Int)) ∧ w = w' := by
  go_enter Try.func77, Try.ntmps77
  go_wp2
  go_loopg [7, 1, 2] n (fun gk o b m wr => ∃ r c : Nat, o = .int .i64 r ∧ b = .int .i64 c ∧ m = .int .i64 gk ∧ wr = w ∧ gk ≤ n ∧ r < p ∧ c ≤ 2000000000 ∧ Hid (r * c ^ gk % p = a ^ n % p))
  case atStart => exact ⟨1, a, rfl, rfl, rfl, rfl, by omega, by omega, ha, Lib.hid (by rw [Nat.one_mul])⟩
  case round =>
    obtain ⟨r, c, rfl, rfl, rfl, rfl, hgn, hr, hc, HI⟩ := hrel
    by_cases h0 : 0 < gk
    · have f1 := mul_wrap (x := c) (y := c) hc hc
      have f2 := mul_wrap (x := r) (y := c) (by omega) hc
      have b1 : c * c % p < p := Nat.mod_lt _ (by omega)
      have b2 : r * c % p < p := Nat.mod_lt _ (by omega)
      by_cases ho : gk % 2 = 1
      · have f3 : (((gk % 2 : Nat) : Int) == 1) = true := by rw [ho]; rfl
        go_wp2
        go_roundg (gk / 2)
        case rel => exact ⟨r * c % p, c * c % p, rfl, rfl, rfl, rfl, by omega, b2, by omega, Lib.hid ((pow_odd ho).trans HI.out)⟩
        case measure => omega
      · have f3 : (((gk % 2 : Nat) : Int) == 1) = false := by rw [show gk % 2 = 0 by omega]; rfl
        go_wp2
        go_roundg (gk / 2)
        case rel => exact ⟨r, c * c % p, rfl, rfl, rfl, rfl, by omega, hr, by omega, Lib.hid ((pow_even (by omega)).trans HI.out)⟩
        case measure => omega
    · have e := Lib.hid (show gk = 0 by omega)
      have d0 : decide (0 < gk) = false := decide_eq_false (by omega)
      have d1 : decide ((0 : Int) < (gk : Int)) = false := decide_eq_false (by omega)
      clear h0
      go_wp2
      go_ret
      have := HI.out
      rw [e.out, Nat.pow_zero, Nat.mul_one, Nat.mod_eq_of_lt hr] at this
      exact ⟨ret_int (by rw [this]), rfl⟩

theorem times_any (p x y : Nat) (g : Nat) (t : TypeId) (w : World) (hg : Blk w g t #[.int .i64 p]) (hp : 1 ≤ p) (hx : x ≤ 2000000000) (hy : y ≤ 2000000000) :
    Calls Try.prog 78 #[.int .i64 x, .int .i64 y, .pointer (some ⟨g, 0, none⟩)] w fun e w' => e = .returned (.int .i64 ((x * y % p : Nat) : Int)) ∧ w' = w := by
  have f1 := mul_wrap hx hy
  have q0 : World.cell? w ⟨g, 0, none⟩ = some (.int .i64 p) := hg.cell 0
  go_enter Try.func78, Try.ntmps78
  go_wp2
  go_ret
  exact ⟨rfl, rfl⟩

theorem power_any (p a n : Nat) (w : World) (hp : 2 ≤ p) (hp2 : p ≤ 2000000000) (ha : a ≤ 2000000000) (hn : n ≤ 9223372036854775807) :
    Calls Try.prog 67 #[.int .i64 p, .int .i64 a, .int .i64 n] w fun e w' => e = .returned (.int .i64 ((a ^ n % p : Nat) : Int)) ∧ Below w.heap.size w w' := by
  have hmf : ∀ (fn : Fn) (first cap : Array Value) (w : World), (Instr.makeFunc fn first cap).run Try.prog w = .ok (.func fn first cap) w := fun _ _ _ _ => rfl
  have e1 : 1 % p = 1 := Nat.mod_eq_of_lt (by omega)
  go_enter Try.func67, Try.ntmps67
  go_wp2
  go_loopg [8, 1, 2] n (fun gk o b m wr => ∃ r c : Nat, o = .int .i64 r ∧ b = .int .i64 c ∧ m = .int .i64 gk ∧ wr = w.alloc (.cells #[.int .i64 p] 2) ∧ gk ≤ n ∧ r < p ∧ c ≤ 2000000000 ∧ Hid (r * c ^ gk % p = a ^ n % p))
  case atStart => exact ⟨1, a, by rw [show (1 : Int) % (p : Int) = ((1 % p : Nat) : Int) from rfl, e1], rfl, rfl, rfl, by omega, by omega, ha, Lib.hid (by rw [Nat.one_mul])⟩
  case round =>
    obtain ⟨r, c, rfl, rfl, rfl, rfl, hgn, hr, hc, HI⟩ := hrel
    have hb := Blk.new w 2 #[.int .i64 (p : Int)]
    by_cases h0 : 0 < gk
    · have b1 : c * c % p < p := Nat.mod_lt _ (by omega)
      have b2 : r * c % p < p := Nat.mod_lt _ (by omega)
      by_cases ho : gk % 2 = 1
      · have f3 : (((gk % 2 : Nat) : Int) == 1) = true := by rw [ho]; rfl
        go_wp2_with fail
        refine (times_any p r c w.heap.size _ _ hb (by omega) (by omega) hc).mono ?_
        rintro _ w1 ⟨rfl, rfl⟩
        go_wp2_with fail
        refine (times_any p c c w.heap.size _ _ hb (by omega) hc hc).mono ?_
        rintro _ w1 ⟨rfl, rfl⟩
        go_wp2
        go_roundg (gk / 2)
        case rel => exact ⟨r * c % p, c * c % p, rfl, rfl, rfl, rfl, by omega, b2, by omega, Lib.hid ((pow_odd ho).trans HI.out)⟩
        case measure => omega
      · have f3 : (((gk % 2 : Nat) : Int) == 1) = false := by rw [show gk % 2 = 0 by omega]; rfl
        go_wp2_with fail
        refine (times_any p c c w.heap.size _ _ hb (by omega) hc hc).mono ?_
        rintro _ w1 ⟨rfl, rfl⟩
        go_wp2
        go_roundg (gk / 2)
        case rel => exact ⟨r, c * c % p, rfl, rfl, rfl, rfl, by omega, hr, by omega, Lib.hid ((pow_even (by omega)).trans HI.out)⟩
        case measure => omega
    · have e := Lib.hid (show gk = 0 by omega)
      have d0 : decide (0 < gk) = false := decide_eq_false (by omega)
      have d1 : decide ((0 : Int) < (gk : Int)) = false := decide_eq_false (by omega)
      clear h0
      go_wp2
      go_ret
      have := HI.out
      rw [e.out, Nat.pow_zero, Nat.mul_one, Nat.mod_eq_of_lt hr] at this
      exact ⟨ret_int (by rw [this]), balloc (Below.refl _ _) _⟩
end Go.Proofs.Ytnhjeelcgfobnaa
namespace Go.Proofs.Ytnhjeelcgfobnaa
open Go.RowKit Num
set_option maxRecDepth 8000
set_option linter.unusedVariables false

theorem sq_step {a n d i x : Nat} (h : x = a ^ (2 ^ i * d) % n) : x * x % n = a ^ (2 ^ (i + 1) * d) % n := by
  subst h
  rw [← Nat.mul_mod, ← Nat.pow_add]
  congr 2
  rw [Nat.pow_succ]; grind
theorem sub_one_cast {n : Nat} (h : 1 ≤ n) : (n : Int) - 1 = ((n - 1 : Nat) : Int) := by omega

def KQ (n t d : Nat) (k : Int) : Prop := (1 ≤ k → ¬ 2 ∣ n ∧ SP n t d 2) ∧ (2 ≤ k → ¬ 3 ∣ n ∧ SP n t d 3) ∧ (3 ≤ k → ¬ 5 ∣ n ∧ SP n t d 5) ∧ (4 ≤ k → ¬ 7 ∣ n ∧ SP n t d 7)
theorem KQ.zero {n t d : Nat} : KQ n t d 0 := ⟨fun h => absurd h (by omega), fun h => absurd h (by omega), fun h => absurd h (by omega), fun h => absurd h (by omega)⟩
theorem KQ.one {n t d : Nat} (a : ¬ 2 ∣ n) (b : SP n t d 2) : KQ n t d (0 + 1) := ⟨fun _ => ⟨a, b⟩, fun h => absurd h (by omega), fun h => absurd h (by omega), fun h => absurd h (by omega)⟩
theorem KQ.two {n t d : Nat} (k : KQ n t d 1) (a : ¬ 3 ∣ n) (b : SP n t d 3) : KQ n t d (1 + 1) := ⟨fun _ => k.1 (by omega), fun _ => ⟨a, b⟩, fun h => absurd h (by omega), fun h => absurd h (by omega)⟩
theorem KQ.three {n t d : Nat} (k : KQ n t d 2) (a : ¬ 5 ∣ n) (b : SP n t d 5) : KQ n t d (2 + 1) := ⟨fun _ => k.1 (by omega), fun _ => k.2.1 (by omega), fun _ => ⟨a, b⟩, fun h => absurd h (by omega)⟩
theorem KQ.four {n t d : Nat} (k : KQ n t d 3) (a : ¬ 7 ∣ n) (b : SP n t d 7) : KQ n t d (3 + 1) := ⟨fun _ => k.1 (by omega), fun _ => k.2.1 (by omega), fun _ => k.2.2.1 (by omega), fun _ => ⟨a, b⟩⟩
theorem KQ.all {n t d : Nat} (k : KQ n t d 4) : (¬ 2 ∣ n ∧ SP n t d 2) ∧ (¬ 3 ∣ n ∧ SP n t d 3) ∧ (¬ 5 ∣ n ∧ SP n t d 5) ∧ (¬ 7 ∣ n ∧ SP n t d 7) := ⟨k.1 (by omega), k.2.1 (by omega), k.2.2.1 (by omega), k.2.2.2 (by omega)⟩


set_option maxHeartbeats 4000000 in
theorem prime_any (n : Nat) (w : World) (hn2 : 2 ≤ n) (hn : n ≤ 2000000000) :
    Calls Try.prog 75 #[.int .i64 n] w fun e w' => e = .returned (.bool (primeB n)) ∧ Below w.heap.size w w' := by
  have g0 : IntKind.i64.wrap ((n : Int) - 1) = ((n - 1 : Nat) : Int) := by rw [IntWalk.i64_in _ (by omega)]; exact sub_one_cast (by omega)
  have ix0 : ∀ w : World, (Instr.index 99 (.agg #[.int .i64 2, .int .i64 3, .int .i64 5, .int .i64 7]) (.int .i64 0)).run Try.prog w = .ok (.int .i64 2) w := by intro w; simp [go_sem, Instr.index]
  have ix1 : ∀ w : World, (Instr.index 99 (.agg #[.int .i64 2, .int .i64 3, .int .i64 5, .int .i64 7]) (.int .i64 1)).run Try.prog w = .ok (.int .i64 3) w := by intro w; simp [go_sem, Instr.index]
  have ix2 : ∀ w : World, (Instr.index 99 (.agg #[.int .i64 2, .int .i64 3, .int .i64 5, .int .i64 7]) (.int .i64 2)).run Try.prog w = .ok (.int .i64 5) w := by intro w; simp [go_sem, Instr.index]
  have ix3 : ∀ w : World, (Instr.index 99 (.agg #[.int .i64 2, .int .i64 3, .int .i64 5, .int .i64 7]) (.int .i64 3)).run Try.prog w = .ok (.int .i64 7) w := by intro w; simp [go_sem, Instr.index]
  go_enter Try.func75, Try.ntmps75
  go_wp2
  go_step3
  go_wp2
  go_loopg [3, 4] (n - 1) (fun gk o s wr => ∃ m t : Nat, m = gk ∧ o = .int .i64 m ∧ s = .int .i64 t ∧ wr = w ∧ 1 ≤ m ∧ m ≤ n ∧ t + m ≤ n ∧ Hid (n - 1 = 2 ^ t * m))
  case atStart => exact ⟨n - 1, 0, rfl, rfl, rfl, rfl, by omega, by omega, by omega, Lib.hid (by rw [Nat.pow_zero, Nat.one_mul])⟩
  case round =>
    obtain ⟨d, t, hm, rfl, rfl, hw, h1, h2, h3, HT⟩ := hrel
    replace hw := hw.symm
    subst hw
    have HM := Lib.hid hm
    clear hm
    by_cases hev : d % 2 = 0
    · have f1 : (((d % 2 : Nat) : Int) == 0) = true := by rw [hev]; rfl
      go_wp2
      go_roundg (d / 2)
      case rel => exact ⟨d / 2, t + 1, rfl, rfl, by go_num, rfl, by omega, by omega, by omega, Lib.hid (by rw [HT.out, Nat.pow_succ, Nat.mul_assoc]; congr 1; omega)⟩
      case measure => have := HM.out; omega
    · have f1 : (((d % 2 : Nat) : Int) == 0) = false := by rw [beq_eq_false_iff_ne]; omega
      have HO := Lib.hid (show d % 2 = 1 by omega)
      clear hev
      go_wp2
      go_step3
      go_wp2
      have f1' : ((d : Int) % 2 == 0) = false := by rw [beq_eq_false_iff_ne]; have := HO.out; omega
      rw [f1']
      go_loopg [18] 4 (fun gk i wr => ∃ k : Int, i = .int .i64 k ∧ (gk : Int) + k = 4 ∧ Below w.heap.size w wr ∧ 0 ≤ k ∧ KQ n t d k)
      case atStart => exact ⟨0, rfl, by omega, Below.refl _ _, by omega, KQ.zero⟩
      case round =>
        obtain ⟨k, rfl, hg, hB, hk0, HK⟩ := hrel
        have hk : k = 0 ∨ k = 1 ∨ k = 2 ∨ k = 3 ∨ k = 4 := by omega
        have HG := Lib.hid hg
        clear hg hk0
        rcases hk with rfl | rfl | rfl | rfl | rfl
        · have hq0 : Pr 2 := pr_small (by decide)
          by_cases hdv : n % 2 = 0
          · have f1 : (((n % 2 : Nat) : Int) == 0) = true := by rw [hdv]; rfl
            have HD := Lib.hid hdv
            clear hdv
            go_wp2
            (try rw [Exit.noGoto_ret])
            go_ret
            exact ⟨ret_bool (by rw [primeB_dvd hq0 HD.out, Bool.eq_iff_iff, beq_iff, beq_iff_eq]; omega), hB⟩
          · have f1 : (((n % 2 : Nat) : Int) == 0) = false := by rw [beq_eq_false_iff_ne]; omega
            have HD := Lib.hid (show ¬ 2 ∣ n from fun h => hdv (Nat.mod_eq_zero_of_dvd h))
            have hnq := Lib.hid (show ¬ n ∣ 2 from fun h => by
              rcases hq0.2 n h with h1 | h1
              · omega
              · exact HD.out (by rw [h1]; exact Nat.dvd_refl _))
            clear hdv
            go_wp2_with fail
            refine (power_any n 2 d _ (by omega) (by omega) (by omega) (by omega)).mono ?_
            rintro _ w2 ⟨rfl, hb2⟩
            have hB2 := bstep hB hb2
            clear hb2
            generalize hX : 2 ^ d % n = x0
            have hxn : x0 < n := by rw [← hX]; exact Nat.mod_lt _ (by omega)
            have HX := Lib.hid hX
            clear hX
            by_cases h1 : x0 = 1
            · have f2 : ((x0 : Int) == 1) = true := by rw [h1]; rfl
              have HS := Lib.hid (show SP n t d 2 from Or.inl (HX.out.trans h1))
              clear h1
              go_wp2
              go_roundg (gk - 1)
              case rel => exact ⟨0 + 1, by go_num, by have := HG.out; omega, hB2, by omega, KQ.one HD.out HS.out⟩
              case measure => have := HG.out; omega
            · have f2 : ((x0 : Int) == 1) = false := by rw [beq_eq_false_iff_ne]; omega
              have HN := Lib.hid h1
              clear h1
              obtain ⟨gu, hgu⟩ : ∃ gu, gu = gk := ⟨gk, rfl⟩
              have HGU := Lib.hid hgu
              clear hgu
              go_wp2
              clear f1 f2
              go_loopg [35, 7] t (fun gk i x wr => ∃ (j y : Nat), j + gk = t ∧ i = .int .i64 j ∧ x = .int .i64 y ∧ y < n ∧ wr = w2 ∧ Hid (y = 2 ^ (2 ^ j * d) % n) ∧ Hid (∀ m, m < j → 2 ^ (2 ^ m * d) % n ≠ n - 1))
              case atStart => exact ⟨0, x0, by omega, rfl, rfl, hxn, rfl, Lib.hid (by rw [Nat.pow_zero, Nat.one_mul]; exact HX.out.symm), Lib.hid (by intro m hm; omega)⟩
              case round =>
                obtain ⟨j, y, hj, rfl, rfl, hy, rfl, HY, HA⟩ := hrel
                have hjt : j ≤ t := by omega
                have HJ := Lib.hid hj
                clear hj
                by_cases hlt : j < t
                · have g1 : IntKind.i64.wrap ((n : Int) - 1) = ((n - 1 : Nat) : Int) := by rw [IntWalk.i64_in _ (by omega)]; exact sub_one_cast (by omega)
                  have g2 := mul_wrap (x := y) (y := y) (by omega) (by omega)
                  by_cases he : y = n - 1
                  · have g3 : ((y : Int) == ((n - 1 : Nat) : Int)) = true := by rw [he]; exact beq_self_eq_true _
                    have HS := Lib.hid (show SP n t d 2 from Or.inr ⟨j, hlt, by rw [← HY.out]; exact he⟩)
                    clear he
                    go_wp2
                    go_roundg (gu - 1)
                    case rel => exact ⟨0 + 1, by go_num, by have := HG.out; have := HGU.out; omega, hB2, by omega, KQ.one HD.out HS.out⟩
                    case measure => have := HG.out; have := HGU.out; omega
                  · have g3 : ((y : Int) == ((n - 1 : Nat) : Int)) = false := by rw [beq_eq_false_iff_ne]; omega
                    have HE := Lib.hid he
                    clear he
                    go_wp2
                    go_roundg (gk - 1)
                    case rel =>
                      refine ⟨j + 1, y * y % n, by have := HJ.out; omega, by go_num, rfl, Nat.mod_lt _ (by omega), rfl, Lib.hid (sq_step HY.out), Lib.hid ?_⟩
                      intro m hm
                      by_cases h : m = j
                      · subst h; rw [← HY.out]; exact HE.out
                      · exact HA.out m (by omega)
                    case measure => have := HJ.out; omega
                · go_wp2
                  (try rw [Exit.noGoto_ret])
                  go_ret
                  refine ⟨ret_bool (primeB_false ?_).symm, hB2⟩
                  intro hp
                  rcases pr_sp hp HT.out hnq.out with h | ⟨i, hi, h⟩
                  · exact HN.out (HX.out.symm.trans h)
                  · exact HA.out i (by omega) h
        · have hq0 : Pr 3 := pr_small (by decide)
          by_cases hdv : n % 3 = 0
          · have f1 : (((n % 3 : Nat) : Int) == 0) = true := by rw [hdv]; rfl
            have HD := Lib.hid hdv
            clear hdv
            go_wp2
            (try rw [Exit.noGoto_ret])
            go_ret
            exact ⟨ret_bool (by rw [primeB_dvd hq0 HD.out, Bool.eq_iff_iff, beq_iff, beq_iff_eq]; omega), hB⟩
          · have f1 : (((n % 3 : Nat) : Int) == 0) = false := by rw [beq_eq_false_iff_ne]; omega
            have HD := Lib.hid (show ¬ 3 ∣ n from fun h => hdv (Nat.mod_eq_zero_of_dvd h))
            have hnq := Lib.hid (show ¬ n ∣ 3 from fun h => by
              rcases hq0.2 n h with h1 | h1
              · omega
              · exact HD.out (by rw [h1]; exact Nat.dvd_refl _))
            clear hdv
            go_wp2_with fail
            refine (power_any n 3 d _ (by omega) (by omega) (by omega) (by omega)).mono ?_
            rintro _ w2 ⟨rfl, hb2⟩
            have hB2 := bstep hB hb2
            clear hb2
            generalize hX : 3 ^ d % n = x0
            have hxn : x0 < n := by rw [← hX]; exact Nat.mod_lt _ (by omega)
            have HX := Lib.hid hX
            clear hX
            by_cases h1 : x0 = 1
            · have f2 : ((x0 : Int) == 1) = true := by rw [h1]; rfl
              have HS := Lib.hid (show SP n t d 3 from Or.inl (HX.out.trans h1))
              clear h1
              go_wp2
              go_roundg (gk - 1)
              case rel => exact ⟨1 + 1, by go_num, by have := HG.out; omega, hB2, by omega, KQ.two HK HD.out HS.out⟩
              case measure => have := HG.out; omega
            · have f2 : ((x0 : Int) == 1) = false := by rw [beq_eq_false_iff_ne]; omega
              have HN := Lib.hid h1
              clear h1
              obtain ⟨gu, hgu⟩ : ∃ gu, gu = gk := ⟨gk, rfl⟩
              have HGU := Lib.hid hgu
              clear hgu
              go_wp2
              clear f1 f2
              go_loopg [35, 7] t (fun gk i x wr => ∃ (j y : Nat), j + gk = t ∧ i = .int .i64 j ∧ x = .int .i64 y ∧ y < n ∧ wr = w2 ∧ Hid (y = 3 ^ (2 ^ j * d) % n) ∧ Hid (∀ m, m < j → 3 ^ (2 ^ m * d) % n ≠ n - 1))
              case atStart => exact ⟨0, x0, by omega, rfl, rfl, hxn, rfl, Lib.hid (by rw [Nat.pow_zero, Nat.one_mul]; exact HX.out.symm), Lib.hid (by intro m hm; omega)⟩
              case round =>
                obtain ⟨j, y, hj, rfl, rfl, hy, rfl, HY, HA⟩ := hrel
                have hjt : j ≤ t := by omega
                have HJ := Lib.hid hj
                clear hj
                by_cases hlt : j < t
                · have g1 : IntKind.i64.wrap ((n : Int) - 1) = ((n - 1 : Nat) : Int) := by rw [IntWalk.i64_in _ (by omega)]; exact sub_one_cast (by omega)
                  have g2 := mul_wrap (x := y) (y := y) (by omega) (by omega)
                  by_cases he : y = n - 1
                  · have g3 : ((y : Int) == ((n - 1 : Nat) : Int)) = true := by rw [he]; exact beq_self_eq_true _
                    have HS := Lib.hid (show SP n t d 3 from Or.inr ⟨j, hlt, by rw [← HY.out]; exact he⟩)
                    clear he
                    go_wp2
                    go_roundg (gu - 1)
                    case rel => exact ⟨1 + 1, by go_num, by have := HG.out; have := HGU.out; omega, hB2, by omega, KQ.two HK HD.out HS.out⟩
                    case measure => have := HG.out; have := HGU.out; omega
                  · have g3 : ((y : Int) == ((n - 1 : Nat) : Int)) = false := by rw [beq_eq_false_iff_ne]; omega
                    have HE := Lib.hid he
                    clear he
                    go_wp2
                    go_roundg (gk - 1)
                    case rel =>
                      refine ⟨j + 1, y * y % n, by have := HJ.out; omega, by go_num, rfl, Nat.mod_lt _ (by omega), rfl, Lib.hid (sq_step HY.out), Lib.hid ?_⟩
                      intro m hm
                      by_cases h : m = j
                      · subst h; rw [← HY.out]; exact HE.out
                      · exact HA.out m (by omega)
                    case measure => have := HJ.out; omega
                · go_wp2
                  (try rw [Exit.noGoto_ret])
                  go_ret
                  refine ⟨ret_bool (primeB_false ?_).symm, hB2⟩
                  intro hp
                  rcases pr_sp hp HT.out hnq.out with h | ⟨i, hi, h⟩
                  · exact HN.out (HX.out.symm.trans h)
                  · exact HA.out i (by omega) h
        · have hq0 : Pr 5 := pr_small (by decide)
          by_cases hdv : n % 5 = 0
          · have f1 : (((n % 5 : Nat) : Int) == 0) = true := by rw [hdv]; rfl
            have HD := Lib.hid hdv
            clear hdv
            go_wp2
            (try rw [Exit.noGoto_ret])
            go_ret
            exact ⟨ret_bool (by rw [primeB_dvd hq0 HD.out, Bool.eq_iff_iff, beq_iff, beq_iff_eq]; omega), hB⟩
          · have f1 : (((n % 5 : Nat) : Int) == 0) = false := by rw [beq_eq_false_iff_ne]; omega
            have HD := Lib.hid (show ¬ 5 ∣ n from fun h => hdv (Nat.mod_eq_zero_of_dvd h))
            have hnq := Lib.hid (show ¬ n ∣ 5 from fun h => by
              rcases hq0.2 n h with h1 | h1
              · omega
              · exact HD.out (by rw [h1]; exact Nat.dvd_refl _))
            clear hdv
            go_wp2_with fail
            refine (power_any n 5 d _ (by omega) (by omega) (by omega) (by omega)).mono ?_
            rintro _ w2 ⟨rfl, hb2⟩
            have hB2 := bstep hB hb2
            clear hb2
            generalize hX : 5 ^ d % n = x0
            have hxn : x0 < n := by rw [← hX]; exact Nat.mod_lt _ (by omega)
            have HX := Lib.hid hX
            clear hX
            by_cases h1 : x0 = 1
            · have f2 : ((x0 : Int) == 1) = true := by rw [h1]; rfl
              have HS := Lib.hid (show SP n t d 5 from Or.inl (HX.out.trans h1))
              clear h1
              go_wp2
              go_roundg (gk - 1)
              case rel => exact ⟨2 + 1, by go_num, by have := HG.out; omega, hB2, by omega, KQ.three HK HD.out HS.out⟩
              case measure => have := HG.out; omega
            · have f2 : ((x0 : Int) == 1) = false := by rw [beq_eq_false_iff_ne]; omega
              have HN := Lib.hid h1
              clear h1
              obtain ⟨gu, hgu⟩ : ∃ gu, gu = gk := ⟨gk, rfl⟩
              have HGU := Lib.hid hgu
              clear hgu
              go_wp2
              clear f1 f2
              go_loopg [35, 7] t (fun gk i x wr => ∃ (j y : Nat), j + gk = t ∧ i = .int .i64 j ∧ x = .int .i64 y ∧ y < n ∧ wr = w2 ∧ Hid (y = 5 ^ (2 ^ j * d) % n) ∧ Hid (∀ m, m < j → 5 ^ (2 ^ m * d) % n ≠ n - 1))
              case atStart => exact ⟨0, x0, by omega, rfl, rfl, hxn, rfl, Lib.hid (by rw [Nat.pow_zero, Nat.one_mul]; exact HX.out.symm), Lib.hid (by intro m hm; omega)⟩
              case round =>
                obtain ⟨j, y, hj, rfl, rfl, hy, rfl, HY, HA⟩ := hrel
                have hjt : j ≤ t := by omega
                have HJ := Lib.hid hj
                clear hj
                by_cases hlt : j < t
                · have g1 : IntKind.i64.wrap ((n : Int) - 1) = ((n - 1 : Nat) : Int) := by rw [IntWalk.i64_in _ (by omega)]; exact sub_one_cast (by omega)
                  have g2 := mul_wrap (x := y) (y := y) (by omega) (by omega)
                  by_cases he : y = n - 1
                  · have g3 : ((y : Int) == ((n - 1 : Nat) : Int)) = true := by rw [he]; exact beq_self_eq_true _
                    have HS := Lib.hid (show SP n t d 5 from Or.inr ⟨j, hlt, by rw [← HY.out]; exact he⟩)
                    clear he
                    go_wp2
                    go_roundg (gu - 1)
                    case rel => exact ⟨2 + 1, by go_num, by have := HG.out; have := HGU.out; omega, hB2, by omega, KQ.three HK HD.out HS.out⟩
                    case measure => have := HG.out; have := HGU.out; omega
                  · have g3 : ((y : Int) == ((n - 1 : Nat) : Int)) = false := by rw [beq_eq_false_iff_ne]; omega
                    have HE := Lib.hid he
                    clear he
                    go_wp2
                    go_roundg (gk - 1)
                    case rel =>
                      refine ⟨j + 1, y * y % n, by have := HJ.out; omega, by go_num, rfl, Nat.mod_lt _ (by omega), rfl, Lib.hid (sq_step HY.out), Lib.hid ?_⟩
                      intro m hm
                      by_cases h : m = j
                      · subst h; rw [← HY.out]; exact HE.out
                      · exact HA.out m (by omega)
                    case measure => have := HJ.out; omega
                · go_wp2
                  (try rw [Exit.noGoto_ret])
                  go_ret
                  refine ⟨ret_bool (primeB_false ?_).symm, hB2⟩
                  intro hp
                  rcases pr_sp hp HT.out hnq.out with h | ⟨i, hi, h⟩
                  · exact HN.out (HX.out.symm.trans h)
                  · exact HA.out i (by omega) h
        · have hq0 : Pr 7 := pr_small (by decide)
          by_cases hdv : n % 7 = 0
          · have f1 : (((n % 7 : Nat) : Int) == 0) = true := by rw [hdv]; rfl
            have HD := Lib.hid hdv
            clear hdv
            go_wp2
            (try rw [Exit.noGoto_ret])
            go_ret
            exact ⟨ret_bool (by rw [primeB_dvd hq0 HD.out, Bool.eq_iff_iff, beq_iff, beq_iff_eq]; omega), hB⟩
          · have f1 : (((n % 7 : Nat) : Int) == 0) = false := by rw [beq_eq_false_iff_ne]; omega
            have HD := Lib.hid (show ¬ 7 ∣ n from fun h => hdv (Nat.mod_eq_zero_of_dvd h))
            have hnq := Lib.hid (show ¬ n ∣ 7 from fun h => by
              rcases hq0.2 n h with h1 | h1
              · omega
              · exact HD.out (by rw [h1]; exact Nat.dvd_refl _))
            clear hdv
            go_wp2_with fail
            refine (power_any n 7 d _ (by omega) (by omega) (by omega) (by omega)).mono ?_
            rintro _ w2 ⟨rfl, hb2⟩
            have hB2 := bstep hB hb2
            clear hb2
            generalize hX : 7 ^ d % n = x0
            have hxn : x0 < n := by rw [← hX]; exact Nat.mod_lt _ (by omega)
            have HX := Lib.hid hX
            clear hX
            by_cases h1 : x0 = 1
            · have f2 : ((x0 : Int) == 1) = true := by rw [h1]; rfl
              have HS := Lib.hid (show SP n t d 7 from Or.inl (HX.out.trans h1))
              clear h1
              go_wp2
              go_roundg (gk - 1)
              case rel => exact ⟨3 + 1, by go_num, by have := HG.out; omega, hB2, by omega, KQ.four HK HD.out HS.out⟩
              case measure => have := HG.out; omega
            · have f2 : ((x0 : Int) == 1) = false := by rw [beq_eq_false_iff_ne]; omega
              have HN := Lib.hid h1
              clear h1
              obtain ⟨gu, hgu⟩ : ∃ gu, gu = gk := ⟨gk, rfl⟩
              have HGU := Lib.hid hgu
              clear hgu
              go_wp2
              clear f1 f2
              go_loopg [35, 7] t (fun gk i x wr => ∃ (j y : Nat), j + gk = t ∧ i = .int .i64 j ∧ x = .int .i64 y ∧ y < n ∧ wr = w2 ∧ Hid (y = 7 ^ (2 ^ j * d) % n) ∧ Hid (∀ m, m < j → 7 ^ (2 ^ m * d) % n ≠ n - 1))
              case atStart => exact ⟨0, x0, by omega, rfl, rfl, hxn, rfl, Lib.hid (by rw [Nat.pow_zero, Nat.one_mul]; exact HX.out.symm), Lib.hid (by intro m hm; omega)⟩
              case round =>
                obtain ⟨j, y, hj, rfl, rfl, hy, rfl, HY, HA⟩ := hrel
                have hjt : j ≤ t := by omega
                have HJ := Lib.hid hj
                clear hj
                by_cases hlt : j < t
                · have g1 : IntKind.i64.wrap ((n : Int) - 1) = ((n - 1 : Nat) : Int) := by rw [IntWalk.i64_in _ (by omega)]; exact sub_one_cast (by omega)
                  have g2 := mul_wrap (x := y) (y := y) (by omega) (by omega)
                  by_cases he : y = n - 1
                  · have g3 : ((y : Int) == ((n - 1 : Nat) : Int)) = true := by rw [he]; exact beq_self_eq_true _
                    have HS := Lib.hid (show SP n t d 7 from Or.inr ⟨j, hlt, by rw [← HY.out]; exact he⟩)
                    clear he
                    go_wp2
                    go_roundg (gu - 1)
                    case rel => exact ⟨3 + 1, by go_num, by have := HG.out; have := HGU.out; omega, hB2, by omega, KQ.four HK HD.out HS.out⟩
                    case measure => have := HG.out; have := HGU.out; omega
                  · have g3 : ((y : Int) == ((n - 1 : Nat) : Int)) = false := by rw [beq_eq_false_iff_ne]; omega
                    have HE := Lib.hid he
                    clear he
                    go_wp2
                    go_roundg (gk - 1)
                    case rel =>
                      refine ⟨j + 1, y * y % n, by have := HJ.out; omega, by go_num, rfl, Nat.mod_lt _ (by omega), rfl, Lib.hid (sq_step HY.out), Lib.hid ?_⟩
                      intro m hm
                      by_cases h : m = j
                      · subst h; rw [← HY.out]; exact HE.out
                      · exact HA.out m (by omega)
                    case measure => have := HJ.out; omega
                · go_wp2
                  (try rw [Exit.noGoto_ret])
                  go_ret
                  refine ⟨ret_bool (primeB_false ?_).symm, hB2⟩
                  intro hp
                  rcases pr_sp hp HT.out hnq.out with h | ⟨i, hi, h⟩
                  · exact HN.out (HX.out.symm.trans h)
                  · exact HA.out i (by omega) h
        · go_wp2
          (try rw [Exit.noGoto_ret])
          go_ret
          obtain ⟨⟨a1, a2⟩, ⟨b1, b2⟩, ⟨c1, c2⟩, d1, d2⟩ := HK.all
          exact ⟨ret_bool (primeB_true (sp_pr hn2 hn HT.out HO.out a1 b1 c1 d1 a2 b2 c2 d2)).symm, hB⟩
end Go.Proofs.Ytnhjeelcgfobnaa
