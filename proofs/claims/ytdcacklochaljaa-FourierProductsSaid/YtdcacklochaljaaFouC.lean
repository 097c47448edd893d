/-
  Contracts: fourier.within, fringeref11.at, fringeref11.powers, fringeref11.root, fringeref11.sums.
-/
import Derived.Test.YtdcacklochaljaaFouB
import Derived.Laws.AppendOwnNone
import Derived.OwnWalk
namespace Go.Proofs.Ytdcacklochaljaa
open Go.RowKit Num
set_option linter.unusedVariables false

theorem tmod_bd (d : Int) {n : Nat} (h : 1 ≤ n) : -(n : Int) < d.tmod n ∧ d.tmod n < n := ⟨Int.lt_tmod_of_pos d (by omega), Int.tmod_lt_of_pos d (by omega)⟩
theorem tmod_cases (d : Int) {n : Nat} (h : 1 ≤ n) : (0 ≤ d.tmod n ∧ d.tmod n = d % n) ∨ (d.tmod n < 0 ∧ d.tmod n + n = d % n) := by
  have hb := tmod_bd d h
  have h2 := Int.mul_tdiv_add_tmod d n
  rcases (show 0 ≤ d.tmod n ∨ d.tmod n < 0 by omega) with h0 | h0
  · left
    refine ⟨h0, ?_⟩
    generalize d.tmod n = r at *
    rw [← h2, Int.add_comm, Int.add_mul_emod_self_left, Int.emod_eq_of_lt h0 hb.2]
  · right
    refine ⟨h0, ?_⟩
    generalize d.tmod n = r at *
    have e : d = (r + n) + n * (d.tdiv n - 1) := by rw [Int.mul_sub, Int.mul_one]; omega
    generalize d.tdiv n = t at *
    rw [e, Int.add_mul_emod_self_left, Int.emod_eq_of_lt (by omega) (by omega)]
theorem emod_bd (d : Int) {n : Nat} (h : 1 ≤ n) : 0 ≤ d % n ∧ d % n < n := ⟨Int.emod_nonneg _ (by omega), Int.emod_lt_of_pos _ (by omega)⟩

theorem at_any (d : Int) (n : Nat) (w : World) (h1 : 1 ≤ n) (h2 : n ≤ 1000) (hd : -9223372036854775808 ≤ d ∧ d ≤ 9223372036854775807) :
    Calls Try.prog 32 #[.int .i64 d, .int .i64 n] w fun e w' => e = .returned (.int .i64 (d % n)) ∧ w = w' := by
  have hz1 : ((n : Int) == 0) = false := by rw [beq_eq_false_iff_ne]; omega
  have hb := tmod_bd d h1
  rcases tmod_cases d h1 with ⟨a, b⟩ | ⟨a, b⟩
  · have HB := Lib.hid b
    clear b
    have f1 : decide (d.tmod n < 0) = false := decide_eq_false (by omega)
    go_enter Try.func32, Try.ntmps32
    go_wp2
    go_ret
    exact ⟨ret_int HB.out, rfl⟩
  · have HB := Lib.hid b
    clear b
    have f1 : decide (d.tmod n < 0) = true := decide_eq_true (by omega)
    go_enter Try.func32, Try.ntmps32
    go_wp2
    go_ret
    exact ⟨ret_int HB.out, rfl⟩
theorem within_any (d : Int) (n : Nat) (w : World) (h1 : 1 ≤ n) (h2 : n ≤ 1000) (hd : -9223372036854775808 ≤ d ∧ d ≤ 9223372036854775807) :
    Calls Try.prog 31 #[.int .i64 d, .int .i64 n] w fun e w' => e = .returned (.int .i64 (d % n)) ∧ w = w' := by
  have hz1 : ((n : Int) == 0) = false := by rw [beq_eq_false_iff_ne]; omega
  have hb := tmod_bd d h1
  have he := emod_bd d h1
  have HR := Lib.hid (show (d.tmod n + n) % (n : Int) = d % n by
    rcases tmod_cases d h1 with ⟨a, b⟩ | ⟨a, b⟩
    · rw [b, Int.add_emod_right]; exact Int.emod_emod _ _
    · rw [b]; exact Int.emod_emod _ _)
  go_enter Try.func31, Try.ntmps31
  go_wp2
  go_ret
  exact ⟨ret_int HR.out, rfl⟩

/-- a row of the call's own -/
def RetO (w : World) (l : List Int) (e : Ending) (w' : World) : Prop :=
  ∃ A c, e = .returned (.slice A l.length c) ∧ l.length ≤ c ∧ w'.ownsRow w.heap.size 2 1 (.slice A l.length c) l.length (l.flatMap (encI .i64)) ∧ Below w.heap.size w w'

theorem refPowers_any (P R n : Nat) (w : World) (hP : 2 ≤ P) (hP2 : P ≤ 2000000000) (hR : R < P) (h1 : 1 ≤ n) (hn : n ≤ 1000) :
    Calls Try.prog 47 #[.int .i64 P, .int .i64 R, .int .i64 n] w (RetO w (fullL (pwF P R) n)) := by
  obtain ⟨i0, hi0, hz0, hz1, hz2⟩ := info_int64
  have hown0 : (w.alloc (.cells #[.int .i64 1] 2)).ownsRow w.heap.size 2 1 (.slice (some ⟨w.heap.size, 0, none⟩) 1 1) 1 ((fullL (pwF P R) 1).flatMap (encI .i64)) := by
    have h := own_blk (size := 1) (n := 1) (Blk.new w 2 #[.int .i64 1]) (Nat.le_refl _) (by simp) (by unfold maxLen; omega)
    have e : (fullL (pwF P R) 1).flatMap (encI .i64) = [.int .i64 1] := by
      rw [fullL_succ, fullL_zero]
      show [Value.int .i64 (pwF P R 0)] = _
      unfold pwF
      rw [Nat.pow_zero, Nat.mod_eq_of_lt (by omega)]; rfl
    rw [e]
    simpa using h
  go_enter Try.func47, Try.ntmps47
  go_wp2
  go_loopg [7] (n - 1) (fun gk v wr => ∃ (k : Nat), k + gk = n ∧ 1 ≤ k ∧ wr.ownsRow w.heap.size 2 1 v k ((fullL (pwF P R) k).flatMap (encI .i64)) ∧ Below w.heap.size w wr)
  case atStart => exact ⟨1, by omega, by omega, hown0, balloc (Below.refl _ _) _⟩
  case round =>
    obtain ⟨k, hk, hk1, hO, hb⟩ := hrel
    have hk' : k ≤ n := by omega
    have HK := Lib.hid hk
    clear hk hown0
    have hsz := hb.size
    obtain ⟨A8, c8, rfl, hc8⟩ := own_shape' hO
    by_cases hlt : k < n
    · obtain ⟨g8, rfl, hg8, hg9⟩ := own_some hO (by omega)
      have o1 := own_at (encI_len .i64) (l := fullL (pwF P R) k) (by rw [fullL_len]; exact hO) (j := k - 1) (i := 0) (by rw [fullL_len]; omega) (by omega)
      simp only [encI, List.getElem?_cons_zero, Nat.mul_one, Nat.add_zero, fullL_get] at o1
      have hbd := pwF_bd (P := P) (R := R) (by omega) (k - 1)
      have HX := Lib.hid (show ((pwF P R (k - 1)).toNat * R % P : Nat) = R ^ k % P by
        unfold pwF
        rw [Int.toNat_natCast, Nat.mod_mul_mod, ← Nat.pow_succ, show (k - 1).succ = k by omega])
      obtain ⟨X, hX⟩ : ∃ X : Nat, pwF P R (k - 1) = X := ⟨(pwF P R (k - 1)).toNat, by omega⟩
      rw [hX] at o1 hbd HX
      rw [Int.toNat_natCast] at HX
      clear hX
      have f1 := mul_wrap (x := X) (y := R) (by omega) (by omega)
      have f2 : IntKind.i64.wrap ((k : Int) - 1) = (k : Int) - 1 := IntWalk.i64_in _ (by omega)
      have f3 : ((k : Int) - 1).toNat = k - 1 := by omega
      have f4 : 0 ≤ (k : Int) - 1 := by omega
      have f5 : (k : Int) - 1 < k := by omega
      have f6 : 1 ≤ (k : Int) := by omega
      go_wp2_with (at_builtin; refine wpList_append_own _ rfl _ _ 22 rfl w.heap.size 2 i0 _ 1 8 Try.underlying22 hi0 hz0 hz1 hz2 rfl (by decide) _ k _ rfl (hO.alloc _) ⟨wr.heap.size, 0, none⟩ 1 1 (encI .i64 ((X * R % P : Nat) : Int)) rfl rfl (encI_news _ _ _ _) (encI_one _ _) (by unfold maxLen; omega) (by omega) (by simp; omega) ?_; intro v2 w2 hown2 hgrow2 _)
      go_roundg (gk - 1)
      case rel => exact ⟨k + 1, by have := HK.out; omega, by omega, by rw [fullL_succ, flat_snoc, show pwF P R k = ((X * R % P : Nat) : Int) by unfold pwF; rw [HX.out]]; exact hown2, own_below (hb.alloc hsz _) (hO.alloc _) hgrow2 (Nat.le_refl _) (by simp; omega)⟩
      case measure => have := HK.out; omega
    · obtain rfl : k = n := by omega
      go_wp2
      go_ret
      exact ⟨A8, c8, by rw [fullL_len]; rfl, by rw [fullL_len]; exact hc8, by rw [fullL_len]; exact hO, hb⟩
end Go.Proofs.Ytdcacklochaljaa
