/-
  Jobs of layer 19. Contracts: worker.blocks, fringeref19.Count, worker.Check, fringeref19.Check, both Blocks, fringeref19.Great.
  Jobs of layer 19. Contracts: fringeref19.Check, both Blocks, fringeref19.Great.
-/
import Derived.Test.YtdekbncpodjgnaaPLagO
import Derived.IntWalk
namespace Go.Proofs.Ytdekbncpodjgnaa
open Go.RowKit
set_option linter.unusedVariables false
set_option linter.unusedSimpArgs false
namespace Wk
open Lagw

def cdiv (n s : Nat) : Nat := (n + s - 1) / s
theorem cdiv_lt {n s k : Nat} (hs : 1 ≤ s) : k < cdiv n s ↔ k * s < n := by
  unfold cdiv
  rw [← Nat.succ_le_iff, Nat.le_div_iff_mul_le (by omega), Nat.succ_mul]
  omega
theorem cdiv_le {n s : Nat} (hs : 1 ≤ s) : cdiv n s ≤ n := by
  rcases Nat.lt_or_ge n (cdiv n s) with h | h
  · have h1 := (cdiv_lt hs).1 h
    have h2 := Nat.mul_le_mul_left n hs
    omega
  · exact h
def jobErr (xs ys : List Int) (m s : Int) : Int :=
  if streamErr xs ≠ 0 then streamErr xs else if streamErr ys ≠ 0 then streamErr ys else if m < 0 ∨ 255 < m ∨ s < 1 ∨ 256 < s ∨ 64 < cdiv xs.length s.toNat then 8 else 0
def blocksS (xs ys : List Int) (m s : Int) : Int × Int := if jobErr xs ys m s ≠ 0 then (0, jobErr xs ys m s) else (cdiv xs.length s.toNat, 0)
def greatJ (xs ys : List Int) (m s : Int) : Bool :=
  decide (300 < xs.length ∨ 300 < ys.length ∨ (40 < xs.length ∧ xs.length ≤ 256) ∨ (40 < ys.length ∧ ys.length ≤ 256) ∨ (40 < m ∧ m ≤ 255) ∨ (jobErr xs ys m s = 0 ∧ 12 < cdiv xs.length s.toNat))
theorem jobErr_x {xs ys : List Int} {m s : Int} (h : ¬ streamErr xs = 0) : jobErr xs ys m s = streamErr xs := by simp [jobErr, h]
theorem jobErr_y {xs ys : List Int} {m s : Int} (h : streamErr xs = 0) (h2 : ¬ streamErr ys = 0) : jobErr xs ys m s = streamErr ys := by simp [jobErr, h, h2]
theorem jobErr_b {xs ys : List Int} {m s : Int} (h : streamErr xs = 0) (h2 : streamErr ys = 0) (h3 : m < 0 ∨ 255 < m ∨ s < 1 ∨ 256 < s ∨ 64 < cdiv xs.length s.toNat) : jobErr xs ys m s = 8 := by
  unfold jobErr; rw [if_neg (by simp [h]), if_neg (by simp [h2]), if_pos h3]
theorem jobErr_ok {xs ys : List Int} {m s : Int} (h : streamErr xs = 0) (h2 : streamErr ys = 0) (h3 : ¬ (m < 0 ∨ 255 < m ∨ s < 1 ∨ 256 < s ∨ 64 < cdiv xs.length s.toNat)) : jobErr xs ys m s = 0 := by
  unfold jobErr; rw [if_neg (by simp [h]), if_neg (by simp [h2]), if_neg h3]
theorem jobErr_zero {xs ys : List Int} {m s : Int} (h : jobErr xs ys m s = 0) : streamErr xs = 0 ∧ streamErr ys = 0 ∧ ∃ M S : Nat, m = M ∧ s = S ∧ M ≤ 255 ∧ 1 ≤ S ∧ S ≤ 256 ∧ cdiv xs.length S ≤ 64 := by
  by_cases h1 : streamErr xs = 0
  · by_cases h2 : streamErr ys = 0
    · by_cases h3 : m < 0 ∨ 255 < m ∨ s < 1 ∨ 256 < s ∨ 64 < cdiv xs.length s.toNat
      · rw [jobErr_b h1 h2 h3] at h; cases h
      · refine ⟨h1, h2, m.toNat, s.toNat, by omega, by omega, by omega, by omega, by omega, by omega⟩
    · rw [jobErr_y h1 h2] at h; exact absurd h h2
  · rw [jobErr_x h1] at h; exact absurd h h1
theorem mulw {k s : Nat} (hk : k ≤ 1000) (hs : s ≤ 1000) : IntKind.i64.wrap ((k : Int) * (s : Int)) = ((k * s : Nat) : Int) := by
  have := Nat.mul_le_mul hk hs
  rw [← Int.natCast_mul, IntWalk.i64_in _ (by omega)]
theorem cdiv_int {n s : Nat} (hs : 1 ≤ s) : ((n : Int) + (s : Int) - 1) / (s : Int) = (cdiv n s : Nat) := by
  unfold cdiv
  rw [Int.natCast_ediv]
  congr 1
  omega

theorem wkblk_any (X Y : Option Addr) (n k cx cy : Nat) (m : Int) (S : Nat) (w : World) (hs : 1 ≤ S) (hs2 : S ≤ 256) (hn : n ≤ 256) :
    Calls Try.prog 39 #[.agg #[.slice X n cx, .slice Y k cy, .int .i64 m, .int .i64 (S : Int)]] w fun e w' => e = .returned (.int .i64 (cdiv n S : Nat)) ∧ Below w.heap.size w w' := by
  have hk := Blk.new w 24 #[.slice X n cx, .slice Y k cy, .int .i64 m, .int .i64 (S : Int)]
  have q0 : World.cell? (w.alloc (.cells #[.slice X n cx, .slice Y k cy, .int .i64 m, .int .i64 (S : Int)] 24)) ⟨w.heap.size, 0, none⟩ = some (.slice X n cx) := hk.cell 0
  have f0 := hk.frozen 0
  have q1 : World.cell? (w.alloc (.cells #[.slice X n cx, .slice Y k cy, .int .i64 m, .int .i64 (S : Int)] 24)) ⟨w.heap.size, 1, none⟩ = some (.slice Y k cy) := hk.cell 1
  have f1 := hk.frozen 1
  have q2 : World.cell? (w.alloc (.cells #[.slice X n cx, .slice Y k cy, .int .i64 m, .int .i64 (S : Int)] 24)) ⟨w.heap.size, 2, none⟩ = some (.int .i64 m) := hk.cell 2
  have f2 := hk.frozen 2
  have q3 : World.cell? (w.alloc (.cells #[.slice X n cx, .slice Y k cy, .int .i64 m, .int .i64 (S : Int)] 24)) ⟨w.heap.size, 3, none⟩ = some (.int .i64 (S : Int)) := hk.cell 3
  have f3 := hk.frozen 3
  have fl := hk.lt
  have z1 : ((S : Int) == 0) = false := by rw [beq_eq_false_iff_ne]; omega
  have z2 : ¬ ((S : Int) = 0) := by omega
  have hle := cdiv_le (n := n) hs
  have g1 : wrap64 (((n : Int) + (S : Int) - 1) / (S : Int)) = (cdiv n S : Nat) := by rw [← IntWalk.i64_left, cdiv_int hs, IntWalk.i64_in _ (by omega)]
  have g2 : IntKind.i64.wrap (((n : Int) + (S : Int) - 1) / (S : Int)) = (cdiv n S : Nat) := by rw [IntWalk.i64_left]; exact g1
  go_enter Try.func39, Try.ntmps39
  go_wp2
  go_ret
  exact ⟨ret_int (cdiv_int hs), balloc (Below.refl _ _) _⟩

theorem refCount_any (X Y : Option Addr) (n k cx cy : Nat) (m : Int) (S : Nat) (w : World) (hs : 1 ≤ S) (hs2 : S ≤ 256) (hn : n ≤ 256) :
    Calls Try.prog 38 #[.agg #[.slice X n cx, .slice Y k cy, .int .i64 m, .int .i64 (S : Int)]] w fun e w' => e = .returned (.int .i64 (cdiv n S : Nat)) ∧ Below w.heap.size w w' := by
  have hk := Blk.new w 24 #[.slice X n cx, .slice Y k cy, .int .i64 m, .int .i64 (S : Int)]
  have q0 : World.cell? (w.alloc (.cells #[.slice X n cx, .slice Y k cy, .int .i64 m, .int .i64 (S : Int)] 24)) ⟨w.heap.size, 0, none⟩ = some (.slice X n cx) := hk.cell 0
  have f0 := hk.frozen 0
  have q1 : World.cell? (w.alloc (.cells #[.slice X n cx, .slice Y k cy, .int .i64 m, .int .i64 (S : Int)] 24)) ⟨w.heap.size, 1, none⟩ = some (.slice Y k cy) := hk.cell 1
  have f1 := hk.frozen 1
  have q2 : World.cell? (w.alloc (.cells #[.slice X n cx, .slice Y k cy, .int .i64 m, .int .i64 (S : Int)] 24)) ⟨w.heap.size, 2, none⟩ = some (.int .i64 m) := hk.cell 2
  have f2 := hk.frozen 2
  have q3 : World.cell? (w.alloc (.cells #[.slice X n cx, .slice Y k cy, .int .i64 m, .int .i64 (S : Int)] 24)) ⟨w.heap.size, 3, none⟩ = some (.int .i64 (S : Int)) := hk.cell 3
  have f3 := hk.frozen 3
  have fl := hk.lt
  have hle := cdiv_le (n := n) hs
  have hC := Lib.hid (fun k => cdiv_lt (n := n) (k := k) hs)
  obtain ⟨C, hCe⟩ : ∃ C, C = cdiv n S := ⟨_, rfl⟩
  rw [← hCe] at hC hle ⊢
  clear hCe
  go_enter Try.func38, Try.ntmps38
  go_wp2
  go_loop [3] (fun i => ∃ k : Nat, k ≤ C ∧ i = .int .i64 k) (fun i => C - (intOf i).toNat)
  case atStart => exact ⟨0, Nat.zero_le _, rfl⟩
  case round =>
    obtain ⟨k, hk, rfl⟩ := hrel
    obtain ⟨Z, hZ⟩ : ∃ Z, Z = k * S := ⟨_, rfl⟩
    have hm := mulw (k := k) (s := S) (by omega) (by omega)
    rw [← hZ] at hm
    by_cases hlt : k < C
    · have hz : Z < n := by rw [hZ]; exact (hC.out k).1 hlt
      clear hZ
      go_wp2
      go_round
      case rel => exact ⟨k + 1, by omega, by go_num⟩
      case measure => simp [intOf]; omega
    · have hz : ¬ Z < n := by rw [hZ]; exact fun h => hlt ((hC.out k).2 h)
      obtain rfl : k = C := by omega
      clear hZ
      go_wp2
      go_ret
      exact ⟨rfl, balloc (Below.refl _ _) _⟩

set_option maxHeartbeats 1000000 in
theorem wkCheck_any (X Y : Option Addr) (cx cy : Nat) (xs ys : List Int) (m s : Int) (w : World) (hx : RI .i64 w X xs) (hy : RI .i64 w Y ys) (hl : xs.length ≤ 140737488355328) (hl2 : ys.length ≤ 140737488355328) :
    Calls Try.prog 16 #[.agg #[.slice X xs.length cx, .slice Y ys.length cy, .int .i64 m, .int .i64 s]] w fun e w' => e = .returned (.int .i64 (jobErr xs ys m s)) ∧ Below w.heap.size w w' := by
  have hk := Blk.new w 24 #[.slice X xs.length cx, .slice Y ys.length cy, .int .i64 m, .int .i64 s]
  have hbX : Below w.heap.size w (w.alloc (.cells #[.slice X xs.length cx, .slice Y ys.length cy, .int .i64 m, .int .i64 s] 24)) := balloc (Below.refl _ _) _
  have q0 : World.cell? (w.alloc (.cells #[.slice X xs.length cx, .slice Y ys.length cy, .int .i64 m, .int .i64 s] 24)) ⟨w.heap.size, 0, none⟩ = some (.slice X xs.length cx) := hk.cell 0
  have f0 := hk.frozen 0
  have q1 : World.cell? (w.alloc (.cells #[.slice X xs.length cx, .slice Y ys.length cy, .int .i64 m, .int .i64 s] 24)) ⟨w.heap.size, 1, none⟩ = some (.slice Y ys.length cy) := hk.cell 1
  have f1 := hk.frozen 1
  have q2 : World.cell? (w.alloc (.cells #[.slice X xs.length cx, .slice Y ys.length cy, .int .i64 m, .int .i64 s] 24)) ⟨w.heap.size, 2, none⟩ = some (.int .i64 m) := hk.cell 2
  have f2 := hk.frozen 2
  have q3 : World.cell? (w.alloc (.cells #[.slice X xs.length cx, .slice Y ys.length cy, .int .i64 m, .int .i64 s] 24)) ⟨w.heap.size, 3, none⟩ = some (.int .i64 s) := hk.cell 3
  have f3 := hk.frozen 3
  have fl := hk.lt
  have hxk := hx.keep hbX
  have hyk := hy.keep hbX
  rcases (Decidable.em (streamErr xs = 0)).symm with he | he
  · have e1 : (streamErr xs != 0) = true := by simp [he]
    have HR := Lib.hid (jobErr_x (ys := ys) (m := m) (s := s) he)
    clear he
    go_enter Try.func16, Try.ntmps16
    go_wp2_with fail
    refine (sampleCheck_any _ _ _ _ hxk hl).mono ?_
    rintro _ _ ⟨rfl, rfl⟩
    go_wp2
    go_ret
    exact ⟨ret_int HR.out.symm, hbX⟩
  have e1 : (streamErr xs != 0) = false := by simp [he]
  rcases (Decidable.em (streamErr ys = 0)).symm with he2 | he2
  · have e2 : (streamErr ys != 0) = true := by simp [he2]
    have HR := Lib.hid (jobErr_y (m := m) (s := s) he he2)
    clear he he2
    go_enter Try.func16, Try.ntmps16
    go_wp2_with fail
    refine (sampleCheck_any _ _ _ _ hxk hl).mono ?_
    rintro _ _ ⟨rfl, rfl⟩
    go_wp2_with fail
    refine (sampleCheck_any _ _ _ _ hyk hl2).mono ?_
    rintro _ _ ⟨rfl, rfl⟩
    go_wp2
    go_ret
    exact ⟨ret_int HR.out.symm, hbX⟩
  have e2 : (streamErr ys != 0) = false := by simp [he2]
  have HB := Lib.hid (fun h3 => jobErr_b (m := m) (s := s) he he2 h3)
  have HO := Lib.hid (fun h3 => jobErr_ok (m := m) (s := s) he he2 h3)
  have hl5 := (streamErr_zero he).1
  clear he he2
  by_cases h1 : m < 0
  · go_enter Try.func16, Try.ntmps16
    go_wp2_with fail
    refine (sampleCheck_any _ _ _ _ hxk hl).mono ?_
    rintro _ _ ⟨rfl, rfl⟩
    go_wp2_with fail
    refine (sampleCheck_any _ _ _ _ hyk hl2).mono ?_
    rintro _ _ ⟨rfl, rfl⟩
    go_wp2
    go_ret
    exact ⟨ret_int (HB.out (.inl h1)).symm, hbX⟩
  by_cases h2 : 255 < m
  · go_enter Try.func16, Try.ntmps16
    go_wp2_with fail
    refine (sampleCheck_any _ _ _ _ hxk hl).mono ?_
    rintro _ _ ⟨rfl, rfl⟩
    go_wp2_with fail
    refine (sampleCheck_any _ _ _ _ hyk hl2).mono ?_
    rintro _ _ ⟨rfl, rfl⟩
    go_wp2
    go_ret
    exact ⟨ret_int (HB.out (.inr (.inl h2))).symm, hbX⟩
  by_cases h3 : s < 1
  · go_enter Try.func16, Try.ntmps16
    go_wp2_with fail
    refine (sampleCheck_any _ _ _ _ hxk hl).mono ?_
    rintro _ _ ⟨rfl, rfl⟩
    go_wp2_with fail
    refine (sampleCheck_any _ _ _ _ hyk hl2).mono ?_
    rintro _ _ ⟨rfl, rfl⟩
    go_wp2
    go_ret
    exact ⟨ret_int (HB.out (.inr (.inr (.inl h3)))).symm, hbX⟩
  by_cases h4 : 256 < s
  · go_enter Try.func16, Try.ntmps16
    go_wp2_with fail
    refine (sampleCheck_any _ _ _ _ hxk hl).mono ?_
    rintro _ _ ⟨rfl, rfl⟩
    go_wp2_with fail
    refine (sampleCheck_any _ _ _ _ hyk hl2).mono ?_
    rintro _ _ ⟨rfl, rfl⟩
    go_wp2
    go_ret
    exact ⟨ret_int (HB.out (.inr (.inr (.inr (.inl h4))))).symm, hbX⟩
  obtain ⟨S, rfl⟩ : ∃ S : Nat, s = S := ⟨s.toNat, by omega⟩
  rw [Int.toNat_natCast] at HB HO
  have HC := fun w => wkblk_any X Y xs.length ys.length cx cy m S w (by omega) (by omega) hl5
  generalize cdiv xs.length S = C at HB HO HC
  have h3' : decide ((S : Int) < 1) = false := by simpa using h3
  have h4' : decide (256 < (S : Int)) = false := by simpa using h4
  by_cases h5 : 64 < C
  · have h5' : decide (64 < (C : Int)) = true := by simp; omega
    go_enter Try.func16, Try.ntmps16
    go_wp2_with fail
    refine (sampleCheck_any _ _ _ _ hxk hl).mono ?_
    rintro _ _ ⟨rfl, rfl⟩
    go_wp2_with fail
    refine (sampleCheck_any _ _ _ _ hyk hl2).mono ?_
    rintro _ _ ⟨rfl, rfl⟩
    go_wp2_with fail
    refine (HC _).mono ?_
    rintro _ w1 ⟨rfl, hb1⟩
    go_wp2
    go_ret
    exact ⟨ret_int (HB.out (.inr (.inr (.inr (.inr h5))))).symm, bstep hbX hb1⟩
  · have h5' : decide (64 < (C : Int)) = false := by simp; omega
    go_enter Try.func16, Try.ntmps16
    go_wp2_with fail
    refine (sampleCheck_any _ _ _ _ hxk hl).mono ?_
    rintro _ _ ⟨rfl, rfl⟩
    go_wp2_with fail
    refine (sampleCheck_any _ _ _ _ hyk hl2).mono ?_
    rintro _ _ ⟨rfl, rfl⟩
    go_wp2_with fail
    refine (HC _).mono ?_
    rintro _ w1 ⟨rfl, hb1⟩
    go_wp2
    go_ret
    exact ⟨ret_int (HO.out (by omega)).symm, bstep hbX hb1⟩
end Wk
end Go.Proofs.Ytdekbncpodjgnaa
namespace Go.Proofs.Ytdekbncpodjgnaa
open Go.RowKit
set_option linter.unusedVariables false
set_option linter.unusedSimpArgs false
namespace Wk
open Lagw

set_option maxHeartbeats 1000000 in
theorem refCheckJ_any (X Y : Option Addr) (cx cy : Nat) (xs ys : List Int) (m s : Int) (w : World) (hx : RI .i64 w X xs) (hy : RI .i64 w Y ys) (hl : xs.length ≤ 140737488355328) (hl2 : ys.length ≤ 140737488355328) :
    Calls Try.prog 17 #[.agg #[.slice X xs.length cx, .slice Y ys.length cy, .int .i64 m, .int .i64 s]] w fun e w' => e = .returned (.int .i64 (jobErr xs ys m s)) ∧ Below w.heap.size w w' := by
  have hk := Blk.new w 24 #[.slice X xs.length cx, .slice Y ys.length cy, .int .i64 m, .int .i64 s]
  have hbX : Below w.heap.size w (w.alloc (.cells #[.slice X xs.length cx, .slice Y ys.length cy, .int .i64 m, .int .i64 s] 24)) := balloc (Below.refl _ _) _
  have q0 : World.cell? (w.alloc (.cells #[.slice X xs.length cx, .slice Y ys.length cy, .int .i64 m, .int .i64 s] 24)) ⟨w.heap.size, 0, none⟩ = some (.slice X xs.length cx) := hk.cell 0
  have f0 := hk.frozen 0
  have q1 : World.cell? (w.alloc (.cells #[.slice X xs.length cx, .slice Y ys.length cy, .int .i64 m, .int .i64 s] 24)) ⟨w.heap.size, 1, none⟩ = some (.slice Y ys.length cy) := hk.cell 1
  have f1 := hk.frozen 1
  have q2 : World.cell? (w.alloc (.cells #[.slice X xs.length cx, .slice Y ys.length cy, .int .i64 m, .int .i64 s] 24)) ⟨w.heap.size, 2, none⟩ = some (.int .i64 m) := hk.cell 2
  have f2 := hk.frozen 2
  have q3 : World.cell? (w.alloc (.cells #[.slice X xs.length cx, .slice Y ys.length cy, .int .i64 m, .int .i64 s] 24)) ⟨w.heap.size, 3, none⟩ = some (.int .i64 s) := hk.cell 3
  have f3 := hk.frozen 3
  have fl := hk.lt
  have hxk := hx.keep hbX
  have hyk := hy.keep hbX
  rcases (Decidable.em (streamErr xs = 0)).symm with he | he
  · have e1 : (streamErr xs != 0) = true := by simp [he]
    have HR := Lib.hid (jobErr_x (ys := ys) (m := m) (s := s) he)
    clear he
    go_enter Try.func17, Try.ntmps17
    go_wp2_with fail
    refine (refCheck13_any _ _ _ _ hxk hl).mono ?_
    rintro _ _ ⟨rfl, rfl⟩
    go_wp2_with fail
    refine (refCheck13_any _ _ _ _ hxk hl).mono ?_
    rintro _ _ ⟨rfl, rfl⟩
    go_wp2
    go_ret
    exact ⟨ret_int HR.out.symm, hbX⟩
  have e1 : (streamErr xs != 0) = false := by simp [he]
  rcases (Decidable.em (streamErr ys = 0)).symm with he2 | he2
  · have e2 : (streamErr ys != 0) = true := by simp [he2]
    have HR := Lib.hid (jobErr_y (m := m) (s := s) he he2)
    clear he he2
    go_enter Try.func17, Try.ntmps17
    go_wp2_with fail
    refine (refCheck13_any _ _ _ _ hxk hl).mono ?_
    rintro _ _ ⟨rfl, rfl⟩
    go_wp2_with fail
    refine (refCheck13_any _ _ _ _ hyk hl2).mono ?_
    rintro _ _ ⟨rfl, rfl⟩
    go_wp2_with fail
    refine (refCheck13_any _ _ _ _ hyk hl2).mono ?_
    rintro _ _ ⟨rfl, rfl⟩
    go_wp2
    go_ret
    exact ⟨ret_int HR.out.symm, hbX⟩
  have e2 : (streamErr ys != 0) = false := by simp [he2]
  have HB := Lib.hid (fun h3 => jobErr_b (m := m) (s := s) he he2 h3)
  have HO := Lib.hid (fun h3 => jobErr_ok (m := m) (s := s) he he2 h3)
  have hl5 := (streamErr_zero he).1
  clear he he2
  by_cases h1 : m < 0
  · go_enter Try.func17, Try.ntmps17
    go_wp2_with fail
    refine (refCheck13_any _ _ _ _ hxk hl).mono ?_
    rintro _ _ ⟨rfl, rfl⟩
    go_wp2_with fail
    refine (refCheck13_any _ _ _ _ hyk hl2).mono ?_
    rintro _ _ ⟨rfl, rfl⟩
    go_wp2
    go_ret
    exact ⟨ret_int (HB.out (.inl h1)).symm, hbX⟩
  by_cases h2 : 255 < m
  · go_enter Try.func17, Try.ntmps17
    go_wp2_with fail
    refine (refCheck13_any _ _ _ _ hxk hl).mono ?_
    rintro _ _ ⟨rfl, rfl⟩
    go_wp2_with fail
    refine (refCheck13_any _ _ _ _ hyk hl2).mono ?_
    rintro _ _ ⟨rfl, rfl⟩
    go_wp2
    go_ret
    exact ⟨ret_int (HB.out (.inr (.inl h2))).symm, hbX⟩
  by_cases h3 : s < 1
  · go_enter Try.func17, Try.ntmps17
    go_wp2_with fail
    refine (refCheck13_any _ _ _ _ hxk hl).mono ?_
    rintro _ _ ⟨rfl, rfl⟩
    go_wp2_with fail
    refine (refCheck13_any _ _ _ _ hyk hl2).mono ?_
    rintro _ _ ⟨rfl, rfl⟩
    go_wp2
    go_ret
    exact ⟨ret_int (HB.out (.inr (.inr (.inl h3)))).symm, hbX⟩
  by_cases h4 : 256 < s
  · go_enter Try.func17, Try.ntmps17
    go_wp2_with fail
    refine (refCheck13_any _ _ _ _ hxk hl).mono ?_
    rintro _ _ ⟨rfl, rfl⟩
    go_wp2_with fail
    refine (refCheck13_any _ _ _ _ hyk hl2).mono ?_
    rintro _ _ ⟨rfl, rfl⟩
    go_wp2
    go_ret
    exact ⟨ret_int (HB.out (.inr (.inr (.inr (.inl h4))))).symm, hbX⟩
  obtain ⟨S, rfl⟩ : ∃ S : Nat, s = S := ⟨s.toNat, by omega⟩
  rw [Int.toNat_natCast] at HB HO
  have HC := fun w => refCount_any X Y xs.length ys.length cx cy m S w (by omega) (by omega) hl5
  generalize cdiv xs.length S = C at HB HO HC
  have h3' : decide ((S : Int) < 1) = false := by simpa using h3
  have h4' : decide (256 < (S : Int)) = false := by simpa using h4
  by_cases h5 : 64 < C
  · have h5' : decide (64 < (C : Int)) = true := by simp; omega
    go_enter Try.func17, Try.ntmps17
    go_wp2_with fail
    refine (refCheck13_any _ _ _ _ hxk hl).mono ?_
    rintro _ _ ⟨rfl, rfl⟩
    go_wp2_with fail
    refine (refCheck13_any _ _ _ _ hyk hl2).mono ?_
    rintro _ _ ⟨rfl, rfl⟩
    go_wp2_with fail
    refine (HC _).mono ?_
    rintro _ w1 ⟨rfl, hb1⟩
    go_wp2
    go_ret
    exact ⟨ret_int (HB.out (.inr (.inr (.inr (.inr h5))))).symm, bstep hbX hb1⟩
  · have h5' : decide (64 < (C : Int)) = false := by simp; omega
    go_enter Try.func17, Try.ntmps17
    go_wp2_with fail
    refine (refCheck13_any _ _ _ _ hxk hl).mono ?_
    rintro _ _ ⟨rfl, rfl⟩
    go_wp2_with fail
    refine (refCheck13_any _ _ _ _ hyk hl2).mono ?_
    rintro _ _ ⟨rfl, rfl⟩
    go_wp2_with fail
    refine (HC _).mono ?_
    rintro _ w1 ⟨rfl, hb1⟩
    go_wp2
    go_ret
    exact ⟨ret_int (HO.out (by omega)).symm, bstep hbX hb1⟩

theorem blocksS_err {xs ys : List Int} {m s : Int} (h : ¬ jobErr xs ys m s = 0) : blocksS xs ys m s = (0, jobErr xs ys m s) := by simp [blocksS, h]
theorem blocksS_ok {xs ys : List Int} {m s : Int} (h : jobErr xs ys m s = 0) : blocksS xs ys m s = (((cdiv xs.length s.toNat : Nat) : Int), 0) := by simp [blocksS, h]
def RetB (w : World) (r : Int × Int) (e : Ending) (w' : World) : Prop := e = .returned (.tuple #[.int .i64 r.1, .int .i64 r.2]) ∧ Below w.heap.size w w'
theorem RetB.of {w w' : World} {r : Int × Int} {a b : Int} (h : r = (a, b)) (hb : Below w.heap.size w w') : RetB w r (.returned (.tuple #[.int .i64 a, .int .i64 b])) w' := by subst h; exact ⟨rfl, hb⟩
set_option maxHeartbeats 1000000 in
theorem wkBlocks_any (X Y : Option Addr) (cx cy : Nat) (xs ys : List Int) (m s : Int) (w : World) (hx : RI .i64 w X xs) (hy : RI .i64 w Y ys) (hl : xs.length ≤ 140737488355328) (hl2 : ys.length ≤ 140737488355328) :
    Calls Try.prog 10 #[.agg #[.slice X xs.length cx, .slice Y ys.length cy, .int .i64 m, .int .i64 s]] w (RetB w (blocksS xs ys m s)) := by
  have hk := Blk.new w 24 #[.slice X xs.length cx, .slice Y ys.length cy, .int .i64 m, .int .i64 s]
  have hbX : Below w.heap.size w (w.alloc (.cells #[.slice X xs.length cx, .slice Y ys.length cy, .int .i64 m, .int .i64 s] 24)) := balloc (Below.refl _ _) _
  have q0 : World.cell? (w.alloc (.cells #[.slice X xs.length cx, .slice Y ys.length cy, .int .i64 m, .int .i64 s] 24)) ⟨w.heap.size, 0, none⟩ = some (.slice X xs.length cx) := hk.cell 0
  have f0 := hk.frozen 0
  have q1 : World.cell? (w.alloc (.cells #[.slice X xs.length cx, .slice Y ys.length cy, .int .i64 m, .int .i64 s] 24)) ⟨w.heap.size, 1, none⟩ = some (.slice Y ys.length cy) := hk.cell 1
  have f1 := hk.frozen 1
  have q2 : World.cell? (w.alloc (.cells #[.slice X xs.length cx, .slice Y ys.length cy, .int .i64 m, .int .i64 s] 24)) ⟨w.heap.size, 2, none⟩ = some (.int .i64 m) := hk.cell 2
  have f2 := hk.frozen 2
  have q3 : World.cell? (w.alloc (.cells #[.slice X xs.length cx, .slice Y ys.length cy, .int .i64 m, .int .i64 s] 24)) ⟨w.heap.size, 3, none⟩ = some (.int .i64 s) := hk.cell 3
  have f3 := hk.frozen 3
  have fl := hk.lt
  have hxk := hx.keep hbX
  have hyk := hy.keep hbX
  have HK := fun w hx hy => wkCheck_any X Y cx cy xs ys m s w hx hy hl hl2
  rcases (Decidable.em (jobErr xs ys m s = 0)).symm with he | he
  · have e1 : (jobErr xs ys m s != 0) = true := by simp [he]
    have HR := Lib.hid (blocksS_err he)
    clear he
    generalize jobErr xs ys m s = J at *
    go_enter Try.func10, Try.ntmps10
    go_wp2_with fail
    refine (HK _ hxk hyk).mono ?_
    rintro _ w1 ⟨rfl, hb1⟩
    go_wp2
    go_ret2
    exact RetB.of HR.out (bstep hbX hb1)
  · have HR := Lib.hid (blocksS_ok he)
    obtain ⟨hs1, hs2, M, S, rfl, rfl, hM, hS1, hS2, hC⟩ := jobErr_zero he
    have hl5 := (streamErr_zero hs1).1
    clear hs1 hs2
    rw [he] at HK
    clear he
    have HC := fun w => wkblk_any X Y xs.length ys.length cx cy M S w hS1 hS2 hl5
    go_enter Try.func10, Try.ntmps10
    go_wp2_with fail
    refine (HK _ hxk hyk).mono ?_
    rintro _ w1 ⟨rfl, hb1⟩
    have hk1 := hk.keep hb1
    have q0 : World.cell? w1 ⟨w.heap.size, 0, none⟩ = some (.slice X xs.length cx) := hk1.cell 0
    have f0 := hk1.frozen 0
    have q1 : World.cell? w1 ⟨w.heap.size, 1, none⟩ = some (.slice Y ys.length cy) := hk1.cell 1
    have f1 := hk1.frozen 1
    have q2 : World.cell? w1 ⟨w.heap.size, 2, none⟩ = some (.int .i64 (M : Int)) := hk1.cell 2
    have f2 := hk1.frozen 2
    have q3 : World.cell? w1 ⟨w.heap.size, 3, none⟩ = some (.int .i64 (S : Int)) := hk1.cell 3
    have f3 := hk1.frozen 3
    have fl := hk1.lt
    go_wp2_with fail
    refine (HC _).mono ?_
    rintro _ w2 ⟨rfl, hb2⟩
    go_wp2
    go_ret2
    exact RetB.of HR.out (bstep (bstep hbX hb1) hb2)
set_option maxHeartbeats 1000000 in
theorem refBlocks_any (X Y : Option Addr) (cx cy : Nat) (xs ys : List Int) (m s : Int) (w : World) (hx : RI .i64 w X xs) (hy : RI .i64 w Y ys) (hl : xs.length ≤ 140737488355328) (hl2 : ys.length ≤ 140737488355328) :
    Calls Try.prog 11 #[.agg #[.slice X xs.length cx, .slice Y ys.length cy, .int .i64 m, .int .i64 s]] w (RetB w (blocksS xs ys m s)) := by
  have hk := Blk.new w 24 #[.slice X xs.length cx, .slice Y ys.length cy, .int .i64 m, .int .i64 s]
  have hbX : Below w.heap.size w (w.alloc (.cells #[.slice X xs.length cx, .slice Y ys.length cy, .int .i64 m, .int .i64 s] 24)) := balloc (Below.refl _ _) _
  have q0 : World.cell? (w.alloc (.cells #[.slice X xs.length cx, .slice Y ys.length cy, .int .i64 m, .int .i64 s] 24)) ⟨w.heap.size, 0, none⟩ = some (.slice X xs.length cx) := hk.cell 0
  have f0 := hk.frozen 0
  have q1 : World.cell? (w.alloc (.cells #[.slice X xs.length cx, .slice Y ys.length cy, .int .i64 m, .int .i64 s] 24)) ⟨w.heap.size, 1, none⟩ = some (.slice Y ys.length cy) := hk.cell 1
  have f1 := hk.frozen 1
  have q2 : World.cell? (w.alloc (.cells #[.slice X xs.length cx, .slice Y ys.length cy, .int .i64 m, .int .i64 s] 24)) ⟨w.heap.size, 2, none⟩ = some (.int .i64 m) := hk.cell 2
  have f2 := hk.frozen 2
  have q3 : World.cell? (w.alloc (.cells #[.slice X xs.length cx, .slice Y ys.length cy, .int .i64 m, .int .i64 s] 24)) ⟨w.heap.size, 3, none⟩ = some (.int .i64 s) := hk.cell 3
  have f3 := hk.frozen 3
  have fl := hk.lt
  have hxk := hx.keep hbX
  have hyk := hy.keep hbX
  have HK := fun w hx hy => refCheckJ_any X Y cx cy xs ys m s w hx hy hl hl2
  rcases (Decidable.em (jobErr xs ys m s = 0)).symm with he | he
  · have e1 : (jobErr xs ys m s != 0) = true := by simp [he]
    have HR := Lib.hid (blocksS_err he)
    clear he
    generalize jobErr xs ys m s = J at *
    go_enter Try.func11, Try.ntmps11
    go_wp2_with fail
    refine (HK _ hxk hyk).mono ?_
    rintro _ w1 ⟨rfl, hb1⟩
    have hk1 := hk.keep hb1
    have hB1 := bstep hbX hb1
    have q0 : World.cell? w1 ⟨w.heap.size, 0, none⟩ = some (.slice X xs.length cx) := hk1.cell 0
    have f0 := hk1.frozen 0
    have q1 : World.cell? w1 ⟨w.heap.size, 1, none⟩ = some (.slice Y ys.length cy) := hk1.cell 1
    have f1 := hk1.frozen 1
    have q2 : World.cell? w1 ⟨w.heap.size, 2, none⟩ = some (.int .i64 m) := hk1.cell 2
    have f2 := hk1.frozen 2
    have q3 : World.cell? w1 ⟨w.heap.size, 3, none⟩ = some (.int .i64 s) := hk1.cell 3
    have f3 := hk1.frozen 3
    have fl := hk1.lt
    go_wp2_with fail
    refine (HK _ (hxk.keep hb1) (hyk.keep hb1)).mono ?_
    rintro _ w2 ⟨rfl, hb2⟩
    go_wp2
    go_ret2
    exact RetB.of HR.out (bstep hB1 hb2)
  · have HR := Lib.hid (blocksS_ok he)
    obtain ⟨hs1, hs2, M, S, rfl, rfl, hM, hS1, hS2, hC⟩ := jobErr_zero he
    have hl5 := (streamErr_zero hs1).1
    clear hs1 hs2
    rw [he] at HK
    clear he
    have HC := fun w => refCount_any X Y xs.length ys.length cx cy M S w hS1 hS2 hl5
    go_enter Try.func11, Try.ntmps11
    go_wp2_with fail
    refine (HK _ hxk hyk).mono ?_
    rintro _ w1 ⟨rfl, hb1⟩
    have hk1 := hk.keep hb1
    have q0 : World.cell? w1 ⟨w.heap.size, 0, none⟩ = some (.slice X xs.length cx) := hk1.cell 0
    have f0 := hk1.frozen 0
    have q1 : World.cell? w1 ⟨w.heap.size, 1, none⟩ = some (.slice Y ys.length cy) := hk1.cell 1
    have f1 := hk1.frozen 1
    have q2 : World.cell? w1 ⟨w.heap.size, 2, none⟩ = some (.int .i64 (M : Int)) := hk1.cell 2
    have f2 := hk1.frozen 2
    have q3 : World.cell? w1 ⟨w.heap.size, 3, none⟩ = some (.int .i64 (S : Int)) := hk1.cell 3
    have f3 := hk1.frozen 3
    have fl := hk1.lt
    go_wp2_with fail
    refine (HC _).mono ?_
    rintro _ w2 ⟨rfl, hb2⟩
    go_wp2
    go_ret2
    exact RetB.of HR.out (bstep (bstep hbX hb1) hb2)
end Wk
end Go.Proofs.Ytdekbncpodjgnaa
