/-
  Layer 12 (bank), the library's iterator: slices.Chunk over a slice of ints whose length is a multiple of n.
-/
import Derived.RangeFuncNested
import Derived.RangeFuncBound
import Derived.RangeFuncCalls
import Derived.RangeFuncLeaves
import Derived.Shelf.Abstract
import Derived.Shelf.RegionOpen
import Derived.OwnWalkIn
import Derived.TacticsInMore
import Derived.LoopNIn
import Derived.LoopIn
import Derived.Test.YtnhjeelcgfobnaaBkN
namespace Go.Proofs.Ytnhjeelcgfobnaa
open Go.RowKit Num Go.Shelf
set_option maxRecDepth 8000
set_option linter.unusedVariables false
set_option linter.unusedSimpArgs false
namespace Bk
open Lol Crs

theorem und_ints12 : Try.prog.underlying 39 = some (.slice (Try.prog.elem 39)) := by kernel_rfl
theorem info_intC : (Try.prog.info? 3).map (fun i => (i.zero, i.size, i.bytes)) = some (some (.int .i64 0), 1, 8) := by kernel_rfl
theorem size_int12 : (sizeOf (Try.prog.elem 39)).run Try.prog = fun w => .ok 1 w := by
  funext w
  have h : Try.prog.elem 39 = 3 := by kernel_rfl
  obtain ⟨j0, hj0, hy0, hy1, hy2⟩ := info_parts info_intC
  rw [h]
  simp [sizeOf, typeInfo, hj0, hy1]
theorem cut_lo (b off len cap lo : Nat) (h0 : lo < cap) (h1 : lo ≤ len) (w : World) :
    (Instr.slice 39 (.slice (some ⟨b, off, none⟩) len cap) (some (.int .i64 (lo : Int))) none none).run Try.prog w = .ok (.slice (some ⟨b, off + lo, none⟩) (len - lo) (cap - lo)) w := by
  rw [run_slice_l w _ _ _ _ und_ints12 .i64 lo (by omega) (by omega), size_int12]
  have e : ¬ cap = lo := by omega
  simp [sliced, Result.andThen, e, Addr.add]
theorem cut_lhm (b off len cap lo hi n : Nat) (hh : hi = lo + n) (h0 : 0 < n) (h3 : hi ≤ cap) (w : World) :
    (Instr.slice 39 (.slice (some ⟨b, off, none⟩) len cap) (some (.int .i64 (lo : Int))) (some (.int .i64 (hi : Int))) (some (.int .i64 (hi : Int)))).run Try.prog w = .ok (.slice (some ⟨b, off + lo, none⟩) n n) w := by
  rw [run_slice_lhm w _ _ _ _ und_ints12 .i64 .i64 .i64 lo hi hi (by omega) (by omega) (by omega) (by omega), size_int12]
  have e : ¬ hi = lo := by omega
  have e2 : hi - lo = n := by omega
  simp [sliced, Result.andThen, e, Addr.add, e2]
theorem chunk_any (A : Option Addr) (len c N : Nat) (h1 : 1 ≤ N) (w : World) :
    Calls Try.prog 42 #[.slice A len c, .int .i64 (N : Int)] w fun e w' => e = .returned (.func (.func 64) #[] #[.pointer (some ⟨w.heap.size, 0, none⟩), .pointer (some ⟨w.heap.size + 1, 0, none⟩)]) ∧ w' = (w.alloc (.cells #[.slice A len c] 39)).alloc (.cells #[.int .i64 (N : Int)] 3) := by
  have d1 : decide ((N : Int) < 1) = false := decide_eq_false (by omega)
  have d1' : decide (N < 1) = false := decide_eq_false (by omega)
  go_enter Try.func42, Try.ntmps42
  go_wp2
  go_ret
  exact ⟨rfl, rfl⟩
/-- The numbers of the blocks. -/
abbrev Blks (M : Nat) := { t : Nat // t < M }
/-- The iterator's two boxes are kept. -/
def KB (bs bn : Nat) (W W' : World) : Prop := W'.cell? ⟨bs, 0, none⟩ = W.cell? ⟨bs, 0, none⟩ ∧ W'.cell? ⟨bn, 0, none⟩ = W.cell? ⟨bn, 0, none⟩
abbrev encT (b off N : Nat) {M : Nat} (x : Blks M) : Array Value := #[.slice (some ⟨b, off + x.1 * N, none⟩) N N]
attribute [local go_sem] Oper.semAt_some
set_option maxRecDepth 100000 in
set_option maxHeartbeats 4000000 in
theorem chunk1_in (n : Nat) (hn : 3 ≤ n) (l M N b off len cap bs bn : Nat) (hM : M * N = len) (h1 : 1 ≤ N) (hN : N ≤ 16) (hl : len ≤ 256) (hcap : len ≤ cap) (J Jx : List (Blks M) → World → Prop) (hJd : ∀ pre W q, J pre W → J pre (World.drewN W q))
    (hY : ∀ pre x W1, J pre W1 → pre.length < M → YieldAt Fence.wide (n - 1) Try.prog l (encT b off N x) W1 fun e W' =>
      (e = .returned (.bool true) ∧ J (pre ++ [x]) W' ∧ KB bs bn W1 W') ∨ (e = .returned (.bool false) ∧ Jx (pre ++ [x]) W'))
    (W : World) (hs : W.cell? ⟨bs, 0, none⟩ = some (.slice (some ⟨b, off, none⟩) len cap)) (hnn : W.cell? ⟨bn, 0, none⟩ = some (.int .i64 (N : Int))) (h0 : J [] W) :
    CallsIn Fence.wide n Try.prog 64 #[.func (.yield l) #[] #[], .pointer (some ⟨bs, 0, none⟩), .pointer (some ⟨bn, 0, none⟩)] W fun e W' => (∃ v, e = .returned v) ∧
      ((∃ xs : List (Blks M), xs.map Subtype.val = List.range M ∧ J xs W') ∨ (∃ pre : List (Blks M), True ∧ Jx pre W')) := by
  refine callsIn_of_wp Try.func64 rfl trivial ?_ rfl
  simp only [Try.ntmps64, List.size_toArray, List.length_cons, List.length_nil, Nat.reduceAdd, Nat.reduceSub, Array.replicate_succ, Array.replicate_zero, List.push_toArray, List.append_toArray, List.nil_append, List.cons_append]
  gi_wp2
  gi_loopw [4] (fun i wr => ∃ (k : Nat) (pre : List (Blks M)), k ≤ M ∧ i = .int .i64 ((k * N : Nat) : Int) ∧ pre.map Subtype.val = List.range k ∧ J pre wr ∧ KB bs bn W wr)
    (fun i _ => len - (intOf i).toNat)
  case atStart => exact ⟨0, [], Nat.zero_le _, by simp, by simp, h0, rfl, rfl⟩
  case round =>
    obtain ⟨k, pre, hk, rfl, hpre, hJs, hnx⟩ := hrel
    have hs2 := hnx.1.trans hs
    have hn2 := hnx.2.trans hnn
    have HLT : Hid (k * N < len ↔ k < M) := Lib.hid (by rw [← hM]; exact str_lt h1)
    by_cases hlt : k < M
    · have hin := HLT.out.2 hlt
      have hlo3 : k * N + N ≤ len := by
        have : (k + 1) * N ≤ M * N := Nat.mul_le_mul_right N hlt
        rw [Nat.succ_mul, hM] at this
        exact this
      have hlen : pre.length < M := by
        have := congrArg List.length hpre
        simp at this
        omega
      have HYY := Lib.hid (fun q => hY pre ⟨k, hlt⟩ (World.drewN wr q) (hJd _ _ q hJs) hlen)
      unfold encT at HYY
      dsimp only at HYY
      have HNX := Lib.hid (Nat.succ_mul k N)
      obtain ⟨lo, hlo⟩ : ∃ lo, lo = k * N := ⟨_, rfl⟩
      rw [← hlo] at hin hlo3 HYY ⊢
      have HLO := Lib.hid hlo
      clear hlo
      have hA := fun W => cut_lo b off len cap lo (by omega) (by omega) W
      obtain ⟨hi, hhi⟩ : ∃ hi, hi = lo + N := ⟨_, rfl⟩
      have hB := fun W => cut_lhm b off len cap lo hi N hhi (by omega) (by omega) W
      obtain ⟨D, hD⟩ : ∃ D, D = len - lo := ⟨_, rfl⟩
      rw [← hD] at hA
      have hmin : ¬ (D : Int) < (N : Int) := by omega
      have hadd : IntKind.i64.wrap ((lo : Int) + (N : Int)) = (hi : Int) := by rw [IntWalk.i64_in _ (by omega)]; omega
      gi_wp2
      refine wpIn_wide.2 ?_
      go_quiet (fail)
      obtain ⟨fn, tmps, assign, body, hy, hR⟩ := HYY.out nq
      have hz : lo + N - lo = N := by omega
      gi_wp2
      refine ⟨fun _ => by omega, hR.mono ?_⟩
      rintro e W3 (⟨rfl, hJ3, hk3⟩ | ⟨rfl, hJx3⟩)
      · have hn3 := hk3.2.trans hn2
        gi_wp2
        go_roundw
        case rel => exact ⟨k + 1, _, by omega, by rw [HNX.out, ← HLO.out]; go_num, by rw [List.map_append, hpre, List.range_succ]; rfl, hJ3, hk3.1.trans hnx.1, hk3.2.trans hnx.2⟩
        case measure => simp [intOf]; omega
      · gi_wp2
        refine bodyPost_ret (results_none rfl _ _ _) rfl ?_
        exact ⟨⟨_, rfl⟩, .inr ⟨_, trivial, hJx3⟩⟩
    · obtain rfl : k = M := by omega
      have hin : ¬ (k * N < len) := fun h => hlt (HLT.out.1 h)
      obtain ⟨lo, hlo⟩ : ∃ lo, lo = k * N := ⟨_, rfl⟩
      rw [← hlo] at hin ⊢
      gi_wp2
      go_end0
      exact ⟨⟨_, rfl⟩, .inl ⟨pre, hpre, hJs⟩⟩
theorem grown_drewN (w : World) (n : Nat) (row : Option Nat) : w.grownBy (w.drewN n) row := ⟨rfl, rfl, rfl, Nat.le_refl _, fun _ _ _ => rfl⟩
theorem chunk0_in (n : Nat) (hn : 3 ≤ n) (l N cap bs bn : Nat) (A : Option Addr) (J : List (Blks 0) → World → Prop)
    (W : World) (hs : W.cell? ⟨bs, 0, none⟩ = some (.slice A 0 cap)) (hnn : W.cell? ⟨bn, 0, none⟩ = some (.int .i64 (N : Int))) (h0 : J [] W) :
    CallsIn Fence.wide n Try.prog 64 #[.func (.yield l) #[] #[], .pointer (some ⟨bs, 0, none⟩), .pointer (some ⟨bn, 0, none⟩)] W fun e W' => (∃ v, e = .returned v) ∧ J [] W' := by
  refine callsIn_of_wp Try.func64 rfl trivial ?_ rfl
  simp only [Try.ntmps64, List.size_toArray, List.length_cons, List.length_nil, Nat.reduceAdd, Nat.reduceSub, Array.replicate_succ, Array.replicate_zero, List.push_toArray, List.append_toArray, List.nil_append, List.cons_append]
  gi_wp2
  gi_loopw [4] (fun i wr => i = .int .i64 0 ∧ wr = W) (fun _ _ => 0)
  case atStart => exact ⟨rfl, rfl⟩
  case round =>
    obtain ⟨rfl, rfl⟩ := hrel
    gi_wp2
    go_end0
    exact ⟨⟨_, rfl⟩, h0⟩
/-- What comes of a row that is cut into blocks of N. -/
theorem chunk_stops (n : Nat) (hn : 3 ≤ n) (M N len cap bs bn : Nat) (A : Option Addr) (hM : M * N = len) (h1 : 1 ≤ N) (hN : N ≤ 16) (hl : len ≤ 256) (hcap : len ≤ cap) (w : World) (hbs : bs < w.heap.size) (hbn : bn < w.heap.size)
    (b off : Nat) (hA : 0 < len → A = some ⟨b, off, none⟩)
    (hs : w.cell? ⟨bs, 0, none⟩ = some (.slice A len cap)) (hnn : w.cell? ⟨bn, 0, none⟩ = some (.int .i64 (N : Int))) :
    SeqStopsK Fence.wide n Try.prog 64 #[.pointer (some ⟨bs, 0, none⟩), .pointer (some ⟨bn, 0, none⟩)] (fun x : Blks M => encT b off N x) (KB bs bn) (fun xs => xs.map Subtype.val = List.range M) (fun _ => True) M w := by
  intro l J Jx W hW hJ hJx hY h0
  have hs2 := (hW.cell (p := ⟨bs, 0, none⟩) hbs).trans hs
  have hn2 := (hW.cell (p := ⟨bn, 0, none⟩) hbn).trans hnn
  rcases Nat.eq_zero_or_pos M with h | h
  · subst h
    rw [Nat.zero_mul] at hM
    subst hM
    refine (chunk0_in n hn l N cap bs bn A J W hs2 hn2 h0).mono ?_
    rintro e W' ⟨he, hj⟩
    exact ⟨he, .inl ⟨[], rfl, hj⟩⟩
  · have h2 : 0 < len := by rw [← hM]; exact Nat.mul_pos h h1
    obtain rfl := hA h2
    exact chunk1_in n hn l M N b off len cap bs bn hM h1 hN hl hcap J Jx (fun pre W1 q h => hJ pre W1 _ none h (grown_drewN _ _ _) (fun r e => by cases e)) hY W hs2 hn2 h0
end Bk
end Go.Proofs.Ytnhjeelcgfobnaa
