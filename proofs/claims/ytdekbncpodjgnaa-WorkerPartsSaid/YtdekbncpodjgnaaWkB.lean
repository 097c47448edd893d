/-
  Jobs of layer 19. Contracts: fringeref19.Check, both Blocks, fringeref19.Great.
-/
import Derived.Test.YtdekbncpodjgnaaWkA
namespace Go.Proofs.Ytdekbncpodjgnaa
open Go.RowKit
set_option linter.unusedVariables false
set_option linter.unusedSimpArgs false
namespace Wk
open Lagw

set_option maxHeartbeats 1000000 in
theorem refCheckJ_any (X Y : Option Addr) (cx cy : Nat) (xs ys : List Int) (m s : Int) (w : World) (hx : RI .i64 w X xs) (hy : RI .i64 w Y ys) (hl : xs.length ≤ 140737488355328) (hl2 : ys.length ≤ 140737488355328) :
    Calls Try.prog 17 #[.agg #[.slice X xs.length cx, .slice Y ys.length cy, .int .i64 m, .int .i64 s]] w fun e w' => e = .returned (.int .i64 (jobErr xs ys m s)) ∧ Below w.heap.size w w' := by
  have hk := Blk.new w 24 #[.slice X xs.length cx, .slice Y ys.length cy, .int .i64 m, .int .i64 s]
  have hbX : Below w.heap.size w (w.alloc (.cells #[.slice X xs.length cx, .slice Y ys.length cy, .int .i64 m, .int .i64 s] 24)) := balloc (Below.refl _ _) _
  have q0 : World.cell? (w.alloc (.cells #[.slice X xs.length cx, .slice Y ys.length cy, .int .i64 m, .int .i64 s] 24)) ⟨w.heap.size, 0, none⟩ = some (.slice X xs.length cx) := hk.cell 0
  have f0 := hk.frozen 0
  have q1 : World.cell? (w.alloc (.cells #[.slice X xs.length cx, .slice Y ys.length cy, .int .i64 m, .int .i64 s] 24)) ⟨w.heap.size, 1, none⟩ = some (.slice Y ys.length cy) := hk.cell 1
  have f1 := hk.frozen 1
  have q2 : World.cell? (w.alloc (.cells #[.slice X xs.length cx, .slice Y ys.length cy, .int .i64 m, .int .i64 s] 24)) ⟨w.heap.size, 2, none⟩ = some (.int .i64 m) := hk.cell 2
  have f2 := hk.frozen 2
  have q3 : World.cell? (w.alloc (.cells #[.slice X xs.length cx, .slice Y ys.length cy, .int .i64 m, .int .i64 s] 24)) ⟨w.heap.size, 3, none⟩ = some (.int .i64 s) := hk.cell 3
  have f3 := hk.frozen 3
  have fl := hk.lt
  have hxk := hx.keep hbX
  have hyk := hy.keep hbX
  rcases (Decidable.em (streamErr xs = 0)).symm with he | he
  · have e1 : (streamErr xs != 0) = true := by simp [he]
    have HR := Lib.hid (jobErr_x (ys := ys) (m := m) (s := s) he)
    clear he
    go_enter Try.func17, Try.ntmps17
    go_wp2_with fail
    refine (refCheck13_any _ _ _ _ hxk hl).mono ?_
    rintro _ _ ⟨rfl, rfl⟩
    go_wp2_with fail
    refine (refCheck13_any _ _ _ _ hxk hl).mono ?_
    rintro _ _ ⟨rfl, rfl⟩
    go_wp2
    go_ret
    exact ⟨ret_int HR.out.symm, hbX⟩
  have e1 : (streamErr xs != 0) = false := by simp [he]
  rcases (Decidable.em (streamErr ys = 0)).symm with he2 | he2
  · have e2 : (streamErr ys != 0) = true := by simp [he2]
    have HR := Lib.hid (jobErr_y (m := m) (s := s) he he2)
    clear he he2
    go_enter Try.func17, Try.ntmps17
    go_wp2_with fail
    refine (refCheck13_any _ _ _ _ hxk hl).mono ?_
    rintro _ _ ⟨rfl, rfl⟩
    go_wp2_with fail
    refine (refCheck13_any _ _ _ _ hyk hl2).mono ?_
    rintro _ _ ⟨rfl, rfl⟩
    go_wp2_with fail
    refine (refCheck13_any _ _ _ _ hyk hl2).mono ?_
    rintro _ _ ⟨rfl, rfl⟩
    go_wp2
    go_ret
    exact ⟨ret_int HR.out.symm, hbX⟩
  have e2 : (streamErr ys != 0) = false := by simp [he2]
  have HB := Lib.hid (fun h3 => jobErr_b (m := m) (s := s) he he2 h3)
  have HO := Lib.hid (fun h3 => jobErr_ok (m := m) (s := s) he he2 h3)
  have hl5 := (streamErr_zero he).1
  clear he he2
  by_cases h1 : m < 0
  · go_enter Try.func17, Try.ntmps17
    go_wp2_with fail
    refine (refCheck13_any _ _ _ _ hxk hl).mono ?_
    rintro _ _ ⟨rfl, rfl⟩
    go_wp2_with fail
    refine (refCheck13_any _ _ _ _ hyk hl2).mono ?_
    rintro _ _ ⟨rfl, rfl⟩
    go_wp2
    go_ret
    exact ⟨ret_int (HB.out (.inl h1)).symm, hbX⟩
  by_cases h2 : 255 < m
  · go_enter Try.func17, Try.ntmps17
    go_wp2_with fail
    refine (refCheck13_any _ _ _ _ hxk hl).mono ?_
    rintro _ _ ⟨rfl, rfl⟩
    go_wp2_with fail
    refine (refCheck13_any _ _ _ _ hyk hl2).mono ?_
    rintro _ _ ⟨rfl, rfl⟩
    go_wp2
    go_ret
    exact ⟨ret_int (HB.out (.inr (.inl h2))).symm, hbX⟩
  by_cases h3 : s < 1
  · go_enter Try.func17, Try.ntmps17
    go_wp2_with fail
    refine (refCheck13_any _ _ _ _ hxk hl).mono ?_
    rintro _ _ ⟨rfl, rfl⟩
    go_wp2_with fail
    refine (refCheck13_any _ _ _ _ hyk hl2).mono ?_
    rintro _ _ ⟨rfl, rfl⟩
    go_wp2
    go_ret
    exact ⟨ret_int (HB.out (.inr (.inr (.inl h3)))).symm, hbX⟩
  by_cases h4 : 256 < s
  · go_enter Try.func17, Try.ntmps17
    go_wp2_with fail
    refine (refCheck13_any _ _ _ _ hxk hl).mono ?_
    rintro _ _ ⟨rfl, rfl⟩
    go_wp2_with fail
    refine (refCheck13_any _ _ _ _ hyk hl2).mono ?_
    rintro _ _ ⟨rfl, rfl⟩
    go_wp2
    go_ret
    exact ⟨ret_int (HB.out (.inr (.inr (.inr (.inl h4))))).symm, hbX⟩
  obtain ⟨S, rfl⟩ : ∃ S : Nat, s = S := ⟨s.toNat, by omega⟩
  rw [Int.toNat_natCast] at HB HO
  have HC := fun w => refCount_any X Y xs.length ys.length cx cy m S w (by omega) (by omega) hl5
  generalize cdiv xs.length S = C at HB HO HC
  have h3' : decide ((S : Int) < 1) = false := by simpa using h3
  have h4' : decide (256 < (S : Int)) = false := by simpa using h4
  by_cases h5 : 64 < C
  · have h5' : decide (64 < (C : Int)) = true := by simp; omega
    go_enter Try.func17, Try.ntmps17
    go_wp2_with fail
    refine (refCheck13_any _ _ _ _ hxk hl).mono ?_
    rintro _ _ ⟨rfl, rfl⟩
    go_wp2_with fail
    refine (refCheck13_any _ _ _ _ hyk hl2).mono ?_
    rintro _ _ ⟨rfl, rfl⟩
    go_wp2_with fail
    refine (HC _).mono ?_
    rintro _ w1 ⟨rfl, hb1⟩
    go_wp2
    go_ret
    exact ⟨ret_int (HB.out (.inr (.inr (.inr (.inr h5))))).symm, bstep hbX hb1⟩
  · have h5' : decide (64 < (C : Int)) = false := by simp; omega
    go_enter Try.func17, Try.ntmps17
    go_wp2_with fail
    refine (refCheck13_any _ _ _ _ hxk hl).mono ?_
    rintro _ _ ⟨rfl, rfl⟩
    go_wp2_with fail
    refine (refCheck13_any _ _ _ _ hyk hl2).mono ?_
    rintro _ _ ⟨rfl, rfl⟩
    go_wp2_with fail
    refine (HC _).mono ?_
    rintro _ w1 ⟨rfl, hb1⟩
    go_wp2
    go_ret
    exact ⟨ret_int (HO.out (by omega)).symm, bstep hbX hb1⟩

theorem blocksS_err {xs ys : List Int} {m s : Int} (h : ¬ jobErr xs ys m s = 0) : blocksS xs ys m s = (0, jobErr xs ys m s) := by simp [blocksS, h]
theorem blocksS_ok {xs ys : List Int} {m s : Int} (h : jobErr xs ys m s = 0) : blocksS xs ys m s = (((cdiv xs.length s.toNat : Nat) : Int), 0) := by simp [blocksS, h]
def RetB (w : World) (r : Int × Int) (e : Ending) (w' : World) : Prop := e = .returned (.tuple #[.int .i64 r.1, .int .i64 r.2]) ∧ Below w.heap.size w w'
theorem RetB.of {w w' : World} {r : Int × Int} {a b : Int} (h : r = (a, b)) (hb : Below w.heap.size w w') : RetB w r (.returned (.tuple #[.int .i64 a, .int .i64 b])) w' := by subst h; exact ⟨rfl, hb⟩
set_option maxHeartbeats 1000000 in
theorem wkBlocks_any (X Y : Option Addr) (cx cy : Nat) (xs ys : List Int) (m s : Int) (w : World) (hx : RI .i64 w X xs) (hy : RI .i64 w Y ys) (hl : xs.length ≤ 140737488355328) (hl2 : ys.length ≤ 140737488355328) :
    Calls Try.prog 10 #[.agg #[.slice X xs.length cx, .slice Y ys.length cy, .int .i64 m, .int .i64 s]] w (RetB w (blocksS xs ys m s)) := by
  have hk := Blk.new w 24 #[.slice X xs.length cx, .slice Y ys.length cy, .int .i64 m, .int .i64 s]
  have hbX : Below w.heap.size w (w.alloc (.cells #[.slice X xs.length cx, .slice Y ys.length cy, .int .i64 m, .int .i64 s] 24)) := balloc (Below.refl _ _) _
  have q0 : World.cell? (w.alloc (.cells #[.slice X xs.length cx, .slice Y ys.length cy, .int .i64 m, .int .i64 s] 24)) ⟨w.heap.size, 0, none⟩ = some (.slice X xs.length cx) := hk.cell 0
  have f0 := hk.frozen 0
  have q1 : World.cell? (w.alloc (.cells #[.slice X xs.length cx, .slice Y ys.length cy, .int .i64 m, .int .i64 s] 24)) ⟨w.heap.size, 1, none⟩ = some (.slice Y ys.length cy) := hk.cell 1
  have f1 := hk.frozen 1
  have q2 : World.cell? (w.alloc (.cells #[.slice X xs.length cx, .slice Y ys.length cy, .int .i64 m, .int .i64 s] 24)) ⟨w.heap.size, 2, none⟩ = some (.int .i64 m) := hk.cell 2
  have f2 := hk.frozen 2
  have q3 : World.cell? (w.alloc (.cells #[.slice X xs.length cx, .slice Y ys.length cy, .int .i64 m, .int .i64 s] 24)) ⟨w.heap.size, 3, none⟩ = some (.int .i64 s) := hk.cell 3
  have f3 := hk.frozen 3
  have fl := hk.lt
  have hxk := hx.keep hbX
  have hyk := hy.keep hbX
  have HK := fun w hx hy => wkCheck_any X Y cx cy xs ys m s w hx hy hl hl2
  rcases (Decidable.em (jobErr xs ys m s = 0)).symm with he | he
  · have e1 : (jobErr xs ys m s != 0) = true := by simp [he]
    have HR := Lib.hid (blocksS_err he)
    clear he
    generalize jobErr xs ys m s = J at *
    go_enter Try.func10, Try.ntmps10
    go_wp2_with fail
    refine (HK _ hxk hyk).mono ?_
    rintro _ w1 ⟨rfl, hb1⟩
    go_wp2
    go_ret2
    exact RetB.of HR.out (bstep hbX hb1)
  · have HR := Lib.hid (blocksS_ok he)
    obtain ⟨hs1, hs2, M, S, rfl, rfl, hM, hS1, hS2, hC⟩ := jobErr_zero he
    have hl5 := (streamErr_zero hs1).1
    clear hs1 hs2
    rw [he] at HK
    clear he
    have HC := fun w => wkblk_any X Y xs.length ys.length cx cy M S w hS1 hS2 hl5
    go_enter Try.func10, Try.ntmps10
    go_wp2_with fail
    refine (HK _ hxk hyk).mono ?_
    rintro _ w1 ⟨rfl, hb1⟩
    have hk1 := hk.keep hb1
    have q0 : World.cell? w1 ⟨w.heap.size, 0, none⟩ = some (.slice X xs.length cx) := hk1.cell 0
    have f0 := hk1.frozen 0
    have q1 : World.cell? w1 ⟨w.heap.size, 1, none⟩ = some (.slice Y ys.length cy) := hk1.cell 1
    have f1 := hk1.frozen 1
    have q2 : World.cell? w1 ⟨w.heap.size, 2, none⟩ = some (.int .i64 (M : Int)) := hk1.cell 2
    have f2 := hk1.frozen 2
    have q3 : World.cell? w1 ⟨w.heap.size, 3, none⟩ = some (.int .i64 (S : Int)) := hk1.cell 3
    have f3 := hk1.frozen 3
    have fl := hk1.lt
    go_wp2_with fail
    refine (HC _).mono ?_
    rintro _ w2 ⟨rfl, hb2⟩
    go_wp2
    go_ret2
    exact RetB.of HR.out (bstep (bstep hbX hb1) hb2)
set_option maxHeartbeats 1000000 in
theorem refBlocks_any (X Y : Option Addr) (cx cy : Nat) (xs ys : List Int) (m s : Int) (w : World) (hx : RI .i64 w X xs) (hy : RI .i64 w Y ys) (hl : xs.length ≤ 140737488355328) (hl2 : ys.length ≤ 140737488355328) :
    Calls Try.prog 11 #[.agg #[.slice X xs.length cx, .slice Y ys.length cy, .int .i64 m, .int .i64 s]] w (RetB w (blocksS xs ys m s)) := by
  have hk := Blk.new w 24 #[.slice X xs.length cx, .slice Y ys.length cy, .int .i64 m, .int .i64 s]
  have hbX : Below w.heap.size w (w.alloc (.cells #[.slice X xs.length cx, .slice Y ys.length cy, .int .i64 m, .int .i64 s] 24)) := balloc (Below.refl _ _) _
  have q0 : World.cell? (w.alloc (.cells #[.slice X xs.length cx, .slice Y ys.length cy, .int .i64 m, .int .i64 s] 24)) ⟨w.heap.size, 0, none⟩ = some (.slice X xs.length cx) := hk.cell 0
  have f0 := hk.frozen 0
  have q1 : World.cell? (w.alloc (.cells #[.slice X xs.length cx, .slice Y ys.length cy, .int .i64 m, .int .i64 s] 24)) ⟨w.heap.size, 1, none⟩ = some (.slice Y ys.length cy) := hk.cell 1
  have f1 := hk.frozen 1
  have q2 : World.cell? (w.alloc (.cells #[.slice X xs.length cx, .slice Y ys.length cy, .int .i64 m, .int .i64 s] 24)) ⟨w.heap.size, 2, none⟩ = some (.int .i64 m) := hk.cell 2
  have f2 := hk.frozen 2
  have q3 : World.cell? (w.alloc (.cells #[.slice X xs.length cx, .slice Y ys.length cy, .int .i64 m, .int .i64 s] 24)) ⟨w.heap.size, 3, none⟩ = some (.int .i64 s) := hk.cell 3
  have f3 := hk.frozen 3
  have fl := hk.lt
  have hxk := hx.keep hbX
  have hyk := hy.keep hbX
  have HK := fun w hx hy => refCheckJ_any X Y cx cy xs ys m s w hx hy hl hl2
  rcases (Decidable.em (jobErr xs ys m s = 0)).symm with he | he
  · have e1 : (jobErr xs ys m s != 0) = true := by simp [he]
    have HR := Lib.hid (blocksS_err he)
    clear he
    generalize jobErr xs ys m s = J at *
    go_enter Try.func11, Try.ntmps11
    go_wp2_with fail
    refine (HK _ hxk hyk).mono ?_
    rintro _ w1 ⟨rfl, hb1⟩
    have hk1 := hk.keep hb1
    have hB1 := bstep hbX hb1
    have q0 : World.cell? w1 ⟨w.heap.size, 0, none⟩ = some (.slice X xs.length cx) := hk1.cell 0
    have f0 := hk1.frozen 0
    have q1 : World.cell? w1 ⟨w.heap.size, 1, none⟩ = some (.slice Y ys.length cy) := hk1.cell 1
    have f1 := hk1.frozen 1
    have q2 : World.cell? w1 ⟨w.heap.size, 2, none⟩ = some (.int .i64 m) := hk1.cell 2
    have f2 := hk1.frozen 2
    have q3 : World.cell? w1 ⟨w.heap.size, 3, none⟩ = some (.int .i64 s) := hk1.cell 3
    have f3 := hk1.frozen 3
    have fl := hk1.lt
    go_wp2_with fail
    refine (HK _ (hxk.keep hb1) (hyk.keep hb1)).mono ?_
    rintro _ w2 ⟨rfl, hb2⟩
    go_wp2
    go_ret2
    exact RetB.of HR.out (bstep hB1 hb2)
  · have HR := Lib.hid (blocksS_ok he)
    obtain ⟨hs1, hs2, M, S, rfl, rfl, hM, hS1, hS2, hC⟩ := jobErr_zero he
    have hl5 := (streamErr_zero hs1).1
    clear hs1 hs2
    rw [he] at HK
    clear he
    have HC := fun w => refCount_any X Y xs.length ys.length cx cy M S w hS1 hS2 hl5
    go_enter Try.func11, Try.ntmps11
    go_wp2_with fail
    refine (HK _ hxk hyk).mono ?_
    rintro _ w1 ⟨rfl, hb1⟩
    have hk1 := hk.keep hb1
    have q0 : World.cell? w1 ⟨w.heap.size, 0, none⟩ = some (.slice X xs.length cx) := hk1.cell 0
    have f0 := hk1.frozen 0
    have q1 : World.cell? w1 ⟨w.heap.size, 1, none⟩ = some (.slice Y ys.length cy) := hk1.cell 1
    have f1 := hk1.frozen 1
    have q2 : World.cell? w1 ⟨w.heap.size, 2, none⟩ = some (.int .i64 (M : Int)) := hk1.cell 2
    have f2 := hk1.frozen 2
    have q3 : World.cell? w1 ⟨w.heap.size, 3, none⟩ = some (.int .i64 (S : Int)) := hk1.cell 3
    have f3 := hk1.frozen 3
    have fl := hk1.lt
    go_wp2_with fail
    refine (HC _).mono ?_
    rintro _ w2 ⟨rfl, hb2⟩
    go_wp2
    go_ret2
    exact RetB.of HR.out (bstep (bstep hbX hb1) hb2)
end Wk
end Go.Proofs.Ytdekbncpodjgnaa
