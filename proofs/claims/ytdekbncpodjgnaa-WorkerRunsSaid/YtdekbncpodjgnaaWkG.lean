/-
  Jobs of layer 19. Contracts: fringeref19.Part; worker.idle.
-/
import Derived.Test.YtdekbncpodjgnaaWkF
import Derived.Deep.Onto
import Derived.Test.YtdekbncpodjgnaaAppend
import Derived.Deep.DrawnRows
import Derived.Deep.RegionLaw
import Derived.Laws.CopyOwn
namespace Go.Proofs.Ytdekbncpodjgnaa
open Go.RowKit
set_option linter.unusedVariables false
set_option linter.unusedSimpArgs false
namespace Wk
open Lagw

theorem refOf_n (n : Nat) (A B : Option Addr) (c d : Nat) (xs ys : List Int) (most : Int) (w : World) (hn : xs.length = n) (hx : RI .i64 w A xs) (hy : RI .i64 w B ys) (hl : n ≤ 140737488355328) (hl2 : ys.length ≤ 140737488355328) :
    Calls Try.prog 41 #[.slice A n c, .slice B ys.length d, .int .i64 most] w (RetQ 75 w (ofSpec xs ys most)) := by
  subst hn
  exact refOf_any A B c d xs ys most w hx hy hl hl2
set_option maxRecDepth 20000 in
set_option maxHeartbeats 4000000 in
theorem refPart_any (X Y : Option Addr) (cx cy : Nat) (xs ys : List Int) (m s b : Int) (w : World) (hx : RI .i64 w X xs) (hy : RI .i64 w Y ys) (hl : xs.length ≤ 140737488355328) (hl2 : ys.length ≤ 140737488355328) :
    Calls Try.prog 13 #[.agg #[.slice X xs.length cx, .slice Y ys.length cy, .int .i64 m, .int .i64 s], .int .i64 b] w (RetQ 75 w (partS xs ys m s b)) := by
  have hk := Blk.new w 24 #[.slice X xs.length cx, .slice Y ys.length cy, .int .i64 m, .int .i64 s]
  have hbX : Below w.heap.size w (w.alloc (.cells #[.slice X xs.length cx, .slice Y ys.length cy, .int .i64 m, .int .i64 s] 24)) := balloc (Below.refl _ _) _
  have q0 : World.cell? (w.alloc (.cells #[.slice X xs.length cx, .slice Y ys.length cy, .int .i64 m, .int .i64 s] 24)) ⟨w.heap.size, 0, none⟩ = some (.slice X xs.length cx) := hk.cell 0
  have f0 := hk.frozen 0
  have q1 : World.cell? (w.alloc (.cells #[.slice X xs.length cx, .slice Y ys.length cy, .int .i64 m, .int .i64 s] 24)) ⟨w.heap.size, 1, none⟩ = some (.slice Y ys.length cy) := hk.cell 1
  have f1 := hk.frozen 1
  have q2 : World.cell? (w.alloc (.cells #[.slice X xs.length cx, .slice Y ys.length cy, .int .i64 m, .int .i64 s] 24)) ⟨w.heap.size, 2, none⟩ = some (.int .i64 m) := hk.cell 2
  have f2 := hk.frozen 2
  have q3 : World.cell? (w.alloc (.cells #[.slice X xs.length cx, .slice Y ys.length cy, .int .i64 m, .int .i64 s] 24)) ⟨w.heap.size, 3, none⟩ = some (.int .i64 s) := hk.cell 3
  have f3 := hk.frozen 3
  have fl := hk.lt
  have hxk := hx.keep hbX
  have hyk := hy.keep hbX
  have HK := fun w hx hy => refCheckJ_any X Y cx cy xs ys m s w hx hy hl hl2
  obtain ⟨m0, hm0⟩ : ∃ m0, m0 = m := ⟨_, rfl⟩
  obtain ⟨s0, hs0⟩ : ∃ s0, s0 = s := ⟨_, rfl⟩
  rcases (Decidable.em (jobErr xs ys m s = 0)).symm with he | he
  · have e1 : (jobErr xs ys m s != 0) = true := by simp [he]
    have HR := Lib.hid (partS_err (b := b) he)
    clear he
    generalize jobErr xs ys m s = J at HK e1 HR
    subst hm0; subst hs0
    go_enter Try.func13, Try.ntmps13
    go_wp2_with fail
    refine (HK _ hxk hyk).mono ?_
    rintro _ w1 ⟨rfl, hb1⟩
    have hB1 := bstep hbX hb1
    have hk1 := hk.keep hb1
    have q0 : World.cell? w1 ⟨w.heap.size, 0, none⟩ = some (.slice X xs.length cx) := hk1.cell 0
    have f0 := hk1.frozen 0
    have q1 : World.cell? w1 ⟨w.heap.size, 1, none⟩ = some (.slice Y ys.length cy) := hk1.cell 1
    have f1 := hk1.frozen 1
    have q2 : World.cell? w1 ⟨w.heap.size, 2, none⟩ = some (.int .i64 m0) := hk1.cell 2
    have f2 := hk1.frozen 2
    have q3 : World.cell? w1 ⟨w.heap.size, 3, none⟩ = some (.int .i64 s0) := hk1.cell 3
    have f3 := hk1.frozen 3
    have fl := hk1.lt
    go_wp2_with fail
    refine (HK _ (hxk.keep hb1) (hyk.keep hb1)).mono ?_
    rintro _ w2 ⟨rfl, hb2⟩
    go_wp2
    go_ret2
    exact RetQ.nil HR.out (bstep hB1 hb2)
  · obtain ⟨hs1, hs2, M, S, rfl, rfl, hM, hS1, hS2, hC⟩ := jobErr_zero he
    subst hm0; subst hs0
    have HR1 := Lib.hid (fun b h2 => partS_arg (b := b) he h2)
    have HR2 := Lib.hid (fun b h2 => partS_ok (b := b) he h2)
    have hl5 := (streamErr_zero hs1).1
    have hl6 := (streamErr_zero hs2).1
    have HO := Lib.hid (fun b => ofSpec_ok (own_stream hs1 S b) hs2 (m := M) (by omega))
    have HCL := Lib.hid (fun k => cdiv_lt (n := xs.length) (k := k) hS1)
    rw [Int.toNat_natCast] at HR1
    rw [he] at HK
    clear hs1 hs2 he
    have HC := fun w => refCount_any X Y xs.length ys.length cx cy M S w hS1 hS2 hl5
    generalize cdiv xs.length S = C at HR1 HR2 HC HCL hC
    have hCn : C ≤ 64 := hC
    by_cases hb0 : b < 0
    · go_enter Try.func13, Try.ntmps13
      go_wp2_with fail
      refine (HK _ hxk hyk).mono ?_
      rintro _ w1 ⟨rfl, hb1⟩
      go_wp2
      go_ret2
      exact RetQ.nil (HR1.out _ (.inl hb0)) (bstep hbX hb1)
    obtain ⟨B, rfl⟩ : ∃ B : Nat, b = B := ⟨b.toNat, by omega⟩
    have hb0' : decide ((B : Int) < 0) = false := decide_eq_false hb0
    by_cases hbC : C ≤ B
    · have hbC' : decide ((C : Int) ≤ (B : Int)) = true := by simp; omega
      go_enter Try.func13, Try.ntmps13
      go_wp2_with fail
      refine (HK _ hxk hyk).mono ?_
      rintro _ w1 ⟨rfl, hb1⟩
      have hB1 := bstep hbX hb1
      have hk1 := hk.keep hb1
      have q0 : World.cell? w1 ⟨w.heap.size, 0, none⟩ = some (.slice X xs.length cx) := hk1.cell 0
      have f0 := hk1.frozen 0
      have q1 : World.cell? w1 ⟨w.heap.size, 1, none⟩ = some (.slice Y ys.length cy) := hk1.cell 1
      have f1 := hk1.frozen 1
      have q2 : World.cell? w1 ⟨w.heap.size, 2, none⟩ = some (.int .i64 (M : Int)) := hk1.cell 2
      have f2 := hk1.frozen 2
      have q3 : World.cell? w1 ⟨w.heap.size, 3, none⟩ = some (.int .i64 (S : Int)) := hk1.cell 3
      have f3 := hk1.frozen 3
      have fl := hk1.lt
      go_wp2_with fail
      refine (HC _).mono ?_
      rintro _ w2 ⟨rfl, hb2⟩
      go_wp2
      go_ret2
      exact RetQ.nil (HR1.out _ (.inr (by omega))) (bstep hB1 hb2)
    · have hbC' : decide ((C : Int) ≤ (B : Int)) = false := by simp; omega
      have hin := (HCL.out B).1 (by omega)
      have HP := fun w hx => own19_any X Y cx cy ys.length xs M S B w hx hS1 hS2 hl5 (by omega)
      have HQ := fun A c w hx hy => refOf_n xs.length A Y c cy (ownL xs S B) ys M w (ownL_len _ _ _) hx hy (by omega) (by omega)
      rw [HO.out] at HQ
      have HV := Lib.hid (HR2.out B (by omega))
      generalize lagCells (ownL xs S B) ys M = L at *
      generalize ownL xs S B = O at *
      clear HO HR1 HR2 HCL
      go_enter Try.func13, Try.ntmps13
      go_wp2_with fail
      refine (HK _ hxk hyk).mono ?_
      rintro _ w1 ⟨rfl, hb1⟩
      have hB1 := bstep hbX hb1
      have hk1 := hk.keep hb1
      have q0 : World.cell? w1 ⟨w.heap.size, 0, none⟩ = some (.slice X xs.length cx) := hk1.cell 0
      have f0 := hk1.frozen 0
      have q1 : World.cell? w1 ⟨w.heap.size, 1, none⟩ = some (.slice Y ys.length cy) := hk1.cell 1
      have f1 := hk1.frozen 1
      have q2 : World.cell? w1 ⟨w.heap.size, 2, none⟩ = some (.int .i64 (M : Int)) := hk1.cell 2
      have f2 := hk1.frozen 2
      have q3 : World.cell? w1 ⟨w.heap.size, 3, none⟩ = some (.int .i64 (S : Int)) := hk1.cell 3
      have f3 := hk1.frozen 3
      have fl := hk1.lt
      go_wp2_with fail
      refine (HC _).mono ?_
      rintro _ w2 ⟨rfl, hb2⟩
      have hB2 := bstep hB1 hb2
      have hk2 := hk1.keep hb2
      have q0 : World.cell? w2 ⟨w.heap.size, 0, none⟩ = some (.slice X xs.length cx) := hk2.cell 0
      have f0 := hk2.frozen 0
      have q1 : World.cell? w2 ⟨w.heap.size, 1, none⟩ = some (.slice Y ys.length cy) := hk2.cell 1
      have f1 := hk2.frozen 1
      have q2 : World.cell? w2 ⟨w.heap.size, 2, none⟩ = some (.int .i64 (M : Int)) := hk2.cell 2
      have f2 := hk2.frozen 2
      have q3 : World.cell? w2 ⟨w.heap.size, 3, none⟩ = some (.int .i64 (S : Int)) := hk2.cell 3
      have f3 := hk2.frozen 3
      have fl := hk2.lt
      have HH := Lib.hid (fun W (hW : Below w2.heap.size w2 W) => (show W.cell? ⟨w.heap.size, 1, none⟩ = some (.slice Y ys.length cy) ∧ W.cell? ⟨w.heap.size, 2, none⟩ = some (.int .i64 (M : Int)) ∧ w.heap.size < W.heap.size from ⟨(hk2.keep hW).cell 1, (hk2.keep hW).cell 2, (hk2.keep hW).lt⟩))
      have hxd := hx.keep hB2.drew
      clear hk hk1 hbX hb1 hb2 hB1 HC HK
      go_wp2
      go_region_law
        ((first
          | (go_simp; go_at_call 42; (with_reducible refine (HP w2.drew hxd).mono ?_); rintro e w9 ⟨A9, c9, rfl, r9, hb9'⟩; have hb9 : Below w2.heap.size w2 w9 := bstep (Below.drew (Below.refl _ _)) hb9'; have hB9 : Below w.heap.size w w9 := bstep hB2 hb9; have k1 := (HH.out _ hb9).1; have k2 := (HH.out _ hb9).2.1; have k3 := (HH.out _ hb9).2.2; have hy9 := hy.keep hB9)
          | (go_simp; go_at_call 41; (with_reducible refine (HQ A9 c9 w9 r9 hy9).mono ?_); rintro e w10 ⟨A10, c10, rfl, ho10, hb10⟩)
          | fail))
      all_goals
        go_wp2
        go_ret2
        rw [HV.out]
        exact ⟨A10, c10, rfl, ho10.mono hB9.size, bstep hB9 hb10⟩
end Wk
end Go.Proofs.Ytdekbncpodjgnaa
