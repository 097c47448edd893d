/-
  The walk of SearchCells.
-/
import Derived.Test.YtnejmgnbamajdaaSearchH
import Derived.Test.YtnejmgnbamajdaaClone
namespace Go.Proofs.Ytnejmgnbamajdaa
open Go.RowKit
set_option linter.unusedVariables false

theorem info_int : (Try.prog.info? 3).map (fun i => (i.zero, i.size, i.bytes)) = some (some (.int .i64 0), 1, 8) := by kernel_rfl
theorem stop_len_le (xs : List Int) (r s : Int) : (stopSpec xs r s).1.length ≤ xs.length := by
  unfold stopSpec
  repeat' split
  all_goals simp [fullL_len]
set_option maxRecDepth 100000 in
set_option maxHeartbeats 4000000 in
theorem searchCells_walk (v : Int × Int) (q : Int) (A : Option Addr) (c : Nat) (xs : List Int) (B : Option Addr) (d : Nat) (ys : List Int) (dl r s : Int) (w : World)
    (_ : -9223372036854775808 ≤ q ∧ q ≤ 9223372036854775807)
    (hx : RI .i64 w A xs) (hlx : xs.length ≤ 9223372036854775807) (_ : ∀ x ∈ xs, (Lit.int .i64 x).wf = true)
    (hy : RI .i64 w B ys) (hly : ys.length ≤ 9223372036854775807) (_ : ∀ x ∈ ys, (Lit.int .i64 x).wf = true)
    (_ : -9223372036854775808 ≤ dl ∧ dl ≤ 9223372036854775807) (_ : -9223372036854775808 ≤ r ∧ r ≤ 9223372036854775807) (_ : -9223372036854775808 ≤ s ∧ s ≤ 9223372036854775807) :
    Calls Try.prog 3 #[gaussV v, .int .i64 q, .slice A xs.length c, .slice B ys.length d, .int .i64 dl, .int .i64 r, .int .i64 s] w fun e w' => e = .returned (.bool true) ∧ Below w.heap.size w w' := by
  obtain ⟨v0, v1⟩ := v
  rcases (Decidable.em (xs.length ≤ 300)).symm with h1 | h1
  · have d1 : decide (300 < xs.length) = true := by simp; omega
    go_enter Try.func3, Try.ntmps3
    go_wp2_with (go_at_call 10; refine (long13_any _ _ _ _).mono ?_; rintro e w' ⟨rfl, rfl⟩)
    go_ret
    exact ⟨rfl, balloc (Below.refl _ _) _⟩
  have d1 : decide (300 < xs.length) = false := by simp; omega
  rcases (Decidable.em (ys.length ≤ 300)).symm with h2 | h2
  · have d2 : decide (300 < ys.length) = true := by simp; omega
    go_enter Try.func3, Try.ntmps3
    go_wp2_with (go_at_call 10; refine (long13_any _ _ _ _).mono ?_; rintro e w' ⟨rfl, rfl⟩)
    go_ret
    exact ⟨rfl, balloc (Below.refl _ _) _⟩
  have d2 : decide (300 < ys.length) = false := by simp; omega
  have hla : xs.length ≤ 140737488355328 := by omega
  have hlb : ys.length ≤ 140737488355328 := by omega
  obtain ⟨i0, hi0, hz0, hz1, hz2⟩ := info_parts info_int
  have hb0 : Below w.heap.size w (w.alloc (.cells #[.int .i64 v0, .int .i64 v1] 23)) := balloc (Below.refl _ _) _
  have hV := Blk.new w 23 #[.int .i64 v0, .int .i64 v1]
  have hx0 := hx.keep hb0
  have hy0 := hy.keep hb0
  go_enter Try.func3, Try.ntmps3
  go_wp2_with (first
    | (go_at_call 10; refine (long13_any _ _ _ _).mono ?_; rintro e w' ⟨rfl, rfl⟩)
    | (at_builtin; refine wpList_clone_RI _ rfl (.tmp 35) (.tmp 36) 24 rfl 3 8 Try.underlying24 hi0 hz0 hz1 hz2 rfl .i64 _ rfl (by simp) A c xs rfl hx0 (by unfold maxLen; omega) (by omega) ?_; intro A1 c1 w1 hc1 rO hb1)
    | (at_builtin; refine wpList_clone_RI _ rfl (.tmp 38) (.tmp 39) 24 rfl 3 8 Try.underlying24 hi0 hz0 hz1 hz2 rfl .i64 _ rfl (by simp) B d ys rfl (hy0.keep hb1) (by unfold maxLen; omega) (by omega) ?_; intro A2 c2 w2 hc2 rP hb2; have hV2 := (hV.keep hb1).keep hb2; have q0 : w2.cell? ⟨w.heap.size, 0, none⟩ = some (.int .i64 v0) := hV2.cell 0; have q1 : w2.cell? ⟨w.heap.size, 1, none⟩ = some (.int .i64 v1) := hV2.cell 1))
  replace rO := rO.keep hb2
  have hB2 := bstep (bstep hb0 hb1) hb2
  clear hb1 hb2 hV
  refine (searchTurn_any (v0, v1) q _).mono ?_
  rintro _ w3 ⟨rfl, hb3⟩
  obtain ⟨T, hT⟩ : ∃ T, T = turnSpec (v0, v1) q := ⟨_, rfl⟩
  rw [← hT]
  have HT := Lib.hid hT
  clear hT
  have hb3' := balloc hb3 (.cells #[.int .i64 T.1.1, .int .i64 T.1.2] 23)
  have hT1 := Blk.new w3 23 #[.int .i64 T.1.1, .int .i64 T.1.2]
  have hB3 := bstep hB2 hb3'
  have hs3 := hB3.size
  replace rO := rO.keep hb3'
  replace rP := rP.keep hb3'
  replace hV2 := hV2.keep hb3
  have q0 : World.cell? w3 ⟨w.heap.size, 0, none⟩ = some (.int .i64 v0) := hV2.cell 0
  have qf0 := hV2.frozen 0
  have q1 : World.cell? w3 ⟨w.heap.size, 1, none⟩ = some (.int .i64 v1) := hV2.cell 1
  have qf1 := hV2.frozen 1
  have qfl := hV2.lt
  clear hb3 hb3' hB2
  go_wp2_with fail
  refine (refTurn_any (v0, v1) q _).mono ?_
  rintro _ w4 ⟨rfl, hb4⟩
  rw [← HT.out]
  have hb4' := balloc hb4 (.cells #[.int .i64 T.1.1, .int .i64 T.1.2] 23)
  have hT2 := Blk.new w4 23 #[.int .i64 T.1.1, .int .i64 T.1.2]
  have hB4 := bstep hB3 hb4'
  replace rO := rO.keep hb4'
  replace rP := rP.keep hb4'
  replace hT1 := hT1.keep hb4'
  clear hb4 hb4' hB3 hV2 q0 q1 qf0 qf1
  go_wp2_with fail
  refine (searchAt_any _ _ _ _ _ _ dl r s _ rO rP hla hlb).mono ?_
  rintro _ w5 ⟨rfl, hb5⟩
  obtain ⟨C, hC⟩ : ∃ C, C = atSpec xs ys dl r s := ⟨_, rfl⟩
  rw [← hC]
  have HC := Lib.hid hC
  clear hC
  have hb5' := balloc hb5 (.cells #[.int .i64 C.1.d, .int .i64 C.1.r, .int .i64 C.1.re, .int .i64 C.1.im, .int .i64 C.1.pw] 32)
  have hC1 := Blk.new w5 32 #[.int .i64 C.1.d, .int .i64 C.1.r, .int .i64 C.1.re, .int .i64 C.1.im, .int .i64 C.1.pw]
  have hB5 := bstep hB4 hb5'
  replace rO := rO.keep hb5'
  replace rP := rP.keep hb5'
  replace hT1 := hT1.keep hb5'
  replace hT2 := hT2.keep hb5'
  clear hb5 hb5' hB4
  go_wp2_with fail
  refine (refAt_any _ _ _ _ _ _ dl r s _ (hx.keep hB5) (hy.keep hB5) hla hlb).mono ?_
  rintro _ w6 ⟨rfl, hb6⟩
  rw [← HC.out]
  have hb6' := balloc hb6 (.cells #[.int .i64 C.1.d, .int .i64 C.1.r, .int .i64 C.1.re, .int .i64 C.1.im, .int .i64 C.1.pw] 32)
  have hC2 := Blk.new w6 32 #[.int .i64 C.1.d, .int .i64 C.1.r, .int .i64 C.1.re, .int .i64 C.1.im, .int .i64 C.1.pw]
  have hB6 := bstep hB5 hb6'
  replace rO := rO.keep hb6'
  replace rP := rP.keep hb6'
  replace hT1 := hT1.keep hb6'
  replace hT2 := hT2.keep hb6'
  replace hC1 := hC1.keep hb6'
  clear hb6 hb6' hB5
  go_wp2_with fail
  refine (searchStop_any _ _ _ r s _ rO hla).mono ?_
  rintro _ w7 ⟨A7, c7, rfl, ho7, hb7⟩
  have r7 := own_RL ho7
  have hB7 := bstep hB6 hb7
  replace rO := rO.keep hb7
  replace rP := rP.keep hb7
  replace hT1 := hT1.keep hb7
  replace hT2 := hT2.keep hb7
  replace hC1 := hC1.keep hb7
  replace hC2 := hC2.keep hb7
  clear hb7 hB6 ho7
  go_wp2_with fail
  refine (refStop_any _ _ _ r s _ (hx.keep hB7) hla).mono ?_
  rintro _ w8 ⟨A8, c8, rfl, ho8, hb8⟩
  have r8 := own_RL ho8
  have hB8 := bstep hB7 hb8
  replace rO := rO.keep hb8
  replace rP := rP.keep hb8
  replace hT1 := hT1.keep hb8
  replace hT2 := hT2.keep hb8
  replace hC1 := hC1.keep hb8
  replace hC2 := hC2.keep hb8
  replace r7 := r7.keep hb8
  clear hb8 hB7 ho8
  have hsl := stop_len_le xs r s
  have a0 : World.cell? w8 ⟨w3.heap.size, 0, none⟩ = some (.int .i64 T.1.1) := hT1.cell 0
  have af0 := hT1.frozen 0
  have a1 : World.cell? w8 ⟨w3.heap.size, 1, none⟩ = some (.int .i64 T.1.2) := hT1.cell 1
  have af1 := hT1.frozen 1
  have afl := hT1.lt
  have b0 : World.cell? w8 ⟨w4.heap.size, 0, none⟩ = some (.int .i64 T.1.1) := hT2.cell 0
  have bf0 := hT2.frozen 0
  have b1 : World.cell? w8 ⟨w4.heap.size, 1, none⟩ = some (.int .i64 T.1.2) := hT2.cell 1
  have bf1 := hT2.frozen 1
  have bfl := hT2.lt
  have c0 : World.cell? w8 ⟨w5.heap.size, 0, none⟩ = some (.int .i64 C.1.d) := hC1.cell 0
  have cf0 := hC1.frozen 0
  have c1 : World.cell? w8 ⟨w5.heap.size, 1, none⟩ = some (.int .i64 C.1.r) := hC1.cell 1
  have cf1 := hC1.frozen 1
  have c2 : World.cell? w8 ⟨w5.heap.size, 2, none⟩ = some (.int .i64 C.1.re) := hC1.cell 2
  have cf2 := hC1.frozen 2
  have c3 : World.cell? w8 ⟨w5.heap.size, 3, none⟩ = some (.int .i64 C.1.im) := hC1.cell 3
  have cf3 := hC1.frozen 3
  have c4 : World.cell? w8 ⟨w5.heap.size, 4, none⟩ = some (.int .i64 C.1.pw) := hC1.cell 4
  have cf4 := hC1.frozen 4
  have cfl := hC1.lt
  have e0 : World.cell? w8 ⟨w6.heap.size, 0, none⟩ = some (.int .i64 C.1.d) := hC2.cell 0
  have ef0 := hC2.frozen 0
  have e1 : World.cell? w8 ⟨w6.heap.size, 1, none⟩ = some (.int .i64 C.1.r) := hC2.cell 1
  have ef1 := hC2.frozen 1
  have e2 : World.cell? w8 ⟨w6.heap.size, 2, none⟩ = some (.int .i64 C.1.re) := hC2.cell 2
  have ef2 := hC2.frozen 2
  have e3 : World.cell? w8 ⟨w6.heap.size, 3, none⟩ = some (.int .i64 C.1.im) := hC2.cell 3
  have ef3 := hC2.frozen 3
  have e4 : World.cell? w8 ⟨w6.heap.size, 4, none⟩ = some (.int .i64 C.1.pw) := hC2.cell 4
  have ef4 := hC2.frozen 4
  have efl := hC2.lt
  have g1 := eqg_gauss
  have g2 := eq_gauss
  have g3 := eqg_cell
  have g4 := eq_cell
  go_wp2_with fail
  refine (sameGauss_any _ _ _ _ _ _ _ r7 r8 (by omega) (by omega)).mono ?_
  rintro _ w9 ⟨rfl, q9, rfl⟩
  go_wp2_with fail
  refine (same13_any _ _ _ _ _ _ _ (rO.keep (below_drewN (Below.refl _ _) _)) (hx.keep (below_drewN hB8 _)) (by omega) (by omega)).mono ?_
  rintro _ w10 ⟨rfl, q10, rfl⟩
  go_wp2_with fail
  refine (same13_any _ _ _ _ _ _ _ (rP.keep (below_drewN (Below.refl _ _) _)) (hy.keep (below_drewN hB8 _)) (by omega) (by omega)).mono ?_
  rintro _ w11 ⟨rfl, q11, rfl⟩
  go_wp2
  go_ret
  exact ⟨by simp, by first | exact below_drewN hB8 _ | exact below_drewN (below_drewN hB8 _) _⟩
end Go.Proofs.Ytnejmgnbamajdaa
