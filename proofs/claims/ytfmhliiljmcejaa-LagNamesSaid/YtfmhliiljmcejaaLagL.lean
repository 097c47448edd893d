/-
  Contracts: fringelaw16.alive, fringelaw16.fit.
-/
import Derived.Test.YtfmhliiljmcejaaLagI
import Derived.Test.YtfmhliiljmcejaaLagK
namespace Go.Proofs.Ytfmhliiljmcejaa
open Go.RowKit
set_option linter.unusedVariables false

/-- A row of numbers typed out. -/
theorem RI_lit {w W : World} {g : Nat} {t : TypeId} {k : IntKind} (xs : List Int) (h : Blk W g t (xs.map (.int k)).toArray) : RI k W (some ⟨g, 0, none⟩) xs := by
  apply blk_RI (e := t)
  rw [flatI]
  exact h
theorem Blk.newAt {w : World} {g : Nat} (t : TypeId) (cs : Array Value) (h : w.heap.size = g) : Blk (w.alloc (.cells cs t)) g t cs := by subst h; exact Blk.new w t cs
theorem RI_lit' {W : World} {A : Option Addr} {g : Nat} {t : TypeId} {k : IntKind} (xs : List Int) (cs : Array Value) (hA : A = some ⟨g, 0, none⟩) (h : Blk W g t cs) (hc : cs = (xs.map (.int k)).toArray) : RI k W A xs := by
  subst hA; subst hc
  apply blk_RI (e := t)
  rw [flatI]
  exact h
theorem lagOf_at {A B : Option Addr} {c d n1 n2 : Nat} {most : Int} {w : World} (xs ys : List Int) (r : List (Int × Int)) (n : Nat) (x : Int) (h1 : xs.length = n1) (h2 : ys.length = n2) (hr : ofSpec xs ys most = (r, x)) (hn : r.length = n)
    (hx : RI .i64 w A xs) (hy : RI .i64 w B ys) (hl : n1 ≤ 140737488355328) (hl2 : n2 ≤ 140737488355328) :
    Calls Try.prog 11 #[.slice A n1 c, .slice B n2 d, .int .i64 most] w fun e w' => ∃ A' c', e = .returned (.tuple #[.slice A' n c', .int .i64 x]) ∧ w'.ownsRow w.heap.size 39 2 (.slice A' n c') n (r.flatMap encP) ∧ Below w.heap.size w w' := by
  subst h1; subst h2
  have h := lagOf_any A B c d xs ys most w hx hy hl hl2
  rw [hr] at h
  refine h.mono ?_
  rintro e w' ⟨A', c', rfl, ho, hb⟩
  subst hn
  exact ⟨A', c', rfl, ho, hb⟩
theorem lagTotal_at {A : Option Addr} {c n : Nat} {w : World} (l : List (Int × Int)) (p : Int × Int) (x : Int) (h1 : l.length = n) (h2 : totS l = p) (h3 : lagErr l = x) (hx : RL w A l) (hl : n ≤ 140737488355328) :
    Calls Try.prog 18 #[.slice A n c] w fun e w' => e = .returned (.tuple #[.agg #[.int .i64 p.1, .int .i64 p.2], .int .i64 x]) ∧ Below w.heap.size w w' := by
  subst h1; subst h2; subst h3
  refine (lagTotal_any A c l w hx hl).mono ?_
  rintro e w' ⟨rfl, hb⟩
  exact ⟨by rw [totalEnd_eq], hb⟩
theorem lagPeak_at {A : Option Addr} {c n : Nat} {w : World} (l : List (Int × Int)) (p x : Int) (h1 : l.length = n) (h2 : peakSpec l = (p, x)) (hx : RL w A l) (hl : n ≤ 140737488355328) :
    Calls Try.prog 26 #[.slice A n c] w fun e w' => e = .returned (.tuple #[.int .i64 p, .int .i64 x]) ∧ Below w.heap.size w w' := by
  subst h1
  have h := lagPeak_any A c l w hx hl
  rw [h2] at h
  exact h
theorem same16_at {A B : Option Addr} {c d n m : Nat} {w : World} (xs ys : List (Int × Int)) (b : Bool) (h1 : xs.length = n) (h2 : ys.length = m) (hb : decide (xs = ys) = b) (hx : RL w A xs) (hy : RL w B ys) (hl : n ≤ 140737488355328) (hl2 : m ≤ 140737488355328) :
    Calls Try.prog 15 #[.slice A n c, .slice B m d] w fun e w' => e = .returned (.bool b) ∧ ∃ n, w' = w.drewN n := by
  subst h1; subst h2; subst hb
  exact same16_any A B c d xs ys w hx hy hl hl2
theorem own_RL_at {w : World} {base : Nat} {e : TypeId} {A : Option Addr} {c n : Nat} {l : List (Int × Int)} (hn : l.length = n) (h : w.ownsRow base e 2 (.slice A n c) n (l.flatMap encP)) : RL w A l := by
  subst hn; exact own_RL h
theorem RL_lit {W : World} {g : Nat} {t : TypeId} (l : List (Int × Int)) (cs : Array Value) (h : Blk W g t cs) (hc : cs = (l.flatMap encP).toArray) : RL W (some ⟨g, 0, none⟩) l := by
  subst hc; exact blk_RL h

theorem alive16 (w : World) : Calls Try.prog 28 #[] w fun e w' => e = .returned (.bool true) ∧ Below w.heap.size w w' := by
  have s1 : ofSpec [1, 3] [-1, 1] 1 = ([(-3, 1), (2, 2), (1, 1)], 0) := by decide +kernel
  have s2 : ofSpec [1, 0] [-1, 1] 1 = ([(0, 0), (-1, 1), (1, 1)], 0) := by decide +kernel
  have s3 : totS [(-3, 1), (2, 2), (1, 1)] = (0, 4) := by decide +kernel
  have s3' : lagErr [(-3, 1), (2, 2), (1, 1)] = 0 := by decide +kernel
  have s4 : peakSpec [(-3, 1), (2, 2), (1, 1)] = (0, 0) := by decide +kernel
  have S1 := Lib.hid s1
  have S2 := Lib.hid s2
  have S3 := Lib.hid s3
  have S3' := Lib.hid s3'
  have S4 := Lib.hid s4
  clear s1 s2 s3 s4 s3'
  have g1 := eqg_lag
  have g2 := eq_lag
  go_enter Try.func28, Try.ntmps28
  go_wp2_with fail
  refine (lagOf_at [1, 3] [-1, 1] _ 3 _ rfl rfl S1.out rfl (RI_lit' [1, 3] _ rfl ((Blk.new w 3 #[.int .i64 1, .int .i64 3]).alloc _) rfl) (RI_lit' [-1, 1] _ rfl (Blk.newAt 3 #[.int .i64 (-1), .int .i64 1] (by simp)) rfl) (by decide) (by decide)).mono ?_
  rintro e w1 ⟨A1, k1, rfl, ho1, hb1⟩
  have hB1 := bstep (balloc (balloc (Below.refl _ _) _) _) hb1
  clear hb1
  go_wp2_with fail
  refine (lagTotal_at _ (0, 4) _ rfl S3.out S3'.out (own_RL_at rfl ho1) (by decide)).mono ?_
  rintro e w2 ⟨rfl, hb2⟩
  have hB2 := balloc (bstep hB1 hb2) (.cells #[.int .i64 0, .int .i64 4] 39)
  have hT := Blk.new w2 39 #[.int .i64 0, .int .i64 4]
  replace ho1 := (own_keep ho1 hb2).alloc (.cells #[.int .i64 0, .int .i64 4] 39)
  clear hb2 hB1
  go_wp2_with fail
  refine (lagPeak_at _ _ _ rfl S4.out (own_RL_at rfl ho1) (by decide)).mono ?_
  rintro e w3 ⟨rfl, hb3⟩
  have hB3 := bstep hB2 hb3
  replace ho1 := own_keep ho1 hb3
  replace hT := hT.keep hb3
  clear hb3 hB2
  go_wp2_with fail
  refine (lagOf_at [1, 0] [-1, 1] _ 3 _ rfl rfl S2.out rfl (RI_lit' [1, 0] _ rfl ((Blk.new w3 3 #[.int .i64 1, .int .i64 0]).alloc _) rfl) (RI_lit' [-1, 1] _ rfl (Blk.newAt 3 #[.int .i64 (-1), .int .i64 1] (by simp)) rfl) (by decide) (by decide)).mono ?_
  rintro e w4 ⟨A4, k4, rfl, ho4, hb4⟩
  have hB4 := bstep (balloc (balloc hB3 _) _) hb4
  replace ho1 := own_keep (own_keep ho1 (balloc (balloc (Below.refl _ _) _) _)) hb4
  replace hT := ((hT.alloc _).alloc _).keep hb4
  clear hb4 hB3
  have t0 : w4.cell? ⟨w2.heap.size, 0, none⟩ = some (.int .i64 0) := hT.cell 0
  have t1 : w4.cell? ⟨w2.heap.size, 1, none⟩ = some (.int .i64 4) := hT.cell 1
  have hlt := hT.lt
  go_wp2_with fail
  refine (same16_at [(-3, 1), (2, 2), (1, 1)] [(-3, 1), (2, 2), (1, 1)] true rfl rfl (by decide) ((own_RL_at rfl ho1).keep (balloc (Below.refl _ _) _)) (RL_lit [(-3, 1), (2, 2), (1, 1)] _ (Blk.new w4 39 _) rfl) (by decide) (by decide)).mono ?_
  rintro e w5 ⟨rfl, q5, rfl⟩
  have hB5 := below_drewN (balloc hB4 (.cells #[.int .i64 (-3), .int .i64 1, .int .i64 2, .int .i64 2, .int .i64 1, .int .i64 1] 39)) q5
  replace ho4 := own_keep (own_keep ho4 (balloc (Below.refl _ _) (.cells #[.int .i64 (-3), .int .i64 1, .int .i64 2, .int .i64 2, .int .i64 1, .int .i64 1] 39))) (below_drewN (Below.refl _ _) q5)
  go_wp2_with fail
  refine (same16_at [(0, 0), (-1, 1), (1, 1)] [(0, 0), (-1, 1), (1, 1)] true rfl rfl (by decide) ?c1 ?c2 (by decide) (by decide)).mono ?_
  case c1 => exact (own_RL_at rfl ho4).keep (balloc (Below.refl _ _) _)
  case c2 => exact RL_lit [(0, 0), (-1, 1), (1, 1)] _ (Blk.newAt 39 _ (by simp)) rfl
  rintro e w6 ⟨rfl, q6, rfl⟩
  go_wp2
  go_ret
  exact ⟨by simp, below_drewN (balloc hB5 _) q6⟩

theorem fit16_any (A : Option Addr) (c : Nat) (xs : List Int) (w : World) (hx : RI .i64 w A xs) (hl : xs.length ≤ 9223372036854775807) :
    Calls Try.prog 29 #[.slice A xs.length c] w fun e w' => e = .returned (.bool (streamErr xs == 0)) ∧ w = w' := by
  rcases (Decidable.em (xs.length ≤ 300)).symm with h1 | h1
  · have d1 : decide (300 < xs.length) = true := by simp; omega
    go_enter Try.func29, Try.ntmps29
    go_wp2_with (go_at_call 10; refine (long13_any _ _ _ _).mono ?_; rintro e w' ⟨rfl, rfl⟩)
    go_ret
    refine ⟨ret_bool ?_, rfl⟩
    symm
    rw [beq_eq_false_iff_ne]
    unfold streamErr
    rw [if_pos (by omega)]
    decide
  · have d1 : decide (300 < xs.length) = false := by simp; omega
    go_enter Try.func29, Try.ntmps29
    go_wp2_with (first | (go_at_call 10; refine (long13_any _ _ _ _).mono ?_; rintro e w' ⟨rfl, rfl⟩) | (go_at_call 31; refine (refCheck13_any _ _ _ _ hx (by omega)).mono ?_; rintro e w' ⟨rfl, rfl⟩))
    go_ret
    exact ⟨rfl, rfl⟩
end Go.Proofs.Ytfmhliiljmcejaa
