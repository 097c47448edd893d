/-
  The walk of SearchBest.
-/
import Derived.Test.YtnejmgnbamajdaaSearchJ
namespace Go.Proofs.Ytnejmgnbamajdaa
open Go.RowKit
set_option linter.unusedVariables false

theorem cellS_pw {xs ys : List Int} {d r s : Int} : (cellS xs ys d r s).pw = (cellS xs ys d r s).re * (cellS xs ys d r s).re + (cellS xs ys d r s).im * (cellS xs ys d r s).im := rfl
theorem cellS_bd {xs ys : List Int} {d r s : Int} (h : askErr xs ys s = 0) : -2304 ≤ (cellS xs ys d r s).re ∧ (cellS xs ys d r s).re ≤ 2304 ∧ -2304 ≤ (cellS xs ys d r s).im ∧ (cellS xs ys d r s).im ≤ 2304 := by
  obtain ⟨h1, h2, _, _⟩ := askErr_zero h
  have := (streamErr_zero h1).1
  have := cellSum_bd h1 h2 d r s xs.length
  unfold cellS
  simp only []
  omega
theorem best_law {xs ys : List Int} {m : Nat} {s d r : Int} (hm : m ≤ 32) (ha : askErr xs ys s = 0) (h1 : -(m : Int) ≤ d) (h2 : d ≤ m) (h3 : 0 ≤ r) (h4 : r ≤ 3) :
    (bestSpec xs ys m s = (zeroC, 18) ∧ (cellS xs ys d r s).pw = 0) ∨ ∃ B, bestSpec xs ys m s = (B, 0) ∧ atSpec xs ys B.d B.r s = (B, 0) ∧ -32 ≤ B.d ∧ B.d ≤ 32 ∧ 1 ≤ B.pw ∧ betterB (cellS xs ys d r s) B = false := by
  obtain ⟨D, R, g1, g2, g3, g4, he, hall⟩ := grid_best xs ys m s
  have hc := hall d r h1 h2 h3 h4
  by_cases hz : (bestOf (fullL (gridAt xs ys m s) (gridN m))).pw = 0
  · refine .inl ⟨best_none ha (by omega) hz, ?_⟩
    rw [better_no] at hc
    rw [he] at hz
    have : 0 ≤ (cellS xs ys d r s).pw := askErr_pw
    omega
  · refine .inr ⟨cellS xs ys D R s, ?_, ?_, ?_, ?_, ?_, hc⟩
    · rw [best_ok ha (by omega) hz, he]
    · rw [cellS_d, cellS_r, atSpec_ok ha ⟨by omega, by omega, g3, g4⟩]
    · rw [cellS_d]; omega
    · rw [cellS_d]; omega
    · rw [he] at hz
      have : 0 ≤ (cellS xs ys D R s).pw := askErr_pw
      omega
theorem absI_sq (a : Int) : a * a = absI a * absI a := by
  unfold absI
  split
  · rfl
  · rw [Int.neg_mul_neg]
theorem absI_nonneg (a : Int) : 0 ≤ absI a := by unfold absI; split <;> omega
theorem sq_lt_of {a b : Int} (h : absI a < absI b) : a * a < b * b := by
  rw [absI_sq a, absI_sq b]
  have := absI_nonneg a
  exact Int.lt_of_le_of_lt (Int.mul_le_mul_of_nonneg_left (Int.le_of_lt h) this) (Int.mul_lt_mul_of_pos_right h (by omega))
/-- When two cells have one power and the first does not come before the second. -/
theorem not_better {C B : Cl} (hp : C.pw = B.pw) (h : betterB C B = false) : (B.d * B.d < C.d * C.d) ∨ (B.d * B.d = C.d * C.d ∧ B.d < C.d) ∨ (B.d = C.d ∧ B.r ≤ C.r) := by
  rw [better_no] at h
  rcases (show absI B.d < absI C.d ∨ (absI B.d = absI C.d ∧ B.d < C.d) ∨ (B.d = C.d ∧ B.r ≤ C.r) by omega) with h1 | ⟨h1, h2⟩ | h1
  · exact .inl (sq_lt_of h1)
  · exact .inr (.inl ⟨by rw [absI_sq B.d, absI_sq C.d, h1], h2⟩)
  · exact .inr (.inr h1)

set_option maxRecDepth 100000 in
set_option maxHeartbeats 8000000 in
theorem searchBest_walk (A : Option Addr) (c : Nat) (xs : List Int) (B : Option Addr) (d : Nat) (ys : List Int) (most s dl r : Int) (w : World)
    (hx : RI .i64 w A xs) (hlx : xs.length ≤ 9223372036854775807) (_ : ∀ x ∈ xs, (Lit.int .i64 x).wf = true)
    (hy : RI .i64 w B ys) (hly : ys.length ≤ 9223372036854775807) (_ : ∀ x ∈ ys, (Lit.int .i64 x).wf = true)
    (_ : -9223372036854775808 ≤ most ∧ most ≤ 9223372036854775807) (_ : -9223372036854775808 ≤ s ∧ s ≤ 9223372036854775807)
    (_ : -9223372036854775808 ≤ dl ∧ dl ≤ 9223372036854775807) (_ : -9223372036854775808 ≤ r ∧ r ≤ 9223372036854775807) :
    Calls Try.prog 6 #[.slice A xs.length c, .slice B ys.length d, .int .i64 most, .int .i64 s, .int .i64 dl, .int .i64 r] w fun e w' => e = .returned (.bool true) ∧ Below w.heap.size w w' := by
  rcases (Decidable.em (askErr xs ys s = 0)).symm with he | he
  · have e1 : decide (askErr xs ys s = 0) = false := by simpa using he
    clear he
    go_enter Try.func6, Try.ntmps6
    go_wp2_with fail
    refine (alive20 _).mono ?_
    rintro _ w1 ⟨rfl, hb1⟩
    go_wp2_with fail
    refine (fit20_any _ _ _ _ _ _ _ _ (hx.keep hb1) (hy.keep hb1) hlx hly).mono ?_
    rintro _ _ ⟨rfl, rfl⟩
    go_wp2
    go_ret
    exact ⟨rfl, hb1⟩
  have e1 : decide (askErr xs ys s = 0) = true := by simpa using he
  have HE := Lib.hid he
  obtain ⟨hx1, hy1, _, _⟩ := askErr_zero he
  have hla : xs.length ≤ 140737488355328 := by have := (streamErr_zero hx1).1; omega
  have hlb : ys.length ≤ 140737488355328 := by have := (streamErr_zero hy1).1; omega
  clear he hx1 hy1
  rcases (show (0 ≤ most ∧ most ≤ 32 ∧ -most ≤ dl ∧ dl ≤ most ∧ 0 ≤ r ∧ r ≤ 3) ∨ most < 0 ∨ (0 ≤ most ∧ 32 < most) ∨ (0 ≤ most ∧ most ≤ 32 ∧ dl < -most) ∨ (0 ≤ most ∧ most ≤ 32 ∧ -most ≤ dl ∧ most < dl) ∨ (0 ≤ most ∧ most ≤ 32 ∧ -most ≤ dl ∧ dl ≤ most ∧ r < 0) ∨ (0 ≤ most ∧ most ≤ 32 ∧ -most ≤ dl ∧ dl ≤ most ∧ 0 ≤ r ∧ 3 < r) by omega).symm with h | h
  · rcases h with h | h | h | h | h | h
    all_goals
      go_enter Try.func6, Try.ntmps6
      go_wp2_with fail
      refine (alive20 _).mono ?_
      rintro _ w1 ⟨rfl, hb1⟩
      go_wp2_with fail
      refine (fit20_any _ _ _ _ _ _ _ _ (hx.keep hb1) (hy.keep hb1) hlx hly).mono ?_
      rintro _ _ ⟨rfl, rfl⟩
      go_wp2
      go_ret
      exact ⟨rfl, hb1⟩
  obtain ⟨h1, h2, h3, h4, h5, h6⟩ := h
  obtain ⟨m, rfl⟩ := Int.eq_ofNat_of_zero_le h1
  have hA := atSpec_ok HE.out (d := dl) (r := r) ⟨by omega, by omega, h5, h6⟩
  have hcp := cellS_pw (xs := xs) (ys := ys) (d := dl) (r := r) (s := s)
  have hcb := cellS_bd (d := dl) (r := r) HE.out
  have hcd := cellS_d (xs := xs) (ys := ys) (d := dl) (r := r) (s := s)
  have hcn : 0 ≤ (cellS xs ys dl r s).pw := askErr_pw
  have hlaw := best_law (m := m) (by omega) HE.out h3 h4 h5 h6
  obtain ⟨C, hC⟩ : ∃ C, C = cellS xs ys dl r s := ⟨_, rfl⟩
  rw [← hC] at hA hcp hcb hcd hcn hlaw
  clear hC
  have hC1 : -32 ≤ C.d := by omega
  have hC2 : C.d ≤ 32 := by omega
  have s1 := sq_bd (B := 2304) hcb.1 hcb.2.1
  have s2 := sq_bd (B := 2304) hcb.2.2.1 hcb.2.2.2
  have t1 : (C.pw != C.re * C.re + C.im * C.im) = false := by simp [hcp]
  clear hcd hcp
  have g3 := eqg_cell
  have g4 := eq_cell
  have HAt := fun w hx hy => searchAt_any A B c d xs ys dl r s w hx hy hla hlb
  rw [hA] at HAt
  clear hA
  rcases hlaw with ⟨hb, hz⟩ | ⟨B', hb, hat, hB1, hB2, hB3, hnb⟩
  · have HB := fun w hx hy => searchBest_any A B c d xs ys m s w hx hy hla hlb
    rw [hb] at HB
    have ez : (C.pw == 0) = true := by simp [hz]
    clear hb hz
    go_enter Try.func6, Try.ntmps6
    go_wp2_with fail
    refine (alive20 _).mono ?_
    rintro _ w1 ⟨rfl, hb1⟩
    go_wp2_with fail
    refine (fit20_any _ _ _ _ _ _ _ _ (hx.keep hb1) (hy.keep hb1) hlx hly).mono ?_
    rintro _ _ ⟨rfl, rfl⟩
    go_wp2_with fail
    refine (HB _ (hx.keep hb1) (hy.keep hb1)).mono ?_
    rintro _ w2 ⟨rfl, hb2⟩
    have hB2 := balloc (bstep hb1 hb2) (.cells #[.int .i64 0, .int .i64 0, .int .i64 0, .int .i64 0, .int .i64 0] 32)
    go_wp2_with fail
    refine (HAt _ (hx.keep hB2) (hy.keep hB2)).mono ?_
    rintro _ w3 ⟨rfl, hb3⟩
    go_wp2
    go_ret
    exact ⟨rfl, balloc (bstep hB2 hb3) _⟩
  · have HB := fun w hx hy => searchBest_any A B c d xs ys m s w hx hy hla hlb
    rw [hb] at HB
    have HG := fun w hx hy => searchAt_any A B c d xs ys B'.d B'.r s w hx hy hla hlb
    rw [hat] at HG
    clear hb hat
    go_enter Try.func6, Try.ntmps6
    go_wp2_with fail
    refine (alive20 _).mono ?_
    rintro _ w1 ⟨rfl, hb1⟩
    go_wp2_with fail
    refine (fit20_any _ _ _ _ _ _ _ _ (hx.keep hb1) (hy.keep hb1) hlx hly).mono ?_
    rintro _ _ ⟨rfl, rfl⟩
    go_wp2_with fail
    refine (HB _ (hx.keep hb1) (hy.keep hb1)).mono ?_
    rintro _ w2 ⟨rfl, hb2⟩
    have hB2 := balloc (bstep hb1 hb2) (.cells #[.int .i64 B'.d, .int .i64 B'.r, .int .i64 B'.re, .int .i64 B'.im, .int .i64 B'.pw] 32)
    have hBB := Blk.new w2 32 #[.int .i64 B'.d, .int .i64 B'.r, .int .i64 B'.re, .int .i64 B'.im, .int .i64 B'.pw]
    go_wp2_with fail
    refine (HAt _ (hx.keep hB2) (hy.keep hB2)).mono ?_
    rintro _ w3 ⟨rfl, hb3⟩
    have hB3 := balloc (bstep hB2 hb3) (.cells #[.int .i64 C.d, .int .i64 C.r, .int .i64 C.re, .int .i64 C.im, .int .i64 C.pw] 32)
    have hCC := Blk.new w3 32 #[.int .i64 C.d, .int .i64 C.r, .int .i64 C.re, .int .i64 C.im, .int .i64 C.pw]
    replace hBB := hBB.keep hb3
    have b0 : World.cell? w3 ⟨w2.heap.size, 0, none⟩ = some (.int .i64 B'.d) := hBB.cell 0
    have bf0 := hBB.frozen 0
    have b1 : World.cell? w3 ⟨w2.heap.size, 1, none⟩ = some (.int .i64 B'.r) := hBB.cell 1
    have bf1 := hBB.frozen 1
    have b2 : World.cell? w3 ⟨w2.heap.size, 2, none⟩ = some (.int .i64 B'.re) := hBB.cell 2
    have bf2 := hBB.frozen 2
    have b3 : World.cell? w3 ⟨w2.heap.size, 3, none⟩ = some (.int .i64 B'.im) := hBB.cell 3
    have bf3 := hBB.frozen 3
    have b4 : World.cell? w3 ⟨w2.heap.size, 4, none⟩ = some (.int .i64 B'.pw) := hBB.cell 4
    have bf4 := hBB.frozen 4
    have bfl := hBB.lt
    replace hBB := hBB.alloc (.cells #[.int .i64 C.d, .int .i64 C.r, .int .i64 C.re, .int .i64 C.im, .int .i64 C.pw] 32)
    clear hb1 hb2 hb3 hB2
    go_wp2_with fail
    refine (HG _ (hx.keep hB3) (hy.keep hB3)).mono ?_
    rintro _ w4 ⟨rfl, hb4⟩
    have hB4 := balloc (bstep hB3 hb4) (.cells #[.int .i64 B'.d, .int .i64 B'.r, .int .i64 B'.re, .int .i64 B'.im, .int .i64 B'.pw] 32)
    replace hBB := hBB.keep hb4
    replace hCC := hCC.keep hb4
    have b0 : World.cell? w4 ⟨w2.heap.size, 0, none⟩ = some (.int .i64 B'.d) := hBB.cell 0
    have bf0 := hBB.frozen 0
    have b1 : World.cell? w4 ⟨w2.heap.size, 1, none⟩ = some (.int .i64 B'.r) := hBB.cell 1
    have bf1 := hBB.frozen 1
    have b2 : World.cell? w4 ⟨w2.heap.size, 2, none⟩ = some (.int .i64 B'.re) := hBB.cell 2
    have bf2 := hBB.frozen 2
    have b3 : World.cell? w4 ⟨w2.heap.size, 3, none⟩ = some (.int .i64 B'.im) := hBB.cell 3
    have bf3 := hBB.frozen 3
    have b4 : World.cell? w4 ⟨w2.heap.size, 4, none⟩ = some (.int .i64 B'.pw) := hBB.cell 4
    have bf4 := hBB.frozen 4
    have bfl := hBB.lt
    have c0 : World.cell? w4 ⟨w3.heap.size, 0, none⟩ = some (.int .i64 C.d) := hCC.cell 0
    have cf0 := hCC.frozen 0
    have c1 : World.cell? w4 ⟨w3.heap.size, 1, none⟩ = some (.int .i64 C.r) := hCC.cell 1
    have cf1 := hCC.frozen 1
    have c2 : World.cell? w4 ⟨w3.heap.size, 2, none⟩ = some (.int .i64 C.re) := hCC.cell 2
    have cf2 := hCC.frozen 2
    have c3 : World.cell? w4 ⟨w3.heap.size, 3, none⟩ = some (.int .i64 C.im) := hCC.cell 3
    have cf3 := hCC.frozen 3
    have c4 : World.cell? w4 ⟨w3.heap.size, 4, none⟩ = some (.int .i64 C.pw) := hCC.cell 4
    have cf4 := hCC.frozen 4
    have cfl := hCC.lt
    clear hB3 hb4
    have k1 : ¬ B'.pw < C.pw := by rw [better_no] at hnb; omega
    have k2 : ¬ B'.pw < 1 := by omega
    by_cases hlt : C.pw < B'.pw
    · clear hnb
      go_wp2
      go_ret
      exact ⟨rfl, hB4⟩
    · have hn := not_better (by omega) hnb
      have s3 := sq_bd (B := 32) (a := B'.d) (by omega) (by omega)
      have s4 := sq_bd (B := 32) (a := C.d) (by omega) (by omega)
      clear hnb
      rcases hn with hn | ⟨hn1, hn2⟩ | ⟨hn1, hn2⟩
      · go_wp2
        go_quiet (fail)
        go_wp2
        go_ret
        exact ⟨rfl, below_drewN hB4 _⟩
      · have en : (B'.d * B'.d == C.d * C.d) = true := by simp [hn1]
        have ev : ¬ B'.d * B'.d < C.d * C.d := by omega
        clear hn1
        go_wp2
        go_quiet (fail)
        go_wp2
        go_ret
        exact ⟨rfl, below_drewN hB4 _⟩
      · have en : (B'.d * B'.d == C.d * C.d) = true := by simp [hn1]
        have ev : ¬ B'.d * B'.d < C.d * C.d := by rw [hn1]; omega
        have eu : (B'.d == C.d) = true := by simp [hn1]
        have eu2 : ¬ B'.d < C.d := by omega
        clear hn1
        go_wp2
        go_quiet (fail)
        go_wp2
        go_ret
        exact ⟨rfl, below_drewN hB4 _⟩
end Go.Proofs.Ytnejmgnbamajdaa
