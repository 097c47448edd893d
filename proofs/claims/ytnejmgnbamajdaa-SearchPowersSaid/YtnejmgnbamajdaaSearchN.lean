/-
  The walk of SearchPowers.
-/
import Derived.Test.YtnejmgnbamajdaaSearchL
import Derived.Test.YtnejmgnbamajdaaLagOfW
namespace Go.Proofs.Ytnejmgnbamajdaa
open Go.RowKit
set_option linter.unusedVariables false

/-- The sum of the products at the times that are t modulo 4. -/
def classSum (xs ys : List Int) (d s : Int) (t : Nat) : Nat → Int
  | 0 => 0
  | k + 1 => if ((k : Int) / s) % 4 = t then classSum xs ys d s t k + prodAt xs ys d k else classSum xs ys d s t k
theorem classSum_bd {xs ys : List Int} (hx : streamErr xs = 0) (hy : streamErr ys = 0) (d s : Int) (t k : Nat) : -(9 * (k : Int)) ≤ classSum xs ys d s t k ∧ classSum xs ys d s t k ≤ 9 * k := by
  induction k with
  | zero => simp [classSum]
  | succ k ih =>
    have := prodAt_bd hx hy d k
    unfold classSum
    split <;> omega
theorem class_cells {xs ys : List Int} {d s : Int} (k : Nat) :
    cellSum xs ys d 0 s k = (classSum xs ys d s 0 k + classSum xs ys d s 1 k + classSum xs ys d s 2 k + classSum xs ys d s 3 k, 0) ∧
    cellSum xs ys d 1 s k = (classSum xs ys d s 0 k - classSum xs ys d s 2 k, classSum xs ys d s 3 k - classSum xs ys d s 1 k) ∧
    cellSum xs ys d 2 s k = (classSum xs ys d s 0 k - classSum xs ys d s 1 k + classSum xs ys d s 2 k - classSum xs ys d s 3 k, 0) ∧
    cellSum xs ys d 3 s k = (classSum xs ys d s 0 k - classSum xs ys d s 2 k, classSum xs ys d s 1 k - classSum xs ys d s 3 k) := by
  induction k with
  | zero => simp [cellSum, classSum]
  | succ k ih =>
    obtain ⟨h0, h1, h2, h3⟩ := ih
    simp only [cellSum, h0, h1, h2, h3, classSum, partAt, quartAt]
    generalize prodAt xs ys d k = p
    generalize (k : Int) / s = x
    rcases (show x % 4 = 0 ∨ x % 4 = 1 ∨ x % 4 = 2 ∨ x % 4 = 3 by omega) with h | h | h | h
    · have e0 : (-0 * x) % 4 = 0 := by omega
      have e1 : (-1 * x) % 4 = 0 := by omega
      have e2 : (-2 * x) % 4 = 0 := by omega
      have e3 : (-3 * x) % 4 = 0 := by omega
      simp only [turnG, e0, e1, e2, e3, h]
      simp
      omega
    · have e0 : (-0 * x) % 4 = 0 := by omega
      have e1 : (-1 * x) % 4 = 3 := by omega
      have e2 : (-2 * x) % 4 = 2 := by omega
      have e3 : (-3 * x) % 4 = 1 := by omega
      simp only [turnG, e0, e1, e2, e3, h]
      simp
      omega
    · have e0 : (-0 * x) % 4 = 0 := by omega
      have e1 : (-1 * x) % 4 = 2 := by omega
      have e2 : (-2 * x) % 4 = 0 := by omega
      have e3 : (-3 * x) % 4 = 2 := by omega
      simp only [turnG, e0, e1, e2, e3, h]
      simp
      omega
    · have e0 : (-0 * x) % 4 = 0 := by omega
      have e1 : (-1 * x) % 4 = 1 := by omega
      have e2 : (-2 * x) % 4 = 2 := by omega
      have e3 : (-3 * x) % 4 = 3 := by omega
      simp only [turnG, e0, e1, e2, e3, h]
      simp
      omega
def powSum (xs ys : List Int) (d s : Int) : Nat → Int
  | 0 => 0
  | r + 1 => powSum xs ys d s r + (cellS xs ys d (r : Int) s).pw
def sqSum (xs ys : List Int) (d s : Int) : Nat → Int
  | 0 => 0
  | t + 1 => sqSum xs ys d s t + classSum xs ys d s t xs.length * classSum xs ys d s t xs.length
theorem power_law (xs ys : List Int) (d s : Int) : powSum xs ys d s 4 = 4 * sqSum xs ys d s 4 := by
  obtain ⟨h0, h1, h2, h3⟩ := class_cells (xs := xs) (ys := ys) (d := d) (s := s) xs.length
  simp only [powSum, sqSum, cellS]
  have e0 : ((0 : Nat) : Int) = 0 := rfl
  have e1 : ((1 : Nat) : Int) = 1 := rfl
  have e2 : ((2 : Nat) : Int) = 2 := rfl
  have e3 : ((3 : Nat) : Int) = 3 := rfl
  rw [e0, e1, e2, e3, h0, h1, h2, h3]
  simp only []
  generalize classSum xs ys d s 0 xs.length = a
  generalize classSum xs ys d s 1 xs.length = b
  generalize classSum xs ys d s 2 xs.length = c
  generalize classSum xs ys d s 3 xs.length = e
  grind
theorem cell_pw_bd {xs ys : List Int} {d r s : Int} (h : askErr xs ys s = 0) : 0 ≤ (cellS xs ys d r s).pw ∧ (cellS xs ys d r s).pw ≤ 10616832 := by
  have hb := cellS_bd (d := d) (r := r) h
  have s1 := sq_bd (B := 2304) hb.1 hb.2.1
  have s2 := sq_bd (B := 2304) hb.2.2.1 hb.2.2.2
  rw [cellS_pw]
  omega
theorem powSum_bd {xs ys : List Int} {d s : Int} (h : askErr xs ys s = 0) (r : Nat) : 0 ≤ powSum xs ys d s r ∧ powSum xs ys d s r ≤ 10616832 * r := by
  induction r with
  | zero => simp [powSum]
  | succ r ih => have := cell_pw_bd (d := d) (r := (r : Int)) h; unfold powSum; omega
theorem sqSum_bd {xs ys : List Int} {d s : Int} (h : askErr xs ys s = 0) (r : Nat) : 0 ≤ sqSum xs ys d s r ∧ sqSum xs ys d s r ≤ 5308416 * r := by
  obtain ⟨h1, h2, _, _⟩ := askErr_zero h
  have hl := (streamErr_zero h1).1
  induction r with
  | zero => simp [sqSum]
  | succ r ih =>
    have hb := classSum_bd h1 h2 d s r xs.length
    have := sq_bd (B := 2304) (a := classSum xs ys d s r xs.length) (by omega) (by omega)
    unfold sqSum
    omega
/-- The sum of the cell of the rate 0 is the lag's. -/
theorem lag_cell {xs ys : List Int} {d s : Int} {t : Nat} (h1 : -32 ≤ d) (h2 : d ≤ 32) (ht : (t : Int) = d + 32) : (cellS xs ys d 0 s).re = ((Lagw.lagCells xs ys 32).getD t (0, 0)).1 ∧ (cellS xs ys d 0 s).im = 0 := by
  have h : ∀ n, n ≤ xs.length → cellSum xs ys d 0 s n = (Lagw.pairSum (Lagw.prodF xs ys) n ys.length d, 0) := by
    intro n
    induction n with
    | zero => intro _; simp [cellSum, Lagw.pairSum, sumR]
    | succ n ih =>
      intro hn
      rw [cellSum, ih (by omega)]
      have e1 : partAt xs ys d 0 s n = (prodAt xs ys d n, 0) := by unfold partAt quartAt; simp [turnG]
      have e2 : Lagw.pairSum (Lagw.prodF xs ys) (n + 1) ys.length d = Lagw.pairSum (Lagw.prodF xs ys) n ys.length d + prodAt xs ys d n := by
        unfold Lagw.pairSum
        rw [sumR_succ, Lagw.inner_one]
        congr 1
        unfold prodAt Lagw.prodF extS
        by_cases h3 : 0 ≤ (n : Int) + d
        · by_cases h4 : (n : Int) + d < ys.length
          · rw [if_pos ⟨h3, h4⟩, if_pos h3]
          · rw [if_neg (by omega), if_pos h3]
            have e5 : ys.getD ((n : Int) + d).toNat 0 = 0 := by rw [List.getD_eq_getElem?_getD, List.getElem?_eq_none (by omega)]; rfl
            rw [e5, Int.mul_zero]
        · rw [if_neg (by omega), if_neg h3, Int.mul_zero]
      rw [e1, e2]
      simp
  have h3 := h xs.length (Nat.le_refl _)
  rw [Lagw.lagCells_at (by omega)]
  have e : (t : Int) - ((32 : Nat) : Int) = d := by omega
  rw [e]
  unfold cellS
  simp only []
  rw [h3]
  exact ⟨rfl, rfl⟩

set_option maxRecDepth 100000 in
set_option maxHeartbeats 8000000 in
theorem searchPowers_walk (A : Option Addr) (c : Nat) (xs : List Int) (B : Option Addr) (d : Nat) (ys : List Int) (dl s : Int) (w : World)
    (hx : RI .i64 w A xs) (hlx : xs.length ≤ 9223372036854775807) (_ : ∀ x ∈ xs, (Lit.int .i64 x).wf = true)
    (hy : RI .i64 w B ys) (hly : ys.length ≤ 9223372036854775807) (_ : ∀ x ∈ ys, (Lit.int .i64 x).wf = true)
    (_ : -9223372036854775808 ≤ dl ∧ dl ≤ 9223372036854775807) (_ : -9223372036854775808 ≤ s ∧ s ≤ 9223372036854775807) :
    Calls Try.prog 9 #[.slice A xs.length c, .slice B ys.length d, .int .i64 dl, .int .i64 s] w fun e w' => e = .returned (.bool true) ∧ Below w.heap.size w w' := by
  rcases (Decidable.em (askErr xs ys s = 0)).symm with he | he
  · have e1 : decide (askErr xs ys s = 0) = false := by simpa using he
    clear he
    go_enter Try.func9, Try.ntmps9
    go_wp2_with fail
    refine (alive20 _).mono ?_
    rintro _ w1 ⟨rfl, hb1⟩
    go_wp2_with fail
    refine (fit20_any _ _ _ _ _ _ _ _ (hx.keep hb1) (hy.keep hb1) hlx hly).mono ?_
    rintro _ _ ⟨rfl, rfl⟩
    go_wp2
    go_ret
    exact ⟨rfl, hb1⟩
  have e1 : decide (askErr xs ys s = 0) = true := by simpa using he
  have HE := Lib.hid he
  obtain ⟨hx1, hy1, hs1, hs2⟩ := askErr_zero he
  have hl5 := (streamErr_zero hx1).1
  have hl6 := (streamErr_zero hy1).1
  have hla : xs.length ≤ 140737488355328 := by omega
  have hlb : ys.length ≤ 140737488355328 := by omega
  have HX := Lib.hid hx1
  have HY := Lib.hid hy1
  clear he hx1 hy1
  rcases (show (-32 ≤ dl ∧ dl ≤ 32) ∨ dl < -32 ∨ (-32 ≤ dl ∧ 32 < dl) by omega).symm with h | h
  · rcases h with h | h
    all_goals
      go_enter Try.func9, Try.ntmps9
      go_wp2_with fail
      refine (alive20 _).mono ?_
      rintro _ w1 ⟨rfl, hb1⟩
      go_wp2_with fail
      refine (fit20_any _ _ _ _ _ _ _ _ (hx.keep hb1) (hy.keep hb1) hlx hly).mono ?_
      rintro _ _ ⟨rfl, rfl⟩
      go_wp2
      go_ret
      exact ⟨rfl, hb1⟩
  obtain ⟨h1, h2⟩ := h
  have z0 : ¬ s = 0 := by omega
  have z1 : (s == 0) = false := by simp [z0]
  go_enter Try.func9, Try.ntmps9
  go_wp2_with fail
  refine (alive20 _).mono ?_
  rintro _ w1 ⟨rfl, hb1⟩
  go_wp2_with fail
  refine (fit20_any _ _ _ _ _ _ _ _ (hx.keep hb1) (hy.keep hb1) hlx hly).mono ?_
  rintro _ _ ⟨rfl, rfl⟩
  go_wp2
  go_loopg [10, 11, 12, 13] 4 (fun gk p i _ _ wr => ∃ r : Nat, r + gk = 4 ∧ i = .int .i64 r ∧ p = .int .i64 (powSum xs ys dl s r) ∧ Below w.heap.size w wr)
  case atStart => exact ⟨0, by omega, rfl, rfl, hb1⟩
  case round =>
    obtain ⟨r, hr, rfl, rfl, hb⟩ := hrel
    have hr' : r ≤ 4 := by omega
    have HR := Lib.hid hr
    clear hr
    have hpb := powSum_bd (d := dl) HE.out r
    by_cases hlt : r < 4
    · have H1 := fun w hx hy => searchAt_any A B c d xs ys dl r s w hx hy hla hlb
      rw [atSpec_ok HE.out (d := dl) (r := r) ⟨by omega, by omega, by omega, by omega⟩] at H1
      have hcb := cell_pw_bd (d := dl) (r := (r : Int)) HE.out
      have HP : Hid (powSum xs ys dl s (r + 1) = powSum xs ys dl s r + (cellS xs ys dl (r : Int) s).pw) := Lib.hid rfl
      generalize hP : powSum xs ys dl s r = P at *
      generalize hC : cellS xs ys dl (r : Int) s = C at *
      clear hP hC
      go_wp2_with fail
      refine (H1 _ (hx.keep hb) (hy.keep hb)).mono ?_
      rintro _ w2 ⟨rfl, hb2⟩
      go_wp2
      go_roundg (gk - 1)
      case rel => exact ⟨r + 1, by have := HR.out; omega, by go_num, by rw [HP.out], balloc (bstep hb hb2) _⟩
      case measure => have := HR.out; omega
    · have hr4 : r = 4 := by omega
      have HR4 := Lib.hid hr4
      clear HR hb1 hr4
      go_wp2
      go_loopg [14, 15, 16, 17] 4 (fun gk p i _ _ wr => ∃ t : Nat, t + gk = 4 ∧ i = .int .i64 t ∧ p = .int .i64 (sqSum xs ys dl s t) ∧ Below w.heap.size w wr)
      case atStart => exact ⟨0, by omega, rfl, rfl, hb⟩
      case round =>
        clear hb
        obtain ⟨t, ht, rfl, rfl, hb⟩ := hrel
        have ht' : t ≤ 4 := by omega
        have HT := Lib.hid ht
        clear ht
        obtain ⟨gu, rfl⟩ : ∃ gu : Nat, gu = gk := ⟨_, rfl⟩
        obtain ⟨wo, rfl⟩ : ∃ wo : World, wo = wr := ⟨_, rfl⟩
        have hqb := sqSum_bd (d := dl) HE.out t
        by_cases hlt : t < 4
        · have dt : decide ((t : Int) < 4) = true := by simp; omega
          go_wp2
          go_loopg [16, 17] xs.length (fun gj v i wr => ∃ k : Nat, k + gj = xs.length ∧ i = .int .i64 k ∧ v = .int .i64 (classSum xs ys dl s t k) ∧ Below w.heap.size w wr)
          case atStart => exact ⟨0, by omega, rfl, rfl, hb⟩
          case round =>
            clear hb
            obtain ⟨k, hk, rfl, rfl, hb⟩ := hrel
            have hk' : k ≤ xs.length := by omega
            have HK := Lib.hid hk
            clear hk
            have hcb := classSum_bd HX.out HY.out dl s t k
            have q1 := quot_bd (k := k) hs1
            by_cases hlt2 : k < xs.length
            · by_cases hp : ((k : Int) / s) % 4 = t
              · have ep : ((k : Int) / s % 4 == (t : Int)) = true := by simp [hp]
                have HP := Lib.hid hp
                clear hp
                rcases (show (0 ≤ (k : Int) + dl ∧ (k : Int) + dl < ys.length) ∨ (k : Int) + dl < 0 ∨ (0 ≤ (k : Int) + dl ∧ (ys.length : Int) ≤ (k : Int) + dl) by omega) with hin | hin
                · obtain ⟨hin1, hin2⟩ := hin
                  have hjn : ((k : Int) + dl).toNat < ys.length := by omega
                  obtain ⟨b1, off1, rfl, hlw1, hw1⟩ := hx.at2 hlt2
                  obtain ⟨b2, off2, rfl, hlw2, hw2⟩ := hy.at2 hjn
                  rw [getD_lt _ _ hlt2] at hw1
                  rw [getD_lt _ _ hjn] at hw2
                  have hc1 := (hb.cell (p := ⟨b1, _, none⟩) hlw1).trans hw1
                  have hc2 := (hb.cell (p := ⟨b2, _, none⟩) hlw2).trans hw2
                  have hpr := prodAt_bd HX.out HY.out dl k
                  have HS : Hid (classSum xs ys dl s t (k + 1) = classSum xs ys dl s t k + xs[k] * ys[((k : Int) + dl).toNat]) := Lib.hid (by rw [classSum, if_pos HP.out, prodAt, getD_lt _ _ hlt2, extS_in hin1 hjn])
                  rw [prodAt, getD_lt _ _ hlt2, extS_in hin1 hjn] at hpr
                  have f1 : IntKind.i64.wrap (xs[k] * ys[((k : Int) + dl).toNat]) = xs[k] * ys[((k : Int) + dl).toNat] := IntWalk.i64_in _ (by omega)
                  have f2 : IntKind.i64.wrap (classSum xs ys dl s t k + xs[k] * ys[((k : Int) + dl).toNat]) = classSum xs ys dl s t k + xs[k] * ys[((k : Int) + dl).toNat] := IntWalk.i64_in _ (by omega)
                  have f3 : IntKind.i64.wrap ((k : Int) + dl) = (k : Int) + dl := IntWalk.i64_in _ (by omega)
                  go_wp2
                  go_quiet (fail)
                  go_wp2
                  go_roundg (gk - 1)
                  case rel => exact ⟨k + 1, by have := HK.out; omega, by go_num, by rw [HS.out], below_drewN hb _⟩
                  case measure => have := HK.out; omega
                · have HS : Hid (classSum xs ys dl s t (k + 1) = classSum xs ys dl s t k) := Lib.hid (by rw [classSum, if_pos HP.out, prodAt, extS_out (by omega), Int.mul_zero, Int.add_zero])
                  rcases hin with hin | hin
                  all_goals
                    go_wp2
                    go_roundg (gk - 1)
                    case rel => exact ⟨k + 1, by have := HK.out; omega, by go_num, by rw [HS.out], hb⟩
                    case measure => have := HK.out; omega
              · have ep : ((k : Int) / s % 4 == (t : Int)) = false := by simp [hp]
                have HS : Hid (classSum xs ys dl s t (k + 1) = classSum xs ys dl s t k) := Lib.hid (by rw [classSum, if_neg hp])
                clear hp
                go_wp2
                go_roundg (gk - 1)
                case rel => exact ⟨k + 1, by have := HK.out; omega, by go_num, by rw [HS.out], hb⟩
                case measure => have := HK.out; omega
            · obtain rfl : k = xs.length := by omega
              have HS : Hid (sqSum xs ys dl s (t + 1) = sqSum xs ys dl s t + classSum xs ys dl s t xs.length * classSum xs ys dl s t xs.length) := Lib.hid rfl
              have sb := sq_bd (B := 2304) (a := classSum xs ys dl s t xs.length) (by omega) (by omega)
              generalize hQ : sqSum xs ys dl s t = Q at *
              generalize hC : classSum xs ys dl s t xs.length = C at *
              clear hQ hC
              go_wp2
              go_roundg (gu - 1)
              case rel => exact ⟨t + 1, by have := HT.out; omega, by go_num, by rw [HS.out], hb⟩
              case measure => have := HT.out; omega
        · obtain rfl : t = 4 := by omega
          clear hlt ht' HT
          have hlaw := power_law xs ys dl s
          have t1 : (powSum xs ys dl s r == 4 * sqSum xs ys dl s 4) = true := by rw [HR4.out]; simp [hlaw]
          clear hlaw
          have H1 := fun w hx hy => Lagw.lagOf_any A B c d xs ys 32 w hx hy hla hlb
          rw [show (32 : Int) = ((32 : Nat) : Int) from rfl, Lagw.ofSpec_ok HX.out HY.out (by omega)] at H1
          have H2 := fun w hx hy => searchAt_any A B c d xs ys dl 0 s w hx hy hla hlb
          rw [atSpec_ok HE.out (d := dl) (r := 0) ⟨by omega, by omega, by omega, by omega⟩] at H2
          obtain ⟨k1, k2⟩ := lag_cell (xs := xs) (ys := ys) (s := s) (t := (dl + 32).toNat) h1 h2 (by omega)
          have hlen : (Lagw.lagCells xs ys 32).length = 65 := Lagw.lagCells_len _ _ _
          obtain ⟨C, hC⟩ : ∃ C, C = cellS xs ys dl 0 s := ⟨_, rfl⟩
          rw [← hC] at H2 k1 k2
          clear hC
          obtain ⟨L, hL⟩ : ∃ L, L = Lagw.lagCells xs ys 32 := ⟨_, rfl⟩
          rw [← hL] at H1 k1 hlen
          clear hL
          have t2 : (C.re == (L.getD (dl + 32).toNat (0, 0)).1) = true := by simp [k1]
          have t3 : (C.im == 0) = true := by simp [k2]
          clear k1 k2
          have hjn : (dl + 32).toNat < L.length := by omega
          rw [getD_lt _ _ hjn] at t2
          have HL := Lib.hid hlen
          clear hlen
          generalize hP : powSum xs ys dl s r = P at *
          generalize hQ : sqSum xs ys dl s 4 = Q at *
          clear hP hQ
          go_wp2_with fail
          refine (H1 _ (hx.keep hb) (hy.keep hb)).mono ?_
          rintro _ w2 ⟨A2, c2, rfl, ho2, hb2⟩
          simp only [] at ho2
          have rL := own_RL ho2
          have hB2 := bstep hb hb2
          clear hb2 hb ho2 H1
          go_wp2_with fail
          refine (H2 _ (hx.keep hB2) (hy.keep hB2)).mono ?_
          rintro _ w3 ⟨rfl, hb3⟩
          have hB3 := balloc (bstep hB2 hb3) (.cells #[.int .i64 C.d, .int .i64 C.r, .int .i64 C.re, .int .i64 C.im, .int .i64 C.pw] 32)
          obtain ⟨b2, off2, rfl, hlw2, hw2, hw3⟩ := (rL.keep hb3).at_ hjn
          rw [getD_lt _ _ hjn] at hw2
          rw [HL.out]
          clear hb3 hB2 H2 rL hw3
          have g1 := eqg_gauss
          have g2 := eq_gauss
          have f1 : IntKind.i64.wrap (4 * Q) = 4 * Q := IntWalk.i64_in _ (by omega)
          have f3 : IntKind.i64.wrap (dl + 32) = dl + 32 := IntWalk.i64_in _ (by omega)
          have f4 : 0 ≤ dl + 32 := by omega
          have f5 : (dl + 32).toNat < 65 := by omega
          go_wp2
          go_quiet (fail)
          go_wp2
          go_ret
          exact ⟨by simp, below_drewN hB3 _⟩
end Go.Proofs.Ytnejmgnbamajdaa
