/-
  CrossPieces: plain, and the walk.
-/
import Derived.Test.YtcpmpfnickhojaaCrL
namespace Go.Proofs.Ytcpmpfnickhojaa
open Go.RowKit Num Dft
set_option linter.unusedVariables false
set_option linter.unusedSimpArgs false
namespace Crs
open Lol

theorem pcF_small {xs : List Int} (h : xs.length ≤ 32) (k : Nat) : pcF xs 0 k = xs.getD k 0 := by
  unfold pcF
  split
  · rw [Nat.mul_zero, Nat.zero_add]
  · rename_i h2
    exact (getD_out (by omega)).symm
theorem cor_lag {xs ys : List Int} (hx : xs.length ≤ 32) (hy : ys.length ≤ 32) {k t : Nat} (hk : k < 64) (h : lagI k 0 = (t : Int) - 31) : corF 64 (fun k => xs.getD k 0) (fun k => ys.getD k 0) k = lgF xs ys 31 t := by
  have e1 : corF 64 (fun k => xs.getD k 0) (fun k => ys.getD k 0) k = corF 64 (pcF xs 0) (pcF ys 0) k := by
    unfold corF
    refine S_congr fun u _ => ?_
    simp only [pcF_small hx, pcF_small hy]
  rw [e1, cor_piece (i := 0) (j := 0) (b := 0) hk h rfl]
  unfold lgF
  have e2 : S (fun u => xs.getD (32 * 0 + u) 0 * (if 0 ≤ (u : Int) + ((t : Int) - 31) - 32 * 0 ∧ (u : Int) + ((t : Int) - 31) - 32 * 0 < 32 then yI ys (32 * ((0 : Nat) : Int) + u + ((t : Int) - 31)) else 0)) 32 = S (fun u => xs.getD u 0 * yI ys ((u : Int) + ((t : Int) - ((31 : Nat) : Int)))) 32 := by
    refine S_congr fun u _ => ?_
    rw [Nat.mul_zero, Nat.zero_add]
    congr 1
    have e3 : 32 * ((0 : Nat) : Int) + u + ((t : Int) - 31) = (u : Int) + ((t : Int) - ((31 : Nat) : Int)) := by omega
    rw [e3]
    by_cases hz : yI ys ((u : Int) + ((t : Int) - ((31 : Nat) : Int))) = 0
    · rw [hz]; split <;> rfl
    · obtain ⟨h1, h2⟩ := yI_in hz
      rw [if_pos (by omega)]
  rw [e2]
  exact S_past hx fun u h1 _ => by rw [getD_out h1, Int.zero_mul]
theorem cor_32 {xs ys : List Int} (hx : xs.length ≤ 32) (hy : ys.length ≤ 32) : corF 64 (fun k => xs.getD k 0) (fun k => ys.getD k 0) 32 = 0 := by
  unfold corF
  refine S_null fun u hu => ?_
  simp only
  by_cases h : u < 32
  · rw [Nat.mod_eq_of_lt (show u + 32 < 64 by omega), getD_out (xs := ys) (by omega), Int.mul_zero]
  · rw [getD_out (xs := xs) (by omega), Int.zero_mul]
theorem cor_sq {xs : List Int} (hx : xs.length ≤ 32) : corF 64 (fun k => xs.getD k 0) (fun k => xs.getD k 0) 0 = S (fun u => xs.getD u 0 * xs.getD u 0) xs.length := by
  unfold corF
  rw [S_congr (g := fun u => xs.getD u 0 * xs.getD u 0) (fun u hu => by rw [Nat.add_zero, Nat.mod_eq_of_lt hu])]
  exact S_past (by omega) fun u h1 _ => by rw [getD_out h1, Int.zero_mul]
theorem lagCells_lg (xs ys : List Int) {t : Nat} (ht : t < 63) : ((Lagw.lagCells xs ys 31).getD t (0, 0)).1 = lgF xs ys 31 t := by
  rw [Lagw.lagCells_at (by omega), lg_pair]
theorem sq_bd {xs : List Int} (h : streamErr xs = 0) (k : Nat) (hk : k ≤ 32) : 0 ≤ S (fun u => xs.getD u 0 * xs.getD u 0) k ∧ S (fun u => xs.getD u 0 * xs.getD u 0) k ≤ 288 := by
  have h1 : ∀ n, 0 ≤ S (fun u => xs.getD u 0 * xs.getD u 0) n ∧ S (fun u => xs.getD u 0 * xs.getD u 0) n ≤ 9 * n := by
    intro n
    induction n with
    | zero => simp [S]
    | succ n ih =>
      have h2 := prod_9 h h n n
      have h3 : 0 ≤ xs.getD n 0 * xs.getD n 0 := by
        rcases Lagw.stream_at h n with e | e | e | e | e <;> rw [e] <;> decide
      rw [S]
      omega
  have := h1 k
  omega
set_option maxRecDepth 100000 in
set_option maxHeartbeats 8000000 in
theorem crossPieces_main (A : Option Addr) (c : Nat) (xs : List Int) (B : Option Addr) (d : Nat) (ys : List Int) (w : World)
    (hx : RI .i64 w A xs) (hlx : xs.length ≤ 9223372036854775807) (hy : RI .i64 w B ys) (hly : ys.length ≤ 9223372036854775807) (hf : fit17 xs = true) (hf2 : fit17 ys = true) (h32 : xs.length ≤ 32) (h33 : ys.length ≤ 32) :
    Calls Try.prog 8 #[.slice A xs.length c, .slice B ys.length d] w fun e w' => e = .returned (.bool true) ∧ Below w.heap.size w w' := by
  have he := fit17_yes hf
  have he2 := fit17_yes hf2
  have d1 : decide (32 < xs.length) = false := decide_eq_false (by omega)
  have d2 : decide (32 < ys.length) = false := decide_eq_false (by omega)
  have H1 := fun w hx => spectrum_w A c xs w he h32 hx
  have H2 := fun w hx => spectrum_w B d ys w he2 h33 hx
  have H3 := fun A B c d w hx hy => product_w A B c d (spcL xs) (spcL ys) w (sp_spc _) (sp_spc _) hx hy
  have H3' := fun A c w hx => product_w A A c c (spcL xs) (spcL xs) w (sp_spc _) (sp_spc _) hx hx
  rw [spcL_len, spcL_len] at H3
  rw [spcL_len] at H3'
  have H4 := fun A c w hx => values_w A c (prdL (spcL xs) (spcL ys)) _ w (sp_prd _ _) (pair_val (prod_9 he he2)) hx
  have H5 := fun A c w hx => values_w A c (prdL (spcL xs) (spcL xs)) _ w (sp_prd _ _) (pair_val (prod_9 he he)) hx
  have e31 : Lagw.ofSpec xs ys 31 = (Lagw.lagCells xs ys 31, 0) := Lagw.ofSpec_ok he he2 (m := 31) (by omega)
  have H6 : ∀ w, RI .i64 w A xs → RI .i64 w B ys → Calls Try.prog 29 #[.slice A xs.length c, .slice B ys.length d, .int .i64 31] w (fun e w' => ∃ A' c', e = .returned (.tuple #[.slice A' 63 c', .int .i64 0]) ∧ RL w' A' (Lagw.lagCells xs ys 31) ∧ Below w.heap.size w w') := by
    intro w hx hy
    refine (Lagw.lagOf_any A B c d xs ys 31 w hx hy (by omega) (by omega)).mono ?_
    rw [e31]
    rintro e w' ⟨A', c', rfl, ho, hb⟩
    have hl : (Lagw.lagCells xs ys 31).length = 63 := Lagw.lagCells_len xs ys 31
    rw [hl] at ho
    exact ⟨A', c', by rw [hl], own_RL_at hl ho, hb⟩
  have HV := Lib.hid (fun k (hk : k < 64) => fullL_getD (corF 64 (fun k => xs.getD k 0) (fun k => ys.getD k 0)) 64 k 0 hk)
  have HW := Lib.hid (fullL_getD (corF 64 (fun k => xs.getD k 0) (fun k => xs.getD k 0)) 64 0 0 (by omega))
  have HLV := Lib.hid (fullL_len (corF 64 (fun k => xs.getD k 0) (fun k => ys.getD k 0)) 64)
  have HLW := Lib.hid (fullL_len (corF 64 (fun k => xs.getD k 0) (fun k => xs.getD k 0)) 64)
  have HC := Lib.hid (fun k t (hk : k < 64) h => cor_lag (k := k) (t := t) h32 h33 hk h)
  have HC32 := Lib.hid (cor_32 h32 h33)
  have HSQ := Lib.hid (cor_sq h32)
  have HLG := Lib.hid (fun t (ht : t < 63) => lagCells_lg xs ys ht)
  have HLL := Lib.hid (Lagw.lagCells_len xs ys 31)
  have HST := Lib.hid (fun k => sq_bd he k)
  have H9 := Lib.hid (prod_9 he he)
  generalize fullL (corF 64 (fun k => xs.getD k 0) (fun k => ys.getD k 0)) 64 = V at *
  generalize fullL (corF 64 (fun k => xs.getD k 0) (fun k => xs.getD k 0)) 64 = W2 at *
  generalize prdL (spcL xs) (spcL ys) = P1 at *
  generalize prdL (spcL xs) (spcL xs) = P2 at *
  generalize Lagw.lagCells xs ys 31 = LC at *
  clear he he2 e31
  go_enter Try.func8, Try.ntmps8
  go_wp2_with fail
  refine (alive17 _).mono ?_
  rintro _ w1 ⟨rfl, hb1⟩
  go_wp2_with fail
  refine (fit17_any _ _ _ _ (hx.keep hb1) hlx).mono ?_
  rintro _ _ ⟨rfl, rfl⟩
  rw [hf]
  go_wp2_with fail
  refine (fit17_any _ _ _ _ (hy.keep hb1) hly).mono ?_
  rintro _ _ ⟨rfl, rfl⟩
  rw [hf2]
  clear hf hf2
  go_wp2_with fail
  refine (H1 _ (hx.keep hb1)).mono ?_
  rintro _ w2 ⟨A2, c2, rfl, r2', _, hb2⟩
  have r2 := r2'.ri
  have hB2 := bstep hb1 hb2
  clear r2' hb1 hb2 H1
  go_wp2_with fail
  refine (H2 _ (hy.keep hB2)).mono ?_
  rintro _ w3 ⟨A3, c3, rfl, r3', _, hb3⟩
  have r3 := r3'.ri
  have hB3 := bstep hB2 hb3
  replace r2 := r2.keep hb3
  clear r3' hb3 hB2 H2
  go_wp2_with fail
  refine (H3 _ _ _ _ _ r2 r3).mono ?_
  rintro _ w4 ⟨A4, c4, rfl, r4', hb4⟩
  have r4 := r4'.ri
  have hB4 := bstep hB3 hb4
  replace r2 := r2.keep hb4
  clear r4' hb4 hB3 H3 r3
  go_wp2_with fail
  refine (H3' _ _ _ r2).mono ?_
  rintro _ w5 ⟨A5, c5, rfl, r5', hb5⟩
  have r5 := r5'.ri
  have hB5 := bstep hB4 hb5
  replace r4 := r4.keep hb5
  clear r5' hb5 hB4 H3' r2
  go_wp2_with fail
  refine (H4 _ _ _ r4).mono ?_
  rintro _ w6 ⟨A6, c6, rfl, r6', hb6⟩
  have r6 := r6'.ri
  have hB6 := bstep hB5 hb6
  replace r5 := r5.keep hb6
  clear r6' hb6 hB5 H4 r4
  go_wp2_with fail
  refine (H5 _ _ _ r5).mono ?_
  rintro _ w7 ⟨A7, c7, rfl, r7', hb7⟩
  have r7 := r7'.ri
  have hB7 := bstep hB6 hb7
  replace r6 := r6.keep hb7
  clear r7' hb7 hB6 H5 r5
  go_wp2_with fail
  refine (H6 _ (hx.keep hB7) (hy.keep hB7)).mono ?_
  rintro _ w8 ⟨A8, c8, rfl, r8, hb8⟩
  have hB8 := bstep hB7 hb8
  replace r6 := r6.keep hb8
  replace r7 := r7.keep hb8
  have rx := hx.keep hB8
  clear hb8 hB7 H6
  obtain ⟨b6, o6, rfl, l6, h6⟩ := r6.at2 (i := 32) (by rw [HLV.out]; omega)
  obtain ⟨b7, o7, rfl, l7, h7⟩ := r7.at2 (i := 0) (by rw [HLW.out]; omega)
  rw [HV.out 32 (by omega), HC32.out] at h6
  rw [HW.out, HSQ.out, Nat.add_zero] at h7
  go_wp2
  go_loopg [20] 63 (fun gk i wr => ∃ (k q : Nat), k + gk = 63 ∧ i = .int .i64 ((k : Int) - 31) ∧ wr = w8.drewN q)
  case atStart => exact ⟨0, 0, by omega, by simp, rfl⟩
  case round =>
    obtain ⟨k, q, hk, rfl, rfl⟩ := hrel
    have hk' : k ≤ 63 := by omega
    have HK := Lib.hid hk
    clear hk
    obtain ⟨N, hN⟩ : ∃ N, N = (k : Int) - 31 := ⟨_, rfl⟩
    rw [← hN]
    by_cases hlt : k < 63
    · have d3 : decide (N ≤ 31) = true := decide_eq_true (by omega)
      obtain ⟨m, hm⟩ : ∃ m : Nat, (m : Int) = (N + 64) % 64 := ⟨((N + 64) % 64).toNat, by omega⟩
      have hm64 : m < 64 := by omega
      have f1 : IntKind.i64.wrap (N + 64) = N + 64 := IntWalk.i64_in _ (by omega)
      have f2 : (N + 64) % 64 = (m : Int) := hm.symm
      have f3 : (N + 64).tmod 64 = (m : Int) := by rw [Int.tmod_eq_emod_of_nonneg (by omega)]; exact f2
      have f4 : IntKind.i64.wrap (N + 31) = (k : Int) := by rw [IntWalk.i64_in _ (by omega)]; omega
      have hlg : lagI m 0 = (k : Int) - 31 := by
        unfold lagI
        split <;> omega
      obtain ⟨b6', o6', e6, _, h6'⟩ := r6.at2 (i := m) (by rw [HLV.out]; exact hm64)
      obtain ⟨rfl, rfl⟩ : b6 = b6' ∧ o6 = o6' := by injection e6 with e6; injection e6 with e5 e6; exact ⟨e5, e6⟩
      obtain ⟨b8, o8, rfl, _, h8, _⟩ := r8.at_ (i := k) (by rw [HLL.out]; exact hlt)
      rw [HV.out m hm64, HC.out m k hm64 hlg] at h6'
      rw [HLG.out k hlt] at h8
      have g0 : N + 1 = ((k + 1 : Nat) : Int) - 31 := by omega
      have G0 := Lib.hid g0
      have hvv : (lgF xs ys 31 k != lgF xs ys 31 k) = false := by simp
      have hNb : -31 ≤ N ∧ N ≤ 31 := by omega
      clear e6 hlg hm hN g0
      go_wp2
      go_quiet (fail)
      go_wp2
      go_roundg (gk - 1)
      case rel => exact ⟨k + 1, _, by have := HK.out; omega, by rw [G0.out], rfl⟩
      case measure => have := HK.out; omega
    · have d3 : decide (N ≤ 31) = false := decide_eq_false (by omega)
      clear hN h6
      obtain ⟨wz, hwz⟩ : ∃ wz, wz = w8.drewN q := ⟨_, rfl⟩
      have hBz : Below w.heap.size w wz := by rw [hwz]; exact below_drewN hB8 q
      have hbz : Below w8.heap.size w8 wz := by rw [hwz]; exact below_drewN (Below.refl _ _) q
      have rxz := rx.keep hbz
      have h7z := (hbz.cell (p := ⟨b7, o7, none⟩) l7).trans h7
      rw [← hwz]
      clear hwz h7 hB8 rx r8 r6 r7 hbz
      go_wp2
      go_loopg [21, 22] xs.length (fun gk s i wr => ∃ (k q : Nat), k + gk = xs.length ∧ i = .int .i64 k ∧ s = .int .i64 (S (fun u => xs.getD u 0 * xs.getD u 0) k) ∧ wr = wz.drewN q)
      case atStart => exact ⟨0, 0, by omega, rfl, rfl, rfl⟩
      case round =>
        obtain ⟨k, q, hk, rfl, rfl, rfl⟩ := hrel
        have hk' : k ≤ xs.length := by omega
        have HK := Lib.hid hk
        clear hk
        have hsb := HST.out k (by omega)
        by_cases hlt : k < xs.length
        · obtain ⟨b1, o1, rfl, _, h1⟩ := rxz.at2 hlt
          have HSS := Lib.hid (show S (fun u => xs.getD u 0 * xs.getD u 0) (k + 1) = S (fun u => xs.getD u 0 * xs.getD u 0) k + xs.getD k 0 * xs.getD k 0 from rfl)
          have h9 := H9.out k k
          generalize S (fun u => xs.getD u 0 * xs.getD u 0) k = T at *
          generalize xs.getD k 0 = X at *
          obtain ⟨Z, hZ⟩ : ∃ Z, Z = X * X := ⟨_, rfl⟩
          have f1 : IntKind.i64.wrap (X * X) = Z := by rw [IntWalk.i64_in _ (by omega), hZ]
          rw [← hZ] at HSS h9
          have f2 : IntKind.i64.wrap (T + Z) = T + Z := IntWalk.i64_in _ (by omega)
          clear hZ
          go_wp2
          go_quiet (fail)
          go_wp2
          go_roundg (gk - 1)
          case rel => exact ⟨k + 1, _, by have := HK.out; omega, by go_num, by rw [HSS.out], rfl⟩
          case measure => have := HK.out; omega
        · obtain rfl : k = xs.length := by omega
          have hee : (S (fun u => xs.getD u 0 * xs.getD u 0) xs.length == S (fun u => xs.getD u 0 * xs.getD u 0) xs.length) = true := by simp
          go_wp2
          go_ret
          exact ⟨rfl, below_drewN hBz _⟩
set_option maxRecDepth 100000 in
set_option maxHeartbeats 2000000 in
theorem crossPieces_walk (A : Option Addr) (c : Nat) (xs : List Int) (B : Option Addr) (d : Nat) (ys : List Int) (w : World)
    (hx : RI .i64 w A xs) (hlx : xs.length ≤ 9223372036854775807) (_ : ∀ x ∈ xs, (Lit.int .i64 x).wf = true)
    (hy : RI .i64 w B ys) (hly : ys.length ≤ 9223372036854775807) (_ : ∀ x ∈ ys, (Lit.int .i64 x).wf = true) :
    Calls Try.prog 8 #[.slice A xs.length c, .slice B ys.length d] w fun e w' => e = .returned (.bool true) ∧ Below w.heap.size w w' := by
  cases hf : fit17 xs with
  | false =>
    go_enter Try.func8, Try.ntmps8
    go_wp2_with fail
    refine (alive17 _).mono ?_
    rintro _ w1 ⟨rfl, hb1⟩
    go_wp2_with fail
    refine (fit17_any _ _ _ _ (hx.keep hb1) hlx).mono ?_
    rintro _ _ ⟨rfl, rfl⟩
    rw [hf]
    go_wp2
    go_ret
    exact ⟨rfl, hb1⟩
  | true =>
    cases hf2 : fit17 ys with
    | false =>
      go_enter Try.func8, Try.ntmps8
      go_wp2_with fail
      refine (alive17 _).mono ?_
      rintro _ w1 ⟨rfl, hb1⟩
      go_wp2_with fail
      refine (fit17_any _ _ _ _ (hx.keep hb1) hlx).mono ?_
      rintro _ _ ⟨rfl, rfl⟩
      rw [hf]
      go_wp2_with fail
      refine (fit17_any _ _ _ _ (hy.keep hb1) hly).mono ?_
      rintro _ _ ⟨rfl, rfl⟩
      rw [hf2]
      go_wp2
      go_ret
      exact ⟨rfl, hb1⟩
    | true =>
      by_cases h32 : xs.length ≤ 32
      · by_cases h33 : ys.length ≤ 32
        · exact crossPieces_main A c xs B d ys w hx hlx hy hly hf hf2 h32 h33
        · have d1 : decide (32 < xs.length) = false := decide_eq_false (by omega)
          have d2 : decide (32 < ys.length) = true := decide_eq_true (by omega)
          go_enter Try.func8, Try.ntmps8
          go_wp2_with fail
          refine (alive17 _).mono ?_
          rintro _ w1 ⟨rfl, hb1⟩
          go_wp2_with fail
          refine (fit17_any _ _ _ _ (hx.keep hb1) hlx).mono ?_
          rintro _ _ ⟨rfl, rfl⟩
          rw [hf]
          go_wp2_with fail
          refine (fit17_any _ _ _ _ (hy.keep hb1) hly).mono ?_
          rintro _ _ ⟨rfl, rfl⟩
          rw [hf2]
          go_wp2
          go_ret
          exact ⟨rfl, hb1⟩
      · have d1 : decide (32 < xs.length) = true := decide_eq_true (by omega)
        go_enter Try.func8, Try.ntmps8
        go_wp2_with fail
        refine (alive17 _).mono ?_
        rintro _ w1 ⟨rfl, hb1⟩
        go_wp2_with fail
        refine (fit17_any _ _ _ _ (hx.keep hb1) hlx).mono ?_
        rintro _ _ ⟨rfl, rfl⟩
        rw [hf]
        go_wp2_with fail
        refine (fit17_any _ _ _ _ (hy.keep hb1) hly).mono ?_
        rintro _ _ ⟨rfl, rfl⟩
        rw [hf2]
        go_wp2
        go_ret
        exact ⟨rfl, hb1⟩
end Crs
end Go.Proofs.Ytcpmpfnickhojaa
