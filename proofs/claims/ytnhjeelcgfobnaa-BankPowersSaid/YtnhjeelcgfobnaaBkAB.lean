/-
  Layer 12 (bank): the walk of BankPowers.
-/
import Derived.Test.YtnhjeelcgfobnaaBkZ
namespace Go.Proofs.Ytnhjeelcgfobnaa
open Go.RowKit Num Dft
set_option maxRecDepth 8000
set_option linter.unusedVariables false
set_option linter.unusedSimpArgs false
namespace Bk
open Lol Crs

/-- One product. -/
def prd (N : Nat) (s u : List Int) (lag t k : Nat) : Int := s.getD (t * N + (k + lag) % N) 0 * u.getD (t * N + k) 0
theorem prd_smp (N : Nat) (s u : List Int) (lag t k : Nat) : prd N s u lag t k = smp N u t k * smp N s t ((k + lag) % N) := Int.mul_comm _ _
theorem S_prd (N : Nat) (s u : List Int) (lag t : Nat) : S (fun k => prd N s u lag t k) N = corF N (smp N u t) (smp N s t) lag := by
  unfold corF
  exact S_congr fun k _ => prd_smp N s u lag t k
theorem prd_bd {P N : Nat} {s u : List Int} (h : Strm P N s) (h' : Strm P N u) (lag t k : Nat) : -9 ≤ prd N s u lag t k ∧ prd N s u lag t k ≤ 9 := by
  have h1 := smp_bd h' t k
  have h2 := smp_bd h t ((k + lag) % N)
  rw [prd_smp]
  generalize smp N u t k = a at *
  generalize smp N s t ((k + lag) % N) = b at *
  obtain ⟨a1, a2⟩ := h1
  obtain ⟨b1, b2⟩ := h2
  have c1 : 0 ≤ (3 - a) * (3 - b) := Int.mul_nonneg (by omega) (by omega)
  have c2 : 0 ≤ (3 + a) * (3 + b) := Int.mul_nonneg (by omega) (by omega)
  have c3 : 0 ≤ (3 - a) * (3 + b) := Int.mul_nonneg (by omega) (by omega)
  have c4 : 0 ≤ (3 + a) * (3 - b) := Int.mul_nonneg (by omega) (by omega)
  rw [Int.sub_mul, Int.mul_sub, Int.mul_sub] at c1
  rw [Int.add_mul, Int.mul_add, Int.mul_add] at c2
  rw [Int.sub_mul, Int.mul_add, Int.mul_add] at c3
  rw [Int.add_mul, Int.mul_sub, Int.mul_sub] at c4
  omega
theorem S_bd9 {f : Nat → Int} (hf : ∀ k, -9 ≤ f k ∧ f k ≤ 9) : ∀ n : Nat, -(9 * (n : Int)) ≤ S f n ∧ S f n ≤ 9 * (n : Int) := by
  intro n
  have := S_bd (f := f) (n := n) (b := 9) (fun j _ => hf j)
  omega
theorem S2_bd {f : Nat → Nat → Int} (hf : ∀ t k, -9 ≤ f t k ∧ f t k ≤ 9) (n N : Nat) : -(9 * ((n * N : Nat) : Int)) ≤ S (fun t => S (f t) N) n ∧ S (fun t => S (f t) N) n ≤ 9 * ((n * N : Nat) : Int) := by
  have h1 : ∀ t, t < n → -(9 * (N : Int)) ≤ S (f t) N ∧ S (f t) N ≤ 9 * (N : Int) := fun t _ => S_bd9 (hf t) N
  have := S_bd (f := fun t => S (f t) N) (n := n) (b := 9 * (N : Int)) h1
  have e : (n : Int) * (9 * (N : Int)) = 9 * ((n * N : Nat) : Int) := by rw [Int.natCast_mul]; exact Int.mul_left_comm _ _ _
  rw [e] at this
  exact this
set_option maxRecDepth 20000 in
set_option maxHeartbeats 4000000 in
theorem back_w (P : Nat) (l L : List Int) (m k : Nat) (hr : bkS (P : Int) l = (L, 0)) (hm : l.length = m) (hk : L.length = k) (hp1 : -9223372036854775808 ≤ (P : Int)) (hp2 : (P : Int) ≤ 9223372036854775807) (hl : m ≤ 1000) (A : Option Addr) (c : Nat) (w : World) (hx : RI .i64 w A l) :
    Calls Try.prog 30 #[.int .i64 (P : Int), .slice A m c] w fun e w' => ∃ A c, e = .returned (.tuple #[.slice A k c, .int .i64 0]) ∧ RI .i64 w' A L ∧ Below w.heap.size w w' := by
  subst hm
  exact (back_any (P : Int) A c l w hx (by omega) hp1 hp2).mono fun _ _ h => fe_w h hr hk
theorem S_all_bd {f : Nat → Nat → Int} (hf : ∀ t k, -9 ≤ f t k ∧ f t k ≤ 9) {n N k : Nat} (hn : n ≤ 256) (hN : N ≤ 16) (hk : k ≤ 16) : -40000 ≤ S (fun t => S (f t) N) n + S (f n) k ∧ S (fun t => S (f t) N) n + S (f n) k ≤ 40000 := by
  have h1 := S2_bd hf n N
  have h2 := S_bd9 (hf n) k
  have h3 : n * N ≤ 256 * 16 := Nat.mul_le_mul hn hN
  omega
theorem bl_rem {P : Nat} {x : Int} (h : 1 ≤ P) : (x.tmod (P : Int) + (P : Int)).tmod (P : Int) = x % (P : Int) := by
  have h1 := tmod_cases x h
  have h2 := emod_bd x h
  rcases h1 with ⟨h3, h4⟩ | ⟨h3, h4⟩
  · rw [Int.tmod_eq_emod_of_nonneg (by omega), Int.add_emod_right, h4, Int.emod_emod_of_dvd _ (Int.dvd_refl _)]
  · rw [Int.tmod_eq_emod_of_nonneg (by omega), Int.emod_eq_of_lt (by omega) (by omega), h4]
set_option maxRecDepth 20000 in
set_option maxHeartbeats 4000000 in
theorem bankPowers_walk (p n : Int) (A : Option Addr) (cs : Nat) (s : List Int) (B : Option Addr) (cu : Nat) (u : List Int) (w : World)
    (hp : -9223372036854775808 ≤ p ∧ p ≤ 9223372036854775807) (_ : -9223372036854775808 ≤ n ∧ n ≤ 9223372036854775807)
    (hs : RI .i64 w A s) (hls : s.length ≤ 9223372036854775807) (_ : ∀ x ∈ s, (Lit.int .i64 x).wf = true) (hcs : s.length ≤ cs)
    (hu : RI .i64 w B u) (hlu : u.length ≤ 9223372036854775807) (_ : ∀ x ∈ u, (Lit.int .i64 x).wf = true) (hcu : u.length ≤ cu) :
    Calls Try.prog 7 #[.int .i64 p, .int .i64 n, .slice A s.length cs, .slice B u.length cu] w fun e w' => e = .returned (.bool true) ∧ Below w.heap.size w w' := by
  have HF1 := Lib.hid (fun w hs => fit12_any p n A cs s w hp.1 hp.2 hs)
  have HF2 := Lib.hid (fun w hs => fit12_any p n B cu u w hp.1 hp.2 hs)
  cases hf1 : fitB p n s
  · rw [hf1] at HF1
    go_enter Try.func7, Try.ntmps7
    go_wp2_with fail
    refine (HF1.out _ hs).mono ?_
    rintro _ w1 ⟨rfl, hb1⟩
    go_wp2_with fail
    refine (alive12 _).mono ?_
    rintro _ w3 ⟨rfl, hb3⟩
    go_wp2
    go_ret
    exact ⟨rfl, bstep hb1 hb3⟩
  rw [hf1] at HF1
  cases hf2 : fitB p n u
  · rw [hf2] at HF2
    go_enter Try.func7, Try.ntmps7
    go_wp2_with fail
    refine (HF1.out _ hs).mono ?_
    rintro _ w1 ⟨rfl, hb1⟩
    go_wp2_with fail
    refine (HF2.out _ (hu.keep hb1)).mono ?_
    rintro _ w2 ⟨rfl, hb2⟩
    go_wp2_with fail
    refine (alive12 _).mono ?_
    rintro _ w3 ⟨rfl, hb3⟩
    go_wp2
    go_ret
    exact ⟨rfl, bstep (bstep hb1 hb2) hb3⟩
  rw [hf2] at HF2
  by_cases hl : s.length = u.length
  · have e1 : ((s.length : Int) != (u.length : Int)) = false := by simp [hl]
    by_cases h0 : s.length = 0
    · have e2 : ((s.length : Int) == 0) = true := by rw [h0]; rfl
      have e2' : (s.length == 0) = true := by rw [h0]; rfl
      clear h0 hl
      go_enter Try.func7, Try.ntmps7
      go_wp2_with fail
      refine (HF1.out _ hs).mono ?_
      rintro _ w1 ⟨rfl, hb1⟩
      go_wp2_with fail
      refine (HF2.out _ (hu.keep hb1)).mono ?_
      rintro _ w2 ⟨rfl, hb2⟩
      go_wp2_with fail
      refine (alive12 _).mono ?_
      rintro _ w3 ⟨rfl, hb3⟩
      go_wp2
      go_ret
      exact ⟨rfl, bstep (bstep hb1 hb2) hb3⟩
    · have e2 : ((s.length : Int) == 0) = false := by rw [beq_eq_false_iff_ne]; omega
      have e2' : (s.length == 0) = false := by rw [beq_eq_false_iff_ne]; omega
      obtain ⟨h128, P, N, rfl, rfl, hS⟩ := fit_yes hf1
      obtain ⟨_, P', N', eP, eN, hU⟩ := fit_yes hf2
      obtain rfl : P = P' := by omega
      obtain rfl : N = N' := by omega
      have hn1 := hS.n1
      have hn16 := hS.n16
      have h7 := hS.h7
      have hP2 := hS.le
      have hMN := hS.mul
      have hl1 := splitL_len P N s
      have hl2 : (splitL P N u).length = s.length / N := by rw [splitL_len, hl]
      have HS1 := Lib.hid (split_w P N s (splitL P N s) 0 s.length (s.length / N) (split_ok hS) rfl hl1 hp.1 hp.2 (by omega))
      have HS2 := Lib.hid (split_w P N u (splitL P N u) 0 u.length (s.length / N) (split_ok hU) rfl hl2 hp.1 hp.2 (by omega))
      have hpw := pow_split hS hU hl (by omega)
      have hpb := pow_back hS hU hl (by omega)
      rw [hpw] at hpb
      have HPW := Lib.hid (power_w P (splitL P N s) (splitL P N u) _ 0 (s.length / N) (s.length / N) N hpw hl1 hl2 (fullL_len _ _) hp.1 hp.2)
      have HBK := Lib.hid (back_w P _ _ N N hpb (fullL_len _ _) (resL_len _ _ _) hp.1 hp.2 (by omega))
      have HRS : Hid (∀ lag, lag < N → (resL P N (fun m => S (fun i => corF N (smp N u i) (smp N s i) m) (s.length / N))).getD lag 0 = S (fun t => S (fun k => prd N s u lag t k) N) (s.length / N) % (P : Int)) := Lib.hid (fun lag h => by
        rw [resL_at P _ h]
        congr 1
        exact S_congr fun t _ => (S_prd N s u lag t).symm)
      have HRL := Lib.hid (resL_len P N (fun m => S (fun i => corF N (smp N u i) (smp N s i) m) (s.length / N)))
      have HBD := Lib.hid (fun lag t k => prd_bd hS hU lag t k)
      have hM256 : s.length / N ≤ 256 := by have := Nat.div_le_self s.length N; omega
      have hz1 : ((N : Int) == 0) = false := by rw [beq_eq_false_iff_ne]; omega
      have hz2 : ¬ ((N : Int) = 0) := by omega
      have hz3 : ¬ (N = 0) := by omega
      have hz4 : ((P : Int) == 0) = false := by rw [beq_eq_false_iff_ne]; omega
      have hz5 : ¬ ((P : Int) = 0) := by omega
      have hz6 : ¬ (P = 0) := by omega
      clear hS hU hpw hpb hf1 hf2 h0
      generalize splitL P N s = L at *
      generalize splitL P N u = L2 at *
      generalize fullL (fun k => S (fun i => if (true : Bool) = true then prK P N (smp N u i) (smp N s i) k else 0) (s.length / N) % (P : Int)) N = PW at *
      generalize resL P N (fun m => S (fun i => corF N (smp N u i) (smp N s i) m) (s.length / N)) = RS at *
      generalize s.length / N = M at *
      have HLT := Lib.hid (fun t : Nat => show t * N < s.length ↔ t < M by rw [← hMN]; exact str_lt hn1)
      have HML := Lib.hid (fun (t k : Nat) (ht : t < M) (hk : k < N) => show t * N + k < s.length by rw [← hMN]; exact mul_lo ht hk)
      have HUL := Lib.hid hl
      have HMN := Lib.hid hMN
      clear hMN hl
      go_enter Try.func7, Try.ntmps7
      go_wp2_with fail
      refine (HF1.out _ hs).mono ?_
      rintro _ w1 ⟨rfl, hb1⟩
      go_wp2_with fail
      refine (HF2.out _ (hu.keep hb1)).mono ?_
      rintro _ w2 ⟨rfl, hb2⟩
      have hB2 := bstep hb1 hb2
      clear hb1 hb2
      go_wp2_with fail
      refine (HS1.out _ _ hcs _ (hs.keep hB2)).mono ?_
      rintro _ w3 ⟨A3, c3, rfl, r3, hb3⟩
      have hB3 := bstep hB2 hb3
      clear hb3 hB2
      go_wp2_with fail
      refine (HS2.out _ _ hcu _ (hu.keep hB3)).mono ?_
      rintro _ w4 ⟨A4, c4, rfl, r4, hb4⟩
      have hB4 := bstep hB3 hb4
      replace r3 := r3.keep hb4
      clear hb4 hB3
      go_wp2_with fail
      refine (HPW.out _ _ _ _ _ r3 r4).mono ?_
      rintro _ w5 ⟨A5, c5, rfl, r5, hb5⟩
      have hB5 := bstep hB4 hb5
      clear hb5 hB4 r3 r4
      go_wp2_with fail
      refine (HBK.out _ _ _ r5).mono ?_
      rintro _ w6 ⟨A6, c6, rfl, r6, hb6⟩
      have hB6 := bstep hB5 hb6
      clear hb6 hB5 r5
      have s6 := hs.keep hB6
      have u6 := hu.keep hB6
      go_wp2
      go_loopg [17] N (fun gk i wr => ∃ (lag q : Nat), lag + gk = N ∧ i = .int .i64 lag ∧ wr = w6.drewN q)
      case atStart => exact ⟨0, 0, by omega, rfl, rfl⟩
      case round =>
        obtain ⟨lag, q, hlag, rfl, rfl⟩ := hrel
        have hlag' : lag ≤ N := by omega
        have HK := Lib.hid hlag
        clear hlag
        by_cases hlt : lag < N
        · have HRE := Lib.hid (HRS.out lag hlt)
          have HBL := Lib.hid (HBD.out lag)
          obtain ⟨gu, rfl⟩ : ∃ gu : Nat, gu = gk := ⟨_, rfl⟩
          go_wp2
          go_loopg [18, 19] M (fun gk v i wr => ∃ (t q : Nat) (s9 : Int), t + gk = M ∧ v = .int .i64 s9 ∧ i = .int .i64 ((t * N : Nat) : Int) ∧ wr = w6.drewN q ∧ Hid (s9 = S (fun t => S (fun k => prd N s u lag t k) N) t))
          case atStart => exact ⟨0, q, 0, by omega, rfl, by simp, rfl, Lib.hid rfl⟩
          case round =>
            obtain ⟨t, q9, s9, ht, rfl, rfl, rfl, HS9⟩ := hrel
            have ht' : t ≤ M := by omega
            have HKT := Lib.hid ht
            clear ht
            by_cases hlt2 : t < M
            · have hin := (HLT.out t).2 hlt2
              have HNX := Lib.hid (Nat.succ_mul t N)
              have HFI := Lib.hid (fun k hk => HML.out t k hlt2 hk)
              have HPD : Hid (∀ k, prd N s u lag t k = s.getD (t * N + (k + lag) % N) 0 * u.getD (t * N + k) 0) := Lib.hid (fun k => rfl)
              have HSS2 : Hid (∀ k, S (fun k => prd N s u lag t k) (k + 1) = S (fun k => prd N s u lag t k) k + prd N s u lag t k) := Lib.hid (fun k => rfl)
              have HST : Hid (S (fun t => S (fun k => prd N s u lag t k) N) (t + 1) = S (fun t => S (fun k => prd N s u lag t k) N) t + S (fun k => prd N s u lag t k) N) := Lib.hid rfl
              have HAB := Lib.hid (fun k (hk : k ≤ 16) => S_all_bd (f := fun t k => prd N s u lag t k) (fun t k => HBL.out t k) (n := t) (N := N) (k := k) (by omega) hn16 hk)
              obtain ⟨lo, hlo⟩ : ∃ lo, lo = t * N := ⟨_, rfl⟩
              have HLO := Lib.hid hlo
              rw [← hlo] at hin HFI HPD ⊢
              clear hlo
              have hlo2 : lo ≤ 256 := by omega
              obtain ⟨gu2, rfl⟩ : ∃ gu2 : Nat, gu2 = gk := ⟨_, rfl⟩
              go_wp2
              go_loopg [18, 20] N (fun gk v i wr => ∃ (k q : Nat) (s8 : Int), k + gk = N ∧ v = .int .i64 s8 ∧ i = .int .i64 k ∧ wr = w6.drewN q ∧ Hid (s8 = S (fun t => S (fun k => prd N s u lag t k) N) t + S (fun k => prd N s u lag t k) k))
              case atStart => exact ⟨0, q9, s9, by omega, rfl, rfl, rfl, Lib.hid (by rw [HS9.out]; simp [S])⟩
              case round =>
                obtain ⟨k, q8, s8, hk, rfl, rfl, rfl, HS8⟩ := hrel
                have hk' : k ≤ N := by omega
                have HKK := Lib.hid hk
                clear hk
                by_cases hlk : k < N
                · have hj1 := HFI.out k hlk
                  have hm : (k + lag) % N < N := Nat.mod_lt _ (by omega)
                  have hj2 := HFI.out _ hm
                  have hj3 : lo + k < u.length := by rw [← HUL.out]; exact hj1
                  obtain ⟨b1, off1, rfl, hlw1, hc1⟩ := s6.at2 hj2
                  obtain ⟨b2, off2, rfl, hlw2, hc2⟩ := u6.at2 hj3
                  have bd8 := HAB.out k (by omega)
                  rw [← HS8.out] at bd8
                  have bdp := HBL.out t k
                  have HPK := Lib.hid (HPD.out k)
                  rw [HPK.out] at bdp
                  have HN8 : Hid (s8 + s.getD (lo + (k + lag) % N) 0 * u.getD (lo + k) 0 = S (fun t => S (fun k => prd N s u lag t k) N) t + S (fun k => prd N s u lag t k) (k + 1)) := Lib.hid (by rw [HSS2.out, ← Int.add_assoc, ← HS8.out, HPK.out])
                  obtain ⟨Q, hQ⟩ : ∃ Q : Nat, Q = k + lag := ⟨_, rfl⟩
                  have hw0 : IntKind.i64.wrap ((k : Int) + (lag : Int)) = (Q : Int) := by rw [IntWalk.i64_in _ (by omega)]; omega
                  rw [← hQ] at hm hj2 hc1 HN8 bdp
                  clear hQ
                  obtain ⟨m, hm2⟩ : ∃ m : Nat, m = Q % N := ⟨_, rfl⟩
                  have hm3 : (Q : Int) % (N : Int) = (m : Int) := by rw [← Int.natCast_emod, hm2]
                  rw [← hm2] at hm hj2 hc1 HN8 bdp
                  clear hm2 HPK
                  generalize s.getD (lo + m) 0 = X at *
                  generalize u.getD (lo + k) 0 = Y at *
                  obtain ⟨Z, hZ⟩ : ∃ Z, Z = X * Y := ⟨_, rfl⟩
                  have hw1 : IntKind.i64.wrap (X * Y) = Z := by rw [IntWalk.i64_in _ (by omega), hZ]
                  rw [← hZ] at HN8 bdp
                  clear hZ
                  go_wp2
                  go_quiet (fail)
                  go_wp2
                  go_roundg (gk - 1)
                  case rel => exact ⟨k + 1, _, s8 + Z, by have := HKK.out; omega, by go_num, by go_num, rfl, HN8⟩
                  case measure => have := HKK.out; omega
                · have ek : k = N := by omega
                  subst ek
                  go_wp2
                  go_roundg (gu2 - 1)
                  case rel => exact ⟨t + 1, _, s8, by have := HKT.out; omega, rfl, by rw [HNX.out, ← HLO.out]; go_num, rfl, Lib.hid (by rw [HST.out]; exact HS8.out)⟩
                  case measure => have := HKT.out; omega
            · have et : t = M := by omega
              subst et
              have hin : ¬ t * N < s.length := fun h => hlt2 ((HLT.out t).1 h)
              obtain ⟨lo, hlo⟩ : ∃ lo, lo = t * N := ⟨_, rfl⟩
              rw [← hlo] at hin ⊢
              clear hlo
              obtain ⟨b3, off3, rfl, hlw3, hc3⟩ := r6.at2 (i := lag) (by rw [HRL.out]; exact hlt)
              have bd9 := S_all_bd (f := fun t k => prd N s u lag t k) (fun t k => HBL.out t k) (n := t) (N := N) (k := 0) hM256 hn16 (by omega)
              have bd9' : -40000 ≤ s9 ∧ s9 ≤ 40000 := by
                rw [HS9.out]
                simpa [S] using bd9
              have hrem := bl_rem (P := P) (x := s9) (by omega)
              rw [HRE.out, ← HS9.out] at hc3
              clear bd9
              have hbd := tmod_bd s9 (n := P) (by omega)
              obtain ⟨Y, hY⟩ : ∃ Y, Y = s9.tmod (P : Int) := ⟨_, rfl⟩
              rw [← hY] at hrem hbd
              obtain ⟨X, hX⟩ : ∃ X, X = Y + (P : Int) := ⟨_, rfl⟩
              have hw2 : IntKind.i64.wrap (Y + (P : Int)) = X := by rw [IntWalk.i64_in _ (by omega), hX]
              rw [← hX] at hrem
              have hY2 : s9.tmod (P : Int) = Y := hY.symm
              clear hX hY
              obtain ⟨V, hV⟩ : ∃ V, V = s9 % (P : Int) := ⟨_, rfl⟩
              rw [← hV] at hrem hc3
              clear hV
              go_wp2
              go_quiet (fail)
              go_wp2
              go_roundg (gu - 1)
              case rel => exact ⟨lag + 1, _, by have := HK.out; omega, by go_num, rfl⟩
              case measure => have := HK.out; omega
        · go_wp2_with fail
          refine (alive12 _).mono ?_
          rintro _ w7 ⟨rfl, hb7⟩
          go_wp2
          go_ret
          exact ⟨rfl, bstep (below_drewN hB6 _) hb7⟩
  · have e1 : ((s.length : Int) != (u.length : Int)) = true := by rw [bne_iff_ne]; omega
    clear hl
    go_enter Try.func7, Try.ntmps7
    go_wp2_with fail
    refine (HF1.out _ hs).mono ?_
    rintro _ w1 ⟨rfl, hb1⟩
    go_wp2_with fail
    refine (HF2.out _ (hu.keep hb1)).mono ?_
    rintro _ w2 ⟨rfl, hb2⟩
    go_wp2_with fail
    refine (alive12 _).mono ?_
    rintro _ w3 ⟨rfl, hb3⟩
    go_wp2
    go_ret
    exact ⟨rfl, bstep (bstep hb1 hb2) hb3⟩
end Bk
end Go.Proofs.Ytnhjeelcgfobnaa
