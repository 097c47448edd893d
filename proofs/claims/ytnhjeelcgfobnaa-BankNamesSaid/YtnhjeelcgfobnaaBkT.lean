/-
  Layer 12 (bank), contract: Split of the program.
-/
import Derived.Test.YtnhjeelcgfobnaaBkS
namespace Go.Proofs.Ytnhjeelcgfobnaa
open Go.RowKit Num Go.Shelf
set_option maxRecDepth 8000
set_option linter.unusedVariables false
set_option linter.unusedSimpArgs false
namespace Bk
open Lol Crs

attribute [local go_sem] Oper.semAt_some
theorem smp_in {P N : Nat} {s : List Int} {A : Option Addr} {b off : Nat} {W : World} (hx : RI .i64 W A s) (hA : A = some ⟨b, off, none⟩) {t k : Nat} (h : t * N + k < s.length) : b < W.heap.size ∧ W.cell? ⟨b, off + t * N + k, none⟩ = some (.int .i64 (smp N s t k)) := by
  obtain ⟨b', off', e, hlt, hc⟩ := hx (by omega)
  subst hA
  injection e with e
  injection e with e1 e2
  subst e1; subst e2
  refine ⟨hlt, ?_⟩
  rw [Nat.add_assoc]
  exact hc _ h
set_option maxHeartbeats 4000000 in
theorem split_err (p n : Int) (A : Option Addr) (c : Nat) (s : List Int) (w : World) (hp1 : -9223372036854775808 ≤ p) (hp2 : p ≤ 9223372036854775807) (hx : RI .i64 w A s) (hl : s.length ≤ 9223372036854775807) (hs : strE p n s ≠ 0) :
    Calls Try.prog 20 #[.int .i64 p, .int .i64 n, .slice A s.length c] w (RetLL .i64 w (splitS p n s)) := by
  have HS0 : Hid (splitS p n s = ([], strE p n s)) := Lib.hid (by unfold splitS; rw [if_pos hs])
  obtain ⟨wE, hwE⟩ : ∃ wE, wE = (((w.alloc (.cells #[.int .i64 p] 2)).alloc (.cells #[.int .i64 n] 3)).alloc (.cells #[.slice none 0 0] 22)).alloc (.cells #[.int .i64 0] 24) := ⟨_, rfl⟩
  have hk0 : Blk wE w.heap.size 2 #[.int .i64 p] := by rw [hwE]; exact (((Blk.new _ _ _).alloc _).alloc _).alloc _
  have hk1 : Blk wE (w.heap.size + 1) 3 #[.int .i64 n] := by rw [hwE]; exact ((Blk.newAt _ _ (by simp)).alloc _).alloc _
  have hk2 : Blk wE (w.heap.size + 1 + 1) 22 #[.slice none 0 0] := by rw [hwE]; exact (Blk.newAt _ _ (by simp)).alloc _
  have hk3 : Blk wE (w.heap.size + 1 + 1 + 1) 24 #[.int .i64 0] := by rw [hwE]; exact Blk.newAt _ _ (by simp)
  have hbE : Below w.heap.size w wE := by rw [hwE]; exact balloc (balloc (balloc (balloc (Below.refl _ _) _) _) _) _
  rcases mod_cases p with ⟨e0, _, P, rfl, h7, h2, _⟩ | e0
  · have c0 : (modE (P : Int) != 0) = false := by rw [e0]; rfl
    have HT : Hid (strE P n s = if n < 1 ∨ 16 < n ∨ 256 < s.length then 4 else if ((P : Int) - 1) % n ≠ 0 then 6 else if s.any badS = true then 8 else if (s.length : Int) % n ≠ 0 then 22 else 0) := Lib.hid (by unfold strE; rw [if_neg (by simp [e0])])
    clear e0
    have HH := Lib.hid hs
    clear hs
    rcases (show n < 1 ∨ (1 ≤ n ∧ 16 < n) ∨ (1 ≤ n ∧ n ≤ 16) by omega) with h | ⟨h, h'⟩ | ⟨h, h'⟩
    · have d1 : decide (n < 1) = true := decide_eq_true h
      have HS : Hid (splitS P n s = ([], 4)) := Lib.hid (by rw [HS0.out, HT.out, if_pos (.inl h)])
      go_enter Try.func20, Try.ntmps20
      go_wp2_with fail
      rw [← hwE]
      clear hwE
      have q0 : World.cell? wE ⟨w.heap.size, 0, none⟩ = some (.int .i64 (P : Int)) := hk0.cell 0
      have f0 := hk0.frozen 0
      have fl := hk0.lt
      refine (modulus_any _ _ hp1 hp2).mono ?_
      rintro _ w1 ⟨rfl, hb1⟩
      have hB1 := bstep hbE hb1
      clear q0 f0 fl
      replace hk0 := hk0.keep hb1
      replace hk1 := hk1.keep hb1
      replace hk2 := hk2.keep hb1
      replace hk3 := hk3.keep hb1
      have q0 : World.cell? w1 ⟨w.heap.size, 0, none⟩ = some (.int .i64 (P : Int)) := hk0.cell 0
      have f0 := hk0.frozen 0
      have fl := hk0.lt
      have r0 : World.cell? w1 ⟨(w.heap.size + 1), 0, none⟩ = some (.int .i64 n) := hk1.cell 0
      have g0 := hk1.frozen 0
      have gl := hk1.lt
      have x0 : World.cell? w1 ⟨(w.heap.size + 1 + 1), 0, none⟩ = some (.slice .none 0 0) := hk2.cell 0
      have y0 := hk2.frozen 0
      have yl := hk2.lt
      have z0 : World.cell? w1 ⟨(w.heap.size + 1 + 1 + 1), 0, none⟩ = some (.int .i64 0) := hk3.cell 0
      have u0 := hk3.frozen 0
      have ul := hk3.lt
      go_wp2
      exact bodyPost_ret (v := .tuple #[.slice .none 0 0, .int .i64 4]) (by simp [results, Try.results20, go_sem, x0, y0, yl, z0, u0, ul]) rfl (RetLL.no HS.out (by (repeat (first | with_reducible exact Below.refl _ _ | assumption | with_reducible refine below_drewN ?_ _ | with_reducible refine Below.drew ?_ | with_reducible refine balloc ?_ _ | (with_reducible refine Below.setCell ?_ ?_ _; rotate_left; focus (first | (simp; done) | (simp; omega) | omega))))))
    · have d1 : decide (n < 1) = false := decide_eq_false (by omega)
      have d2 : decide (16 < n) = true := decide_eq_true h'
      have HS : Hid (splitS P n s = ([], 4)) := Lib.hid (by rw [HS0.out, HT.out, if_pos (.inr (.inl h'))])
      go_enter Try.func20, Try.ntmps20
      go_wp2_with fail
      rw [← hwE]
      clear hwE
      have q0 : World.cell? wE ⟨w.heap.size, 0, none⟩ = some (.int .i64 (P : Int)) := hk0.cell 0
      have f0 := hk0.frozen 0
      have fl := hk0.lt
      refine (modulus_any _ _ hp1 hp2).mono ?_
      rintro _ w1 ⟨rfl, hb1⟩
      have hB1 := bstep hbE hb1
      clear q0 f0 fl
      replace hk0 := hk0.keep hb1
      replace hk1 := hk1.keep hb1
      replace hk2 := hk2.keep hb1
      replace hk3 := hk3.keep hb1
      have q0 : World.cell? w1 ⟨w.heap.size, 0, none⟩ = some (.int .i64 (P : Int)) := hk0.cell 0
      have f0 := hk0.frozen 0
      have fl := hk0.lt
      have r0 : World.cell? w1 ⟨(w.heap.size + 1), 0, none⟩ = some (.int .i64 n) := hk1.cell 0
      have g0 := hk1.frozen 0
      have gl := hk1.lt
      have x0 : World.cell? w1 ⟨(w.heap.size + 1 + 1), 0, none⟩ = some (.slice .none 0 0) := hk2.cell 0
      have y0 := hk2.frozen 0
      have yl := hk2.lt
      have z0 : World.cell? w1 ⟨(w.heap.size + 1 + 1 + 1), 0, none⟩ = some (.int .i64 0) := hk3.cell 0
      have u0 := hk3.frozen 0
      have ul := hk3.lt
      go_wp2
      exact bodyPost_ret (v := .tuple #[.slice .none 0 0, .int .i64 4]) (by simp [results, Try.results20, go_sem, x0, y0, yl, z0, u0, ul]) rfl (RetLL.no HS.out (by (repeat (first | with_reducible exact Below.refl _ _ | assumption | with_reducible refine below_drewN ?_ _ | with_reducible refine Below.drew ?_ | with_reducible refine balloc ?_ _ | (with_reducible refine Below.setCell ?_ ?_ _; rotate_left; focus (first | (simp; done) | (simp; omega) | omega))))))
    · obtain ⟨N, rfl⟩ := Int.eq_ofNat_of_zero_le (show 0 ≤ n by omega)
      have d1 : decide ((N : Int) < 1) = false := decide_eq_false (by omega)
      have d2 : decide (16 < (N : Int)) = false := decide_eq_false (by omega)
      have d2' : decide (16 < N) = false := decide_eq_false (by omega)
      have d1' : decide (N < 1) = false := decide_eq_false (by omega)
      by_cases hl2 : 256 < s.length
      · have d3 : decide (256 < s.length) = true := decide_eq_true hl2
        have d3' : decide (256 < (s.length : Int)) = true := decide_eq_true (by omega)
        have HS : Hid (splitS P N s = ([], 4)) := Lib.hid (by rw [HS0.out, HT.out, if_pos (.inr (.inr hl2))])
        clear hl2
        go_enter Try.func20, Try.ntmps20
        go_wp2_with fail
        rw [← hwE]
        clear hwE
        have q0 : World.cell? wE ⟨w.heap.size, 0, none⟩ = some (.int .i64 (P : Int)) := hk0.cell 0
        have f0 := hk0.frozen 0
        have fl := hk0.lt
        refine (modulus_any _ _ hp1 hp2).mono ?_
        rintro _ w1 ⟨rfl, hb1⟩
        have hB1 := bstep hbE hb1
        clear q0 f0 fl
        replace hk0 := hk0.keep hb1
        replace hk1 := hk1.keep hb1
        replace hk2 := hk2.keep hb1
        replace hk3 := hk3.keep hb1
        have q0 : World.cell? w1 ⟨w.heap.size, 0, none⟩ = some (.int .i64 (P : Int)) := hk0.cell 0
        have f0 := hk0.frozen 0
        have fl := hk0.lt
        have r0 : World.cell? w1 ⟨(w.heap.size + 1), 0, none⟩ = some (.int .i64 (N : Int)) := hk1.cell 0
        have g0 := hk1.frozen 0
        have gl := hk1.lt
        have x0 : World.cell? w1 ⟨(w.heap.size + 1 + 1), 0, none⟩ = some (.slice .none 0 0) := hk2.cell 0
        have y0 := hk2.frozen 0
        have yl := hk2.lt
        have z0 : World.cell? w1 ⟨(w.heap.size + 1 + 1 + 1), 0, none⟩ = some (.int .i64 0) := hk3.cell 0
        have u0 := hk3.frozen 0
        have ul := hk3.lt
        go_wp2
        exact bodyPost_ret (v := .tuple #[.slice .none 0 0, .int .i64 4]) (by simp [results, Try.results20, go_sem, x0, y0, yl, z0, u0, ul]) rfl (RetLL.no HS.out (by (repeat (first | with_reducible exact Below.refl _ _ | assumption | with_reducible refine below_drewN ?_ _ | with_reducible refine Below.drew ?_ | with_reducible refine balloc ?_ _ | (with_reducible refine Below.setCell ?_ ?_ _; rotate_left; focus (first | (simp; done) | (simp; omega) | omega))))))
      · have d3 : decide (256 < s.length) = false := decide_eq_false hl2
        have d3' : decide (256 < (s.length : Int)) = false := decide_eq_false (by omega)
        have hl1000 : s.length ≤ 1000 := by omega
        have g0 : IntKind.i64.wrap ((P : Int) - 1) = ((P - 1 : Nat) : Int) := by rw [IntWalk.i64_in _ (by omega)]; omega
        have hz1 : ((N : Int) == 0) = false := by rw [beq_eq_false_iff_ne]; omega
        have HR := Lib.hid (rem_mod (P := P) (n := N) (by omega))
        have HT2 : Hid (strE P N s = if ((P : Int) - 1) % (N : Int) ≠ 0 then 6 else if s.any badS = true then 8 else if (s.length : Int) % (N : Int) ≠ 0 then 22 else 0) := Lib.hid (by rw [HT.out, if_neg (by omega)])
        clear hl2 HT
        by_cases hd : (P - 1) % N = 0
        · have f1' : ((((P - 1) % N : Nat) : Int) != 0) = false := by rw [hd]; rfl
          have HT3 : Hid (strE P N s = if s.any badS = true then 8 else if (s.length : Int) % (N : Int) ≠ 0 then 22 else 0) := Lib.hid (by rw [HT2.out, if_neg (by rw [← HR.out, hd]; simp)])
          clear hd HT2
          cases hb : s.any badS
          · have HT4 : Hid (strE P N s = if (s.length : Int) % (N : Int) ≠ 0 then 22 else 0) := Lib.hid (by rw [HT3.out, hb]; rfl)
            have HBF := Lib.hid hb
            have HM := Lib.hid (Int.natCast_emod s.length N)
            by_cases hm : s.length % N = 0
            · exact absurd (by rw [HT4.out, if_neg (by rw [← HM.out, hm]; simp)]) HH.out
            · have f2 : (((s.length % N : Nat) : Int) != 0) = true := by rw [bne_iff_ne]; omega
              have HS : Hid (splitS P N s = ([], 22)) := Lib.hid (by rw [HS0.out, HT4.out, if_pos (by rw [← HM.out]; omega)])
              have HF2 := Lib.hid f2
              clear hm hb HT3 f2
              go_enter Try.func20, Try.ntmps20
              go_wp2_with fail
              rw [← hwE]
              clear hwE
              have q0 : World.cell? wE ⟨w.heap.size, 0, none⟩ = some (.int .i64 (P : Int)) := hk0.cell 0
              have f0 := hk0.frozen 0
              have fl := hk0.lt
              refine (modulus_any _ _ hp1 hp2).mono ?_
              rintro _ w1 ⟨rfl, hb1⟩
              have hB1 := bstep hbE hb1
              clear q0 f0 fl
              replace hk0 := hk0.keep hb1
              replace hk1 := hk1.keep hb1
              replace hk2 := hk2.keep hb1
              replace hk3 := hk3.keep hb1
              have q0 : World.cell? w1 ⟨w.heap.size, 0, none⟩ = some (.int .i64 (P : Int)) := hk0.cell 0
              have f0 := hk0.frozen 0
              have fl := hk0.lt
              have r0 : World.cell? w1 ⟨(w.heap.size + 1), 0, none⟩ = some (.int .i64 (N : Int)) := hk1.cell 0
              have g0 := hk1.frozen 0
              have gl := hk1.lt
              have x0 : World.cell? w1 ⟨(w.heap.size + 1 + 1), 0, none⟩ = some (.slice .none 0 0) := hk2.cell 0
              have y0 := hk2.frozen 0
              have yl := hk2.lt
              have z0 : World.cell? w1 ⟨(w.heap.size + 1 + 1 + 1), 0, none⟩ = some (.int .i64 0) := hk3.cell 0
              have u0 := hk3.frozen 0
              have ul := hk3.lt
              have hx1 := hx.keep hB1
              go_wp2
              (try clear f1')
              go_loopg [40] s.length (fun gk i wr => ∃ k : Nat, k + gk = s.length ∧ i = .int .i64 k ∧ wr = w1 ∧ Hid (∀ j, j < k → -3 ≤ s.getD j 0 ∧ s.getD j 0 ≤ 3))
              case atStart => exact ⟨0, by omega, rfl, rfl, Lib.hid (by intro j hj; omega)⟩
              case round =>
                obtain ⟨k, hk, rfl, rfl, HA⟩ := hrel
                have hk' : k ≤ s.length := by omega
                have HKK := Lib.hid hk
                clear hk
                by_cases hlt : k < s.length
                · obtain ⟨b1, off1, rfl, hlw1, hc1⟩ := hx1.at2 hlt
                  have HBD := Lib.hid (fun h : s.getD k 0 < -3 ∨ 3 < s.getD k 0 => any_badS_at hlt (badS_yes h))
                  have HG := Lib.hid (fun h : -3 ≤ s.getD k 0 ∧ s.getD k 0 ≤ 3 => all_lt_succ HA.out h)
                  generalize s.getD k 0 = v at *
                  rcases (show (v < -3 ∨ 3 < v) ∨ (-3 ≤ v ∧ v ≤ 3) by omega) with h | ⟨h, h'⟩
                  · have := HBD.out h
                    rw [HBF.out] at this
                    cases this
                  · have d7 : decide (v < -3) = false := decide_eq_false (by omega)
                    have d8 : decide (3 < v) = false := decide_eq_false (by omega)
                    have HE := Lib.hid (HG.out ⟨h, h'⟩)
                    go_wp2
                    go_roundg (gk - 1)
                    case rel => exact ⟨k + 1, by have := HKK.out; omega, by go_num, rfl, HE⟩
                    case measure => have := HKK.out; omega
                · have f2 := HF2.out
                  go_wp2
                  exact bodyPost_ret (v := .tuple #[.slice .none 0 0, .int .i64 22]) (by simp [results, Try.results20, go_sem, x0, y0, yl, z0, u0, ul]) rfl (RetLL.no HS.out (by (repeat (first | with_reducible exact Below.refl _ _ | assumption | with_reducible refine below_drewN ?_ _ | with_reducible refine Below.drew ?_ | with_reducible refine balloc ?_ _ | (with_reducible refine Below.setCell ?_ ?_ _; rotate_left; focus (first | (simp; done) | (simp; omega) | omega))))))
          · have HS : Hid (splitS P N s = ([], 8)) := Lib.hid (by rw [HS0.out, HT3.out, hb]; rfl)
            have HBF := Lib.hid hb
            clear hb HT3
            go_enter Try.func20, Try.ntmps20
            go_wp2_with fail
            rw [← hwE]
            clear hwE
            have q0 : World.cell? wE ⟨w.heap.size, 0, none⟩ = some (.int .i64 (P : Int)) := hk0.cell 0
            have f0 := hk0.frozen 0
            have fl := hk0.lt
            refine (modulus_any _ _ hp1 hp2).mono ?_
            rintro _ w1 ⟨rfl, hb1⟩
            have hB1 := bstep hbE hb1
            clear q0 f0 fl
            replace hk0 := hk0.keep hb1
            replace hk1 := hk1.keep hb1
            replace hk2 := hk2.keep hb1
            replace hk3 := hk3.keep hb1
            have q0 : World.cell? w1 ⟨w.heap.size, 0, none⟩ = some (.int .i64 (P : Int)) := hk0.cell 0
            have f0 := hk0.frozen 0
            have fl := hk0.lt
            have r0 : World.cell? w1 ⟨(w.heap.size + 1), 0, none⟩ = some (.int .i64 (N : Int)) := hk1.cell 0
            have g0 := hk1.frozen 0
            have gl := hk1.lt
            have x0 : World.cell? w1 ⟨(w.heap.size + 1 + 1), 0, none⟩ = some (.slice .none 0 0) := hk2.cell 0
            have y0 := hk2.frozen 0
            have yl := hk2.lt
            have z0 : World.cell? w1 ⟨(w.heap.size + 1 + 1 + 1), 0, none⟩ = some (.int .i64 0) := hk3.cell 0
            have u0 := hk3.frozen 0
            have ul := hk3.lt
            have hx1 := hx.keep hB1
            go_wp2
            (try clear f1')
            go_loopg [40] s.length (fun gk i wr => ∃ k : Nat, k + gk = s.length ∧ i = .int .i64 k ∧ wr = w1 ∧ Hid (∀ j, j < k → -3 ≤ s.getD j 0 ∧ s.getD j 0 ≤ 3))
            case atStart => exact ⟨0, by omega, rfl, rfl, Lib.hid (by intro j hj; omega)⟩
            case round =>
              obtain ⟨k, hk, rfl, rfl, HA⟩ := hrel
              have hk' : k ≤ s.length := by omega
              have HKK := Lib.hid hk
              clear hk
              by_cases hlt : k < s.length
              · obtain ⟨b1, off1, rfl, hlw1, hc1⟩ := hx1.at2 hlt
                have HBD := Lib.hid (fun h : s.getD k 0 < -3 ∨ 3 < s.getD k 0 => any_badS_at hlt (badS_yes h))
                have HG := Lib.hid (fun h : -3 ≤ s.getD k 0 ∧ s.getD k 0 ≤ 3 => all_lt_succ HA.out h)
                generalize s.getD k 0 = v at *
                rcases (show v < -3 ∨ (-3 ≤ v ∧ 3 < v) ∨ (-3 ≤ v ∧ v ≤ 3) by omega) with h | ⟨h, h'⟩ | ⟨h, h'⟩
                · have d7 : decide (v < -3) = true := decide_eq_true h
                  go_wp2
                  exact bodyPost_ret (v := .tuple #[.slice .none 0 0, .int .i64 8]) (by simp [results, Try.results20, go_sem, x0, y0, yl, z0, u0, ul]) rfl (RetLL.no HS.out (by (repeat (first | with_reducible exact Below.refl _ _ | assumption | with_reducible refine below_drewN ?_ _ | with_reducible refine Below.drew ?_ | with_reducible refine balloc ?_ _ | (with_reducible refine Below.setCell ?_ ?_ _; rotate_left; focus (first | (simp; done) | (simp; omega) | omega))))))
                · have d7 : decide (v < -3) = false := decide_eq_false (by omega)
                  have d8 : decide (3 < v) = true := decide_eq_true h'
                  go_wp2
                  exact bodyPost_ret (v := .tuple #[.slice .none 0 0, .int .i64 8]) (by simp [results, Try.results20, go_sem, x0, y0, yl, z0, u0, ul]) rfl (RetLL.no HS.out (by (repeat (first | with_reducible exact Below.refl _ _ | assumption | with_reducible refine below_drewN ?_ _ | with_reducible refine Below.drew ?_ | with_reducible refine balloc ?_ _ | (with_reducible refine Below.setCell ?_ ?_ _; rotate_left; focus (first | (simp; done) | (simp; omega) | omega))))))
                · have d7 : decide (v < -3) = false := decide_eq_false (by omega)
                  have d8 : decide (3 < v) = false := decide_eq_false (by omega)
                  have HE := Lib.hid (HG.out ⟨h, h'⟩)
                  go_wp2
                  go_roundg (gk - 1)
                  case rel => exact ⟨k + 1, by have := HKK.out; omega, by go_num, rfl, HE⟩
                  case measure => have := HKK.out; omega
              · exfalso
                have h9 := any_badS.2 (fun j hj => HA.out j (by omega))
                rw [HBF.out] at h9
                cases h9
        · have f1' : ((((P - 1) % N : Nat) : Int) != 0) = true := by rw [bne_iff_ne]; omega
          have HS : Hid (splitS P N s = ([], 6)) := Lib.hid (by rw [HS0.out, HT2.out, if_pos (by rw [← HR.out]; omega)])
          clear hd
          go_enter Try.func20, Try.ntmps20
          go_wp2_with fail
          rw [← hwE]
          clear hwE
          have q0 : World.cell? wE ⟨w.heap.size, 0, none⟩ = some (.int .i64 (P : Int)) := hk0.cell 0
          have f0 := hk0.frozen 0
          have fl := hk0.lt
          refine (modulus_any _ _ hp1 hp2).mono ?_
          rintro _ w1 ⟨rfl, hb1⟩
          have hB1 := bstep hbE hb1
          clear q0 f0 fl
          replace hk0 := hk0.keep hb1
          replace hk1 := hk1.keep hb1
          replace hk2 := hk2.keep hb1
          replace hk3 := hk3.keep hb1
          have q0 : World.cell? w1 ⟨w.heap.size, 0, none⟩ = some (.int .i64 (P : Int)) := hk0.cell 0
          have f0 := hk0.frozen 0
          have fl := hk0.lt
          have r0 : World.cell? w1 ⟨(w.heap.size + 1), 0, none⟩ = some (.int .i64 (N : Int)) := hk1.cell 0
          have g0 := hk1.frozen 0
          have gl := hk1.lt
          have x0 : World.cell? w1 ⟨(w.heap.size + 1 + 1), 0, none⟩ = some (.slice .none 0 0) := hk2.cell 0
          have y0 := hk2.frozen 0
          have yl := hk2.lt
          have z0 : World.cell? w1 ⟨(w.heap.size + 1 + 1 + 1), 0, none⟩ = some (.int .i64 0) := hk3.cell 0
          have u0 := hk3.frozen 0
          have ul := hk3.lt
          go_wp2
          exact bodyPost_ret (v := .tuple #[.slice .none 0 0, .int .i64 6]) (by simp [results, Try.results20, go_sem, x0, y0, yl, z0, u0, ul]) rfl (RetLL.no HS.out (by (repeat (first | with_reducible exact Below.refl _ _ | assumption | with_reducible refine below_drewN ?_ _ | with_reducible refine Below.drew ?_ | with_reducible refine balloc ?_ _ | (with_reducible refine Below.setCell ?_ ?_ _; rotate_left; focus (first | (simp; done) | (simp; omega) | omega))))))
  · have c0 : (modE p != 0) = true := by rw [e0]; rfl
    have HS : Hid (splitS p n s = ([], modE p)) := Lib.hid (by rw [HS0.out, e0]; unfold strE; rw [if_pos (by simp [e0])])
    clear e0
    go_enter Try.func20, Try.ntmps20
    go_wp2_with fail
    rw [← hwE]
    clear hwE
    have q0 : World.cell? wE ⟨w.heap.size, 0, none⟩ = some (.int .i64 p) := hk0.cell 0
    have f0 := hk0.frozen 0
    have fl := hk0.lt
    refine (modulus_any _ _ hp1 hp2).mono ?_
    rintro _ w1 ⟨rfl, hb1⟩
    have hB1 := bstep hbE hb1
    clear q0 f0 fl
    replace hk0 := hk0.keep hb1
    replace hk1 := hk1.keep hb1
    replace hk2 := hk2.keep hb1
    replace hk3 := hk3.keep hb1
    have q0 : World.cell? w1 ⟨w.heap.size, 0, none⟩ = some (.int .i64 p) := hk0.cell 0
    have f0 := hk0.frozen 0
    have fl := hk0.lt
    have r0 : World.cell? w1 ⟨(w.heap.size + 1), 0, none⟩ = some (.int .i64 n) := hk1.cell 0
    have g0 := hk1.frozen 0
    have gl := hk1.lt
    have x0 : World.cell? w1 ⟨(w.heap.size + 1 + 1), 0, none⟩ = some (.slice .none 0 0) := hk2.cell 0
    have y0 := hk2.frozen 0
    have yl := hk2.lt
    have z0 : World.cell? w1 ⟨(w.heap.size + 1 + 1 + 1), 0, none⟩ = some (.int .i64 0) := hk3.cell 0
    have u0 := hk3.frozen 0
    have ul := hk3.lt
    go_wp2
    exact bodyPost_ret (v := .tuple #[.slice .none 0 0, .int .i64 (modE p)]) (by simp [results, Try.results20, go_sem, x0, y0, yl, z0, u0, ul]) rfl (RetLL.no HS.out (by (repeat (first | with_reducible exact Below.refl _ _ | assumption | with_reducible refine below_drewN ?_ _ | with_reducible refine Below.drew ?_ | with_reducible refine balloc ?_ _ | (with_reducible refine Below.setCell ?_ ?_ _; rotate_left; focus (first | (simp; done) | (simp; omega) | omega))))))
end Bk
end Go.Proofs.Ytnhjeelcgfobnaa
