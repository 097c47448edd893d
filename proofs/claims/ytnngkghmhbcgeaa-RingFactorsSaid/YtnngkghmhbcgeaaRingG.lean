/-
  Contracts: ring.Order, fringeref10.order, fringeref10.Order, ring.generator.
-/
import Derived.Test.YtnngkghmhbcgeaaRingE
import Derived.Test.YtnngkghmhbcgeaaNumI
namespace Go.Proofs.Ytnngkghmhbcgeaa
open Go.RowKit Num
set_option linter.unusedVariables false

theorem quo_raw {m q : Nat} (h : m ≤ 2000000000) : IntKind.i64.wrap ((m : Int).tdiv (q : Int)) = ((m / q : Nat) : Int) := by
  have h1 : m / q ≤ m := Nat.div_le_self m q
  have h2 : ((m / q : Nat) : Int) ≤ 2000000000 := by omega
  have h3 : 0 ≤ ((m / q : Nat) : Int) := Int.natCast_nonneg _
  rw [Int.tdiv_eq_ediv_of_nonneg (by omega), ← Int.natCast_ediv]
  exact IntWalk.i64_in _ ⟨by omega, by omega⟩
theorem ordStep_le (p a q n : Nat) : ordStep p a q n ≤ n := by
  unfold ordStep; split
  · exact Nat.div_le_self n q
  · exact Nat.le_refl n
theorem take_ordL (p a : Nat) (l : List Nat) (k : Nat) (n : Nat) (h : k < l.length) : ordL p a (l.take (k + 1)) n = ordStep p a (l.getD k 0) (ordL p a (l.take k) n) := by
  rw [List.take_succ_eq_append_getElem h, ordL_snoc, getD_lt _ _ h]
theorem fac_ge {n : Nat} (h : 1 ≤ n) {k : Nat} (hk : k < (facs n).length) : 2 ≤ (facs n).getD k 0 := by
  rw [getD_lt _ _ hk]; exact ((facs_of h).2.1 _ (List.getElem_mem hk)).1
theorem fac_le {n : Nat} (h : 1 ≤ n) {k : Nat} (hk : k < (facs n).length) : (facs n).getD k 0 ≤ n := by
  rw [getD_lt _ _ hk]
  have h1 := dvd_mulAll (List.getElem_mem hk)
  rw [(facs_of h).1] at h1
  exact Nat.le_of_dvd (by omega) h1
theorem fac_len {n : Nat} (h : 1 ≤ n) (h2 : n ≤ 2000000000) : (facs n).length < 32 :=
  len_lt (facs_of h).2.1 (Nat.le_of_eq (facs_of h).1) (by omega)

theorem refOrder_in (P A : Nat) (w : World) (h2 : 2 ≤ P) (h3 : P ≤ 2000000000) (hA : A ≤ 2000000000) :
    Calls Try.prog 33 #[.int .i64 P, .int .i64 A] w fun e w' => e = .returned (.int .i64 ((ordN P A : Nat) : Int)) ∧ Below w.heap.size w w' := by
  have g0 : IntKind.i64.wrap ((P : Int) - 1) = ((P - 1 : Nat) : Int) := by rw [IntWalk.i64_in _ (by omega)]; omega
  go_enter Try.func33, Try.ntmps33
  go_wp2_with fail
  refine (refFactors_any (P - 1) _ (by omega) (by omega)).mono ?_
  rintro _ w1 ⟨A1, c1, rfl, r1, hB1⟩
  go_wp2
  have hfl := fac_len (n := P - 1) (by omega) (by omega)
  have hml := toI_len (facs (P - 1))
  have hge := Lib.hid (fun (k : Nat) hk => fac_ge (n := P - 1) (k := k) (by omega) hk)
  have hle := Lib.hid (fun (k : Nat) hk => fac_le (n := P - 1) (k := k) (by omega) hk)
  simp only [hml]
  go_loopg [5, 8] (facs (P - 1)).length (fun gk o i wr => ∃ (k n : Nat), k + gk = (facs (P - 1)).length ∧ o = .int .i64 n ∧ i = .int .i64 k ∧ n ≤ P - 1 ∧ Hid (n = ordL P A ((facs (P - 1)).take k) (P - 1)) ∧ Below w.heap.size w wr ∧ RI .i64 wr A1 (toI (facs (P - 1))))
  case atStart => exact ⟨0, P - 1, by omega, rfl, rfl, by omega, Lib.hid rfl, hB1, r1⟩
  case round =>
    obtain ⟨k, n, hk, rfl, rfl, hn, HN, hb, hr⟩ := hrel
    have hk' : k ≤ (facs (P - 1)).length := by omega
    have HK := Lib.hid hk
    clear hk
    by_cases hlt : k < (facs (P - 1)).length
    · obtain ⟨b1, off1, rfl, hlw1, hc1⟩ := hr.at2 (i := k) (by rw [hml]; exact hlt)
      rw [toI_at _ hlt] at hc1
      have hq2 := hge.out k hlt
      have hqle := hle.out k hlt
      have HS := Lib.hid (take_ordL P A (facs (P - 1)) k (P - 1) hlt)
      generalize (facs (P - 1)).getD k 0 = q at *
      have g1 : wrap64 ((n : Int) / (q : Int)) = ((n / q : Nat) : Int) := quo_wrap (by omega)
      have g2 : n / q ≤ n := Nat.div_le_self n q
      go_wp2_with fail
      rw [g1]
      refine (refPower_any P A (n / q) _ h2 h3 (by omega) (by omega)).mono ?_
      rintro _ w2 ⟨rfl, rfl⟩
      have hb2 := Below.refl wr.heap.size wr
      generalize hX : A ^ (n / q) % P = X
      have hr2 := hr.keep hb2
      obtain ⟨b3, off3, e3, hlw3, hc3⟩ := hr2.at2 (i := k) (by rw [hml]; exact hlt)
      clear hc3 e3 hlw3
      have hcw := (hb2.cell (p := ⟨b1, off1 + k, none⟩) hlw1).trans hc1
      by_cases h1 : X = 1
      · have f2 : ((X : Int) == 1) = true := by rw [h1]; rfl
        have e2 : ordStep P A q n = n / q := by unfold ordStep; rw [hX, if_pos h1]
        rw [← HN.out, e2] at HS
        clear h1 e2 hX
        go_wp2
        go_roundg (gk - 1)
        case rel => exact ⟨k + 1, n / q, by have := HK.out; omega, congrArg (Value.int .i64) g1, by go_num, by omega, Lib.hid HS.out.symm, bstep hb hb2, hr2⟩
        case measure => have := HK.out; omega
      · have f2 : ((X : Int) == 1) = false := by rw [beq_eq_false_iff_ne]; omega
        have e2 : ordStep P A q n = n := by unfold ordStep; rw [hX, if_neg h1]
        rw [← HN.out, e2] at HS
        clear h1 e2 hX
        go_wp2
        go_roundg (gk - 1)
        case rel => exact ⟨k + 1, n, by have := HK.out; omega, rfl, by go_num, by omega, Lib.hid HS.out.symm, bstep hb hb2, hr2⟩
        case measure => have := HK.out; omega
    · have HF := Lib.hid (show n = ordN P A by
        have := HN.out
        rw [show k = (facs (P - 1)).length by omega, List.take_length] at this
        exact this)
      go_wp2
      go_ret
      exact ⟨ret_int (by rw [HF.out]), hb⟩
noncomputable def ordS (p a : Int) : Int × Int := if bothE p a = 0 then (if a = 0 then (0, 18) else (((ordN p.toNat a.toNat : Nat) : Int), 0)) else (0, bothE p a)
theorem ringOrder_any (p a : Int) (w : World) (hp1 : -9223372036854775808 ≤ p) (hp2 : p ≤ 9223372036854775807) :
    Calls Try.prog 18 #[.int .i64 p, .int .i64 a] w (RetV w (ordS p a)) := by
  rcases both_cases p a with ⟨e0, P, A, rfl, rfl, h2, h3, hP, hA⟩ | e0
  · have c0 : (bothE (P : Int) (A : Int) != 0) = false := by rw [e0]; rfl
    have HP := Lib.hid hP
    have HE := Lib.hid e0
    clear hP e0
    by_cases hn : A = 0
    · have HS := Lib.hid (show ordS P A = (0, 18) by unfold ordS; rw [if_pos HE.out, if_pos (by omega)])
      have c1 : ((A : Int) == 0) = true := by rw [hn]; rfl
      clear hn
      go_enter Try.func18, Try.ntmps18
      go_wp2_with fail
      refine (element_any _ _ _ (by omega) (by omega)).mono ?_
      rintro _ w1 ⟨rfl, hb1⟩
      go_wp2
      go_ret2
      exact RetV.mk HS.out hb1
    · have HS := Lib.hid (show ordS P A = (((ordN P A : Nat) : Int), 0) by unfold ordS; rw [if_pos HE.out, if_neg (by omega)]; rfl)
      have c1 : ((A : Int) == 0) = false := by rw [beq_eq_false_iff_ne]; omega
      have g0 : IntKind.i64.wrap ((P : Int) - 1) = ((P - 1 : Nat) : Int) := by rw [IntWalk.i64_in _ (by omega)]; omega
      clear hn
      go_enter Try.func18, Try.ntmps18
      go_wp2_with fail
      refine (element_any _ _ _ (by omega) (by omega)).mono ?_
      rintro _ w0 ⟨rfl, hb0⟩
      go_wp2_with fail
      refine (factors_any (P - 1) _ (by omega) (by omega)).mono ?_
      rintro _ w1 ⟨A1, c1', rfl, r1, hb1⟩
      have hB1 := bstep hb0 hb1
      clear hb0 hb1
      go_wp2
      have hfl := fac_len (n := P - 1) (by omega) (by omega)
      have hml := toI_len (facs (P - 1))
      have hge := Lib.hid (fun (k : Nat) hk => fac_ge (n := P - 1) (k := k) (by omega) hk)
      have hle := Lib.hid (fun (k : Nat) hk => fac_le (n := P - 1) (k := k) (by omega) hk)
      simp only [hml]
      go_loopg [7, 24] (facs (P - 1)).length (fun gk o i wr => ∃ (k n : Nat), k + gk = (facs (P - 1)).length ∧ o = .int .i64 n ∧ i = .int .i64 k ∧ n ≤ P - 1 ∧ Hid (n = ordL P A ((facs (P - 1)).take k) (P - 1)) ∧ Below w.heap.size w wr ∧ RI .i64 wr A1 (toI (facs (P - 1))))
      case atStart => exact ⟨0, P - 1, by omega, rfl, rfl, by omega, Lib.hid rfl, hB1, r1⟩
      case round =>
        obtain ⟨k, n, hk, rfl, rfl, hn, HN, hb, hr⟩ := hrel
        have hk' : k ≤ (facs (P - 1)).length := by omega
        have HK := Lib.hid hk
        clear hk
        by_cases hlt : k < (facs (P - 1)).length
        · obtain ⟨b1, off1, rfl, hlw1, hc1⟩ := hr.at2 (i := k) (by rw [hml]; exact hlt)
          rw [toI_at _ hlt] at hc1
          have hq2 := hge.out k hlt
          have hqle := hle.out k hlt
          have HS := Lib.hid (take_ordL P A (facs (P - 1)) k (P - 1) hlt)
          generalize (facs (P - 1)).getD k 0 = q at *
          have g1 : wrap64 ((n : Int) / (q : Int)) = ((n / q : Nat) : Int) := quo_wrap (by omega)
          have g2 : n / q ≤ n := Nat.div_le_self n q
          go_wp2_with fail
          rw [g1]
          refine (power_any P A (n / q) _ h2 h3 (by omega) (by omega)).mono ?_
          rintro _ w2 ⟨rfl, hb2⟩
          skip
          generalize hX : A ^ (n / q) % P = X
          have hr2 := hr.keep hb2
          obtain ⟨b3, off3, e3, hlw3, hc3⟩ := hr2.at2 (i := k) (by rw [hml]; exact hlt)
          clear hc3 e3 hlw3
          have hcw := (hb2.cell (p := ⟨b1, off1 + k, none⟩) hlw1).trans hc1
          by_cases h1 : X = 1
          · have f2 : ((X : Int) == 1) = true := by rw [h1]; rfl
            have e2 : ordStep P A q n = n / q := by unfold ordStep; rw [hX, if_pos h1]
            rw [← HN.out, e2] at HS
            clear h1 e2 hX
            go_wp2
            go_roundg (gk - 1)
            case rel => exact ⟨k + 1, n / q, by have := HK.out; omega, congrArg (Value.int .i64) g1, by go_num, by omega, Lib.hid HS.out.symm, bstep hb hb2, hr2⟩
            case measure => have := HK.out; omega
          · have f2 : ((X : Int) == 1) = false := by rw [beq_eq_false_iff_ne]; omega
            have e2 : ordStep P A q n = n := by unfold ordStep; rw [hX, if_neg h1]
            rw [← HN.out, e2] at HS
            clear h1 e2 hX
            go_wp2
            go_roundg (gk - 1)
            case rel => exact ⟨k + 1, n, by have := HK.out; omega, rfl, by go_num, by omega, Lib.hid HS.out.symm, bstep hb hb2, hr2⟩
            case measure => have := HK.out; omega
        · have HF := Lib.hid (show n = ordN P A by
            have := HN.out
            rw [show k = (facs (P - 1)).length by omega, List.take_length] at this
            exact this)
          go_wp2
          go_ret2
          exact RetV.mk (HS.out.trans (by rw [HF.out])) hb
  · have c0 : (bothE p a != 0) = true := by rw [bne_iff_ne]; omega
    have HS := Lib.hid (show ordS p a = (0, bothE p a) by unfold ordS; rw [if_neg (by omega)])
    clear e0
    go_enter Try.func18, Try.ntmps18
    go_wp2_with fail
    refine (element_any _ _ _ hp1 hp2).mono ?_
    rintro _ w1 ⟨rfl, hb1⟩
    go_wp2
    go_ret2
    exact RetV.mk HS.out hb1
end Go.Proofs.Ytnngkghmhbcgeaa
