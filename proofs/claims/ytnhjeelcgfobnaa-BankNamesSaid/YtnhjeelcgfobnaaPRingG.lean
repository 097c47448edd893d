/-
  Contracts: ring.Order, fringeref10.order, fringeref10.Order, ring.generator.
  Contracts: fringeref10.Order, generator, Generator, Root (the program's and the reference's), fringeref10.Same.
  Contracts: Generator, Root (the program's and the reference's), fringeref10.Same.
-/
import Derived.Test.YtnhjeelcgfobnaaPRingC
import Derived.Test.YtnhjeelcgfobnaaPNumF
import Derived.WalkMore
import Derived.Deep.RegionHeld3
namespace Go.Proofs.Ytnhjeelcgfobnaa
open Go.RowKit Num
set_option maxRecDepth 8000
set_option linter.unusedVariables false

theorem quo_raw {m q : Nat} (h : m ≤ 2000000000) : IntKind.i64.wrap ((m : Int).tdiv (q : Int)) = ((m / q : Nat) : Int) := by
  have h1 : m / q ≤ m := Nat.div_le_self m q
  have h2 : ((m / q : Nat) : Int) ≤ 2000000000 := by omega
  have h3 : 0 ≤ ((m / q : Nat) : Int) := Int.natCast_nonneg _
  rw [Int.tdiv_eq_ediv_of_nonneg (by omega), ← Int.natCast_ediv]
  exact IntWalk.i64_in _ ⟨by omega, by omega⟩
theorem ordStep_le (p a q n : Nat) : ordStep p a q n ≤ n := by
  unfold ordStep; split
  · exact Nat.div_le_self n q
  · exact Nat.le_refl n
theorem take_ordL (p a : Nat) (l : List Nat) (k : Nat) (n : Nat) (h : k < l.length) : ordL p a (l.take (k + 1)) n = ordStep p a (l.getD k 0) (ordL p a (l.take k) n) := by
  rw [List.take_succ_eq_append_getElem h, ordL_snoc, getD_lt _ _ h]
theorem fac_ge {n : Nat} (h : 1 ≤ n) {k : Nat} (hk : k < (facs n).length) : 2 ≤ (facs n).getD k 0 := by
  rw [getD_lt _ _ hk]; exact ((facs_of h).2.1 _ (List.getElem_mem hk)).1
theorem fac_le {n : Nat} (h : 1 ≤ n) {k : Nat} (hk : k < (facs n).length) : (facs n).getD k 0 ≤ n := by
  rw [getD_lt _ _ hk]
  have h1 := dvd_mulAll (List.getElem_mem hk)
  rw [(facs_of h).1] at h1
  exact Nat.le_of_dvd (by omega) h1
theorem fac_len {n : Nat} (h : 1 ≤ n) (h2 : n ≤ 2000000000) : (facs n).length < 32 :=
  len_lt (facs_of h).2.1 (Nat.le_of_eq (facs_of h).1) (by omega)

theorem refOrder_in (P A : Nat) (w : World) (h2 : 2 ≤ P) (h3 : P ≤ 2000000000) (hA : A ≤ 2000000000) :
    Calls Try.prog 83 #[.int .i64 P, .int .i64 A] w fun e w' => e = .returned (.int .i64 ((ordN P A : Nat) : Int)) ∧ Below w.heap.size w w' := by
  have g0 : IntKind.i64.wrap ((P : Int) - 1) = ((P - 1 : Nat) : Int) := by rw [IntWalk.i64_in _ (by omega)]; omega
  go_enter Try.func83, Try.ntmps83
  go_wp2_with fail
  refine (refFactors_any (P - 1) _ (by omega) (by omega)).mono ?_
  rintro _ w1 ⟨A1, c1, rfl, r1, hB1⟩
  go_wp2
  have hfl := fac_len (n := P - 1) (by omega) (by omega)
  have hml := toI_len (facs (P - 1))
  have hge := Lib.hid (fun (k : Nat) hk => fac_ge (n := P - 1) (k := k) (by omega) hk)
  have hle := Lib.hid (fun (k : Nat) hk => fac_le (n := P - 1) (k := k) (by omega) hk)
  simp only [hml]
  go_loopg [5, 8] (facs (P - 1)).length (fun gk o i wr => ∃ (k n : Nat), k + gk = (facs (P - 1)).length ∧ o = .int .i64 n ∧ i = .int .i64 k ∧ n ≤ P - 1 ∧ Hid (n = ordL P A ((facs (P - 1)).take k) (P - 1)) ∧ Below w.heap.size w wr ∧ RI .i64 wr A1 (toI (facs (P - 1))))
  case atStart => exact ⟨0, P - 1, by omega, rfl, rfl, by omega, Lib.hid rfl, hB1, r1⟩
  case round =>
    obtain ⟨k, n, hk, rfl, rfl, hn, HN, hb, hr⟩ := hrel
    have hk' : k ≤ (facs (P - 1)).length := by omega
    have HK := Lib.hid hk
    clear hk
    by_cases hlt : k < (facs (P - 1)).length
    · obtain ⟨b1, off1, rfl, hlw1, hc1⟩ := hr.at2 (i := k) (by rw [hml]; exact hlt)
      rw [toI_at _ hlt] at hc1
      have hq2 := hge.out k hlt
      have hqle := hle.out k hlt
      have HS := Lib.hid (take_ordL P A (facs (P - 1)) k (P - 1) hlt)
      generalize (facs (P - 1)).getD k 0 = q at *
      have g1 : wrap64 ((n : Int) / (q : Int)) = ((n / q : Nat) : Int) := quo_wrap (by omega)
      have g2 : n / q ≤ n := Nat.div_le_self n q
      go_wp2_with fail
      rw [g1]
      refine (refPower_any P A (n / q) _ h2 h3 (by omega) (by omega)).mono ?_
      rintro _ w2 ⟨rfl, rfl⟩
      have hb2 := Below.refl wr.heap.size wr
      generalize hX : A ^ (n / q) % P = X
      have hr2 := hr.keep hb2
      obtain ⟨b3, off3, e3, hlw3, hc3⟩ := hr2.at2 (i := k) (by rw [hml]; exact hlt)
      clear hc3 e3 hlw3
      have hcw := (hb2.cell (p := ⟨b1, off1 + k, none⟩) hlw1).trans hc1
      by_cases h1 : X = 1
      · have f2 : ((X : Int) == 1) = true := by rw [h1]; rfl
        have e2 : ordStep P A q n = n / q := by unfold ordStep; rw [hX, if_pos h1]
        rw [← HN.out, e2] at HS
        clear h1 e2 hX
        go_wp2
        go_roundg (gk - 1)
        case rel => exact ⟨k + 1, n / q, by have := HK.out; omega, congrArg (Value.int .i64) g1, by go_num, by omega, Lib.hid HS.out.symm, bstep hb hb2, hr2⟩
        case measure => have := HK.out; omega
      · have f2 : ((X : Int) == 1) = false := by rw [beq_eq_false_iff_ne]; omega
        have e2 : ordStep P A q n = n := by unfold ordStep; rw [hX, if_neg h1]
        rw [← HN.out, e2] at HS
        clear h1 e2 hX
        go_wp2
        go_roundg (gk - 1)
        case rel => exact ⟨k + 1, n, by have := HK.out; omega, rfl, by go_num, by omega, Lib.hid HS.out.symm, bstep hb hb2, hr2⟩
        case measure => have := HK.out; omega
    · have HF := Lib.hid (show n = ordN P A by
        have := HN.out
        rw [show k = (facs (P - 1)).length by omega, List.take_length] at this
        exact this)
      go_wp2
      go_ret
      exact ⟨ret_int (by rw [HF.out]), hb⟩
noncomputable def ordS (p a : Int) : Int × Int := if bothE p a = 0 then (if a = 0 then (0, 18) else (((ordN p.toNat a.toNat : Nat) : Int), 0)) else (0, bothE p a)
end Go.Proofs.Ytnhjeelcgfobnaa
namespace Go.Proofs.Ytnhjeelcgfobnaa
open Go.RowKit Num
set_option maxRecDepth 8000
set_option linter.unusedVariables false

theorem gen_at {P a : Nat} (hP : Pr P) (h1 : 1 ≤ a) (h2 : a < P) (hg : Gen P a) (hm : ∀ m, 1 ≤ m → m < a → ¬ Gen P m) : genN P = a :=
  genN_eq hP ⟨h1, h2, hg, fun m h3 h4 => by
    apply Classical.byContradiction
    intro hc
    exact hm m h3 (by omega) h4⟩
theorem gen_last {P : Nat} (hP : Pr P) (hm : ∀ m, 1 ≤ m → m < P - 1 → ¬ Gen P m) : genN P = P - 1 := by
  obtain ⟨a, b, c, d⟩ := genN_is hP
  apply Classical.byContradiction
  intro hc
  exact hm _ a (by omega) c
theorem gen_of {P a : Nat} (h : ∀ j, j < (facs (P - 1)).length → a ^ ((P - 1) / (facs (P - 1)).getD j 0) % P ≠ 1) : Gen P a := by
  intro q hq
  obtain ⟨j, hj, e⟩ := List.getElem_of_mem hq
  have := h j hj
  rw [getD_lt _ _ hj, e] at this
  exact this
theorem not_gen {P a j : Nat} (hj : j < (facs (P - 1)).length) (h : a ^ ((P - 1) / (facs (P - 1)).getD j 0) % P = 1) : ¬ Gen P a := by
  intro hg
  have := hg _ (List.getElem_mem hj)
  rw [getD_lt _ _ hj] at h
  exact this h

theorem refGen_in (P : Nat) (w : World) (h2 : 2 ≤ P) (h3 : P ≤ 2000000000) (hP : Pr P) :
    Calls Try.prog 82 #[.int .i64 P] w fun e w' => e = .returned (.int .i64 ((genN P : Nat) : Int)) ∧ Below w.heap.size w w' := by
  have HP := Lib.hid hP
  clear hP
  have g0 : IntKind.i64.wrap ((P : Int) - 1) = ((P - 1 : Nat) : Int) := by rw [IntWalk.i64_in _ (by omega)]; omega
  go_enter Try.func82, Try.ntmps82
  go_wp2
  go_loopg [3] (P - 1) (fun gk a wr => ∃ g : Nat, g + gk = P ∧ a = .int .i64 g ∧ 1 ≤ g ∧ g < P ∧ Below w.heap.size w wr ∧ Hid (∀ m, 1 ≤ m → m < g → ¬ Gen P m))
  case atStart => exact ⟨1, by omega, rfl, by omega, by omega, Below.refl _ _, Lib.hid (by intro m h1 h2; omega)⟩
  case round =>
    obtain ⟨g, hg, rfl, hg1, hg2, hb, HM⟩ := hrel
    have HG := Lib.hid hg
    clear hg
    go_wp2_with fail
    refine (refOrder_in P g _ h2 h3 (by omega)).mono ?_
    rintro _ w1 ⟨rfl, hb1⟩
    have hB := bstep hb hb1
    have hpg := HP.out.not_dvd_lt hg1 hg2
    have hgo := gen_ord HP.out hpg
    generalize ordN P g = o at *
    by_cases ho : o = P - 1
    · have f1 : ((o : Int) != ((P - 1 : Nat) : Int)) = false := by rw [ho]; simp
      have HGN := Lib.hid (gen_at HP.out hg1 hg2 (hgo.2 ho) HM.out)
      clear ho hgo
      go_wp2
      go_ret
      exact ⟨ret_int (by rw [HGN.out]), hB⟩
    · have f1 : ((o : Int) != ((P - 1 : Nat) : Int)) = true := by rw [bne_iff_ne]; omega
      have hng : ¬ Gen P g := fun h => ho (hgo.1 h)
      have hlt : g < P - 1 := by
        apply Classical.byContradiction
        intro hc
        obtain ⟨a, b, c, d⟩ := genN_is HP.out
        by_cases he : genN P = g
        · exact hng (he ▸ c)
        · exact HM.out (genN P) a (by omega) c
      have HNG := Lib.hid hng
      clear ho hgo hng
      go_wp2
      go_roundg (gk - 1)
      case rel =>
        refine ⟨g + 1, by have := HG.out; omega, by go_num, by omega, by omega, hB, Lib.hid ?_⟩
        intro m h1 h4
        by_cases e : m = g
        · subst e; exact HNG.out
        · exact HM.out m h1 (by omega)
      case measure => have := HG.out; omega

theorem gen_in (P : Nat) (w : World) (h2 : 2 ≤ P) (h3 : P ≤ 2000000000) (hP : Pr P) :
    Calls Try.prog 68 #[.int .i64 P] w fun e w' => e = .returned (.int .i64 ((genN P : Nat) : Int)) ∧ Below w.heap.size w w' := by
  have HP := Lib.hid hP
  clear hP
  have g0 : IntKind.i64.wrap ((P : Int) - 1) = ((P - 1 : Nat) : Int) := by rw [IntWalk.i64_in _ (by omega)]; omega
  have hfl := fac_len (n := P - 1) (by omega) (by omega)
  have hml := toI_len (facs (P - 1))
  have hge := Lib.hid (fun (k : Nat) hk => fac_ge (n := P - 1) (k := k) (by omega) hk)
  have hle := Lib.hid (fun (k : Nat) hk => fac_le (n := P - 1) (k := k) (by omega) hk)
  go_enter Try.func68, Try.ntmps68
  go_wp2
  go_step3
  go_wp2_with fail
  refine (factors_any (P - 1) _ (by omega) (by omega)).mono ?_
  rintro _ w1 ⟨A1, c1, rfl, r1, hb1⟩
  go_wp2
  go_step3
  go_wp2
  (try simp only [hml])
  go_loopg [4] (P - 1) (fun gk a wr => ∃ g : Nat, g + gk = P ∧ a = .int .i64 g ∧ 1 ≤ g ∧ g < P ∧ Below w.heap.size w wr ∧ RI .i64 wr A1 (toI (facs (P - 1))) ∧ Hid (∀ m, 1 ≤ m → m < g → ¬ Gen P m))
  case atStart => exact ⟨1, by omega, rfl, by omega, by omega, hb1, r1, Lib.hid (by intro m h1 h2; omega)⟩
  case round =>
    obtain ⟨g, hg, rfl, hg1, hg2, hb, hr, HM⟩ := hrel
    have HG := Lib.hid hg
    clear hg
    by_cases hlt : g < P - 1
    · obtain ⟨gu, hgu⟩ : ∃ gu, gu = gk := ⟨gk, rfl⟩
      have HGU := Lib.hid hgu
      clear hgu
      have d1 : decide (g < P - 1) = true := decide_eq_true hlt
      have d2 : decide ((g : Int) < ((P - 1 : Nat) : Int)) = true := decide_eq_true (by omega)
      go_wp2
      clear d1 d2
      go_loopg [18] (facs (P - 1)).length (fun gk i wr => ∃ k : Nat, k + gk = (facs (P - 1)).length ∧ i = .int .i64 k ∧ Below w.heap.size w wr ∧ RI .i64 wr A1 (toI (facs (P - 1))) ∧ Hid (∀ j, j < k → g ^ ((P - 1) / (facs (P - 1)).getD j 0) % P ≠ 1))
      case atStart => exact ⟨0, by omega, rfl, hb, hr, Lib.hid (by intro j hj; omega)⟩
      case round =>
        obtain ⟨k, hk, rfl, hb', hr', HJ⟩ := hrel
        have hk' : k ≤ (facs (P - 1)).length := by omega
        have HK := Lib.hid hk
        clear hk
        by_cases hlt2 : k < (facs (P - 1)).length
        · obtain ⟨b1, off1, rfl, hlw1, hc1⟩ := hr'.at2 (i := k) (by rw [hml]; exact hlt2)
          rw [toI_at _ hlt2] at hc1
          have hq2 := hge.out k hlt2
          have hqle := hle.out k hlt2
          have HNG := Lib.hid (fun h => not_gen (P := P) (a := g) (j := k) hlt2 h)
          generalize hq : (facs (P - 1)).getD k 0 = q at *
          have HQ := Lib.hid hq
          clear hq
          have g1 : wrap64 (((P - 1 : Nat) : Int) / (q : Int)) = (((P - 1) / q : Nat) : Int) := quo_wrap (by omega)
          have g2 : (P - 1) / q ≤ P - 1 := Nat.div_le_self _ q
          go_wp2_with fail
          rw [g1]
          refine (power_any P g ((P - 1) / q) _ h2 h3 (by omega) (by omega)).mono ?_
          rintro _ w2 ⟨rfl, hb2⟩
          have hB2 := bstep hb' hb2
          have hr2 := hr'.keep hb2
          generalize hX : g ^ ((P - 1) / q) % P = X
          by_cases h1 : X = 1
          · have f2 : ((X : Int) == 1) = true := by rw [h1]; rfl
            have HN := Lib.hid (HNG.out (hX.trans h1))
            clear h1 hX hc1
            go_wp2
            go_roundg (gu - 1)
            case rel =>
              refine ⟨g + 1, by have := HG.out; have := HGU.out; omega, by go_num, by omega, by omega, hB2, hr2, Lib.hid ?_⟩
              intro m h1 h4
              by_cases e : m = g
              · subst e; exact HN.out
              · exact HM.out m h1 (by omega)
            case measure => have := HG.out; have := HGU.out; omega
          · have f2 : ((X : Int) == 1) = false := by rw [beq_eq_false_iff_ne]; omega
            have HN := Lib.hid (show g ^ ((P - 1) / q) % P ≠ 1 by rw [hX]; exact h1)
            clear h1 hX hc1
            go_wp2
            go_roundg (gk - 1)
            case rel =>
              refine ⟨k + 1, by have := HK.out; omega, by go_num, hB2, hr2, Lib.hid ?_⟩
              intro j hj
              by_cases e : j = k
              · subst e; rw [HQ.out]; exact HN.out
              · exact HJ.out j (by omega)
            case measure => have := HK.out; omega
        · have HGN := Lib.hid (gen_at HP.out hg1 hg2 (gen_of (fun j hj => HJ.out j (by omega))) HM.out)
          go_wp2
          (try rw [Exit.noGoto_ret])
          go_ret
          exact ⟨ret_int (by rw [HGN.out]), hb'⟩
    · have e1 := Lib.hid (show g = P - 1 by omega)
      have HGN := Lib.hid (gen_last HP.out (fun m h1 h4 => HM.out m h1 (by have := e1.out; omega)))
      have d1 : decide (g < P - 1) = false := decide_eq_false hlt
      have d2 : decide ((g : Int) < ((P - 1 : Nat) : Int)) = false := decide_eq_false (by omega)
      go_wp2
      (try rw [Exit.noGoto_ret])
      go_ret
      exact ⟨ret_int (by rw [HGN.out, ← e1.out]), hb⟩
end Go.Proofs.Ytnhjeelcgfobnaa
namespace Go.Proofs.Ytnhjeelcgfobnaa
open Go.RowKit Num
set_option maxRecDepth 8000
set_option linter.unusedVariables false

noncomputable def genS (p : Int) : Int × Int := if okP p = true then (((genN p.toNat : Nat) : Int), 0) else (0, 2)
noncomputable def rootS (p n : Int) : Int × Int :=
  if okP p = true then (if n < 1 then (0, 2) else if (p - 1) % n ≠ 0 then (0, 6) else (((rootN p.toNat n.toNat : Nat) : Int), 0)) else (0, 2)
theorem genN_lt {P : Nat} (hP : Pr P) : genN P < P := (genN_is hP).2.1

set_option maxHeartbeats 400000 in
theorem ringRoot_any (p n : Int) (w : World) (hp1 : -9223372036854775808 ≤ p) (hp2 : p ≤ 9223372036854775807) (hn2 : n ≤ 9223372036854775807) :
    Calls Try.prog 53 #[.int .i64 p, .int .i64 n] w (RetV w (rootS p n)) := by
  rcases ok_cases p with ⟨e0, e1, P, rfl, h2, h3, hP⟩ | ⟨e0, e1⟩
  · have c0 : (chkE (P : Int) != 0) = false := by rw [e0]; rfl
    have HP := Lib.hid hP
    clear hP
    by_cases hn : n < 1
    · have HS := Lib.hid (show rootS P n = (0, 2) by unfold rootS; rw [if_pos e1, if_pos hn])
      go_enter Try.func53, Try.ntmps53
      go_wp2_with fail
      refine (ringCheck_any _ _ (by omega) (by omega)).mono ?_
      rintro _ w1 ⟨rfl, hb1⟩
      go_wp2
      go_ret2
      exact RetV.mk HS.out hb1
    · obtain ⟨N, rfl⟩ : ∃ N : Nat, n = N := ⟨n.toNat, by omega⟩
      have hN : 1 ≤ N := by omega
      have g0 : IntKind.i64.wrap ((P : Int) - 1) = ((P - 1 : Nat) : Int) := by rw [IntWalk.i64_in _ (by omega)]; omega
      have eP : ((P - 1 : Nat) : Int) = (P : Int) - 1 := by omega
      by_cases hm : (P - 1) % N = 0
      · have f1 : ((((P - 1) % N : Nat) : Int) != 0) = false := by rw [hm]; rfl
        have HS := Lib.hid (show rootS P N = (((rootN P N : Nat) : Int), 0) by
          unfold rootS
          rw [if_pos e1, if_neg hn, if_neg (by rw [← eP, ← Int.natCast_emod, hm]; simp)]; rfl)
        have hgl := genN_lt HP.out
        have hg1 : wrap64 (((P - 1 : Nat) : Int) / (N : Int)) = (((P - 1) / N : Nat) : Int) := quo_wrap (by omega)
        have hg1' : IntKind.i64.wrap (((P - 1 : Nat) : Int) / (N : Int)) = (((P - 1) / N : Nat) : Int) := by rw [IntWalk.i64_left]; exact hg1
        have hg2 : (P - 1) / N ≤ P - 1 := Nat.div_le_self _ N
        have HR := Lib.hid (show rootN P N = genN P ^ ((P - 1) / N) % P from rfl)
        have hz1 : ((N : Int) == 0) = false := by rw [beq_eq_false_iff_ne]; omega
        have hz2 : ¬ ((N : Int) = 0) := by omega
        have hz3 : ¬ (N = 0) := by omega
        clear hn hm eP
        generalize hQ : (P - 1) / N = Q at *
        clear hQ
        go_enter Try.func53, Try.ntmps53
        go_wp2_with fail
        refine (ringCheck_any _ _ (by omega) (by omega)).mono ?_
        rintro _ w1 ⟨rfl, hb1⟩
        go_wp2
        go_region_held3 (fun _ => True) (first | go_keep | exact trivial)
          ((first
            | (go_at_call 68; refine (gen_in P _ h2 h3 HP.out).mono ?_; rintro e w5 ⟨rfl, hb5⟩)
            | (go_at_call 67;  refine (power_any P (genN P) Q _ h2 h3 (by omega) (by omega)).mono ?_; rintro e w6 ⟨rfl, hb6⟩; rw [← HR.out])))
        all_goals go_wp2
        all_goals go_ret2
        all_goals exact RetV.mk HS.out (bstep (bstep (hb1.trans (below_drewN (Below.refl _ _) _)) hb5) hb6)
      · have f1 : ((((P - 1) % N : Nat) : Int) != 0) = true := by rw [bne_iff_ne]; omega
        have HS := Lib.hid (show rootS P N = (0, 6) by
          unfold rootS
          rw [if_pos e1, if_neg hn, if_pos (by rw [← eP, ← Int.natCast_emod]; omega)])
        clear hn hm eP
        go_enter Try.func53, Try.ntmps53
        go_wp2_with fail
        refine (ringCheck_any _ _ (by omega) (by omega)).mono ?_
        rintro _ w1 ⟨rfl, hb1⟩
        go_wp2
        go_ret2
        exact RetV.mk HS.out hb1
  · have c0 : (chkE p != 0) = true := by rw [e0]; rfl
    have HS := Lib.hid (show rootS p n = (0, chkE p) by unfold rootS; rw [e1, e0]; rfl)
    clear e0
    go_enter Try.func53, Try.ntmps53
    go_wp2_with fail
    refine (ringCheck_any _ _ hp1 hp2).mono ?_
    rintro _ w1 ⟨rfl, hb1⟩
    have hB := hb1
    go_wp2
    go_ret2
    exact RetV.mk HS.out hB
set_option maxHeartbeats 400000 in
theorem refRoot_any (p n : Int) (w : World) (hp1 : -9223372036854775808 ≤ p) (hp2 : p ≤ 9223372036854775807) (hn2 : n ≤ 9223372036854775807) :
    Calls Try.prog 73 #[.int .i64 p, .int .i64 n] w (RetV w (rootS p n)) := by
  rcases ok_cases p with ⟨e0, e1, P, rfl, h2, h3, hP⟩ | ⟨e0, e1⟩
  · have c0 : (chkE (P : Int) != 0) = false := by rw [e0]; rfl
    have HP := Lib.hid hP
    clear hP
    by_cases hn : n < 1
    · have HS := Lib.hid (show rootS P n = (0, 2) by unfold rootS; rw [if_pos e1, if_pos hn])
      go_enter Try.func73, Try.ntmps73
      go_wp2_with fail
      refine (refCheck_any _ _ (by omega) (by omega)).mono ?_
      rintro _ w1 ⟨rfl, hb1⟩
      go_wp2
      go_ret2
      exact RetV.mk HS.out hb1
    · obtain ⟨N, rfl⟩ : ∃ N : Nat, n = N := ⟨n.toNat, by omega⟩
      have hN : 1 ≤ N := by omega
      have g0 : IntKind.i64.wrap ((P : Int) - 1) = ((P - 1 : Nat) : Int) := by rw [IntWalk.i64_in _ (by omega)]; omega
      have eP : ((P - 1 : Nat) : Int) = (P : Int) - 1 := by omega
      by_cases hm : (P - 1) % N = 0
      · have f1 : ((((P - 1) % N : Nat) : Int) != 0) = false := by rw [hm]; rfl
        have HS := Lib.hid (show rootS P N = (((rootN P N : Nat) : Int), 0) by
          unfold rootS
          rw [if_pos e1, if_neg hn, if_neg (by rw [← eP, ← Int.natCast_emod, hm]; simp)]; rfl)
        have hgl := genN_lt HP.out
        have hg1 : wrap64 (((P - 1 : Nat) : Int) / (N : Int)) = (((P - 1) / N : Nat) : Int) := quo_wrap (by omega)
        have hg1' : IntKind.i64.wrap (((P - 1 : Nat) : Int) / (N : Int)) = (((P - 1) / N : Nat) : Int) := by rw [IntWalk.i64_left]; exact hg1
        have hg2 : (P - 1) / N ≤ P - 1 := Nat.div_le_self _ N
        have HR := Lib.hid (show rootN P N = genN P ^ ((P - 1) / N) % P from rfl)
        have hz1 : ((N : Int) == 0) = false := by rw [beq_eq_false_iff_ne]; omega
        have hz2 : ¬ ((N : Int) = 0) := by omega
        have hz3 : ¬ (N = 0) := by omega
        clear hn hm eP
        generalize hQ : (P - 1) / N = Q at *
        clear hQ
        go_enter Try.func73, Try.ntmps73
        go_wp2_with fail
        refine (refCheck_any _ _ (by omega) (by omega)).mono ?_
        rintro _ w1 ⟨rfl, hb1⟩
        go_wp2
        go_region_held3 (fun _ => True) (first | go_keep | exact trivial)
          ((first
            | (go_at_call 82; refine (refGen_in P _ h2 h3 HP.out).mono ?_; rintro e w5 ⟨rfl, hb5⟩)
            | (go_at_call 77;  refine (refPower_any P (genN P) Q _ h2 h3 (by omega) (by omega)).mono ?_; rintro e w6 ⟨rfl, rfl⟩; rw [← HR.out])))
        all_goals go_wp2
        all_goals go_ret2
        all_goals exact RetV.mk HS.out (bstep (hb1.trans (below_drewN (Below.refl _ _) _)) hb5)
      · have f1 : ((((P - 1) % N : Nat) : Int) != 0) = true := by rw [bne_iff_ne]; omega
        have HS := Lib.hid (show rootS P N = (0, 6) by
          unfold rootS
          rw [if_pos e1, if_neg hn, if_pos (by rw [← eP, ← Int.natCast_emod]; omega)])
        clear hn hm eP
        go_enter Try.func73, Try.ntmps73
        go_wp2_with fail
        refine (refCheck_any _ _ (by omega) (by omega)).mono ?_
        rintro _ w1 ⟨rfl, hb1⟩
        go_wp2
        go_ret2
        exact RetV.mk HS.out hb1
  · have c0 : (chkE p != 0) = true := by rw [e0]; rfl
    have HS := Lib.hid (show rootS p n = (0, chkE p) by unfold rootS; rw [e1, e0]; rfl)
    clear e0
    go_enter Try.func73, Try.ntmps73
    go_wp2_with fail
    refine (refCheck_any _ _ hp1 hp2).mono ?_
    rintro _ w1 ⟨rfl, hb1⟩
    (go_wp2_with fail; refine (refCheck_any _ _ hp1 hp2).mono ?_; rintro _ w2 ⟨rfl, hb2⟩; have hB := bstep hb1 hb2)
    go_wp2
    go_ret2
    exact RetV.mk HS.out hB
end Go.Proofs.Ytnhjeelcgfobnaa
