/-
  Contracts: fringeref10.Order, generator, Generator, Root (the program's and the reference's), fringeref10.Same.
-/
import Derived.Test.YtnngkghmhbcgeaaRingG
import Derived.WalkMore
import Derived.Deep.RegionHeld3
namespace Go.Proofs.Ytnngkghmhbcgeaa
open Go.RowKit Num
set_option linter.unusedVariables false

theorem refOrder_any (p a : Int) (w : World) (hp1 : -9223372036854775808 ≤ p) (hp2 : p ≤ 9223372036854775807) :
    Calls Try.prog 19 #[.int .i64 p, .int .i64 a] w (RetV w (ordS p a)) := by
  rcases both_cases p a with ⟨e0, P, A, rfl, rfl, h2, h3, hP, hA⟩ | e0
  · have c0 : (bothE (P : Int) (A : Int) != 0) = false := by rw [e0]; rfl
    have HP := Lib.hid hP
    have HE := Lib.hid e0
    clear hP e0
    by_cases hn : A = 0
    · have HS := Lib.hid (show ordS P A = (0, 18) by unfold ordS; rw [if_pos HE.out, if_pos (by omega)])
      have c1 : ((A : Int) == 0) = true := by rw [hn]; rfl
      clear hn
      go_enter Try.func19, Try.ntmps19
      go_wp2_with fail
      refine (refBoth_any _ _ _ (by omega) (by omega)).mono ?_
      rintro _ w1 ⟨rfl, hb1⟩
      go_wp2
      go_ret2
      exact RetV.mk HS.out hb1
    · have HS := Lib.hid (show ordS P A = (((ordN P A : Nat) : Int), 0) by unfold ordS; rw [if_pos HE.out, if_neg (by omega)]; rfl)
      have c1 : ((A : Int) == 0) = false := by rw [beq_eq_false_iff_ne]; omega
      clear hn
      go_enter Try.func19, Try.ntmps19
      go_wp2_with fail
      refine (refBoth_any _ _ _ (by omega) (by omega)).mono ?_
      rintro _ w1 ⟨rfl, hb1⟩
      go_wp2_with fail
      refine (refOrder_in P A _ h2 h3 (by omega)).mono ?_
      rintro _ w2 ⟨rfl, hb2⟩
      go_wp2
      go_ret2
      exact RetV.mk HS.out (bstep hb1 hb2)
  · have c0 : (bothE p a != 0) = true := by rw [bne_iff_ne]; omega
    have HS := Lib.hid (show ordS p a = (0, bothE p a) by unfold ordS; rw [if_neg (by omega)])
    clear e0
    go_enter Try.func19, Try.ntmps19
    go_wp2_with fail
    refine (refBoth_any _ _ _ hp1 hp2).mono ?_
    rintro _ w1 ⟨rfl, hb1⟩
    go_wp2_with fail
    refine (refBoth_any _ _ _ hp1 hp2).mono ?_
    rintro _ w2 ⟨rfl, hb2⟩
    go_wp2
    go_ret2
    exact RetV.mk HS.out (bstep hb1 hb2)

theorem gen_at {P a : Nat} (hP : Pr P) (h1 : 1 ≤ a) (h2 : a < P) (hg : Gen P a) (hm : ∀ m, 1 ≤ m → m < a → ¬ Gen P m) : genN P = a :=
  genN_eq hP ⟨h1, h2, hg, fun m h3 h4 => by
    apply Classical.byContradiction
    intro hc
    exact hm m h3 (by omega) h4⟩
theorem gen_last {P : Nat} (hP : Pr P) (hm : ∀ m, 1 ≤ m → m < P - 1 → ¬ Gen P m) : genN P = P - 1 := by
  obtain ⟨a, b, c, d⟩ := genN_is hP
  apply Classical.byContradiction
  intro hc
  exact hm _ a (by omega) c
theorem gen_of {P a : Nat} (h : ∀ j, j < (facs (P - 1)).length → a ^ ((P - 1) / (facs (P - 1)).getD j 0) % P ≠ 1) : Gen P a := by
  intro q hq
  obtain ⟨j, hj, e⟩ := List.getElem_of_mem hq
  have := h j hj
  rw [getD_lt _ _ hj, e] at this
  exact this
theorem not_gen {P a j : Nat} (hj : j < (facs (P - 1)).length) (h : a ^ ((P - 1) / (facs (P - 1)).getD j 0) % P = 1) : ¬ Gen P a := by
  intro hg
  have := hg _ (List.getElem_mem hj)
  rw [getD_lt _ _ hj] at h
  exact this h

theorem refGen_in (P : Nat) (w : World) (h2 : 2 ≤ P) (h3 : P ≤ 2000000000) (hP : Pr P) :
    Calls Try.prog 35 #[.int .i64 P] w fun e w' => e = .returned (.int .i64 ((genN P : Nat) : Int)) ∧ Below w.heap.size w w' := by
  have HP := Lib.hid hP
  clear hP
  have g0 : IntKind.i64.wrap ((P : Int) - 1) = ((P - 1 : Nat) : Int) := by rw [IntWalk.i64_in _ (by omega)]; omega
  go_enter Try.func35, Try.ntmps35
  go_wp2
  go_loopg [3] (P - 1) (fun gk a wr => ∃ g : Nat, g + gk = P ∧ a = .int .i64 g ∧ 1 ≤ g ∧ g < P ∧ Below w.heap.size w wr ∧ Hid (∀ m, 1 ≤ m → m < g → ¬ Gen P m))
  case atStart => exact ⟨1, by omega, rfl, by omega, by omega, Below.refl _ _, Lib.hid (by intro m h1 h2; omega)⟩
  case round =>
    obtain ⟨g, hg, rfl, hg1, hg2, hb, HM⟩ := hrel
    have HG := Lib.hid hg
    clear hg
    go_wp2_with fail
    refine (refOrder_in P g _ h2 h3 (by omega)).mono ?_
    rintro _ w1 ⟨rfl, hb1⟩
    have hB := bstep hb hb1
    have hpg := HP.out.not_dvd_lt hg1 hg2
    have hgo := gen_ord HP.out hpg
    generalize ordN P g = o at *
    by_cases ho : o = P - 1
    · have f1 : ((o : Int) != ((P - 1 : Nat) : Int)) = false := by rw [ho]; simp
      have HGN := Lib.hid (gen_at HP.out hg1 hg2 (hgo.2 ho) HM.out)
      clear ho hgo
      go_wp2
      go_ret
      exact ⟨ret_int (by rw [HGN.out]), hB⟩
    · have f1 : ((o : Int) != ((P - 1 : Nat) : Int)) = true := by rw [bne_iff_ne]; omega
      have hng : ¬ Gen P g := fun h => ho (hgo.1 h)
      have hlt : g < P - 1 := by
        apply Classical.byContradiction
        intro hc
        obtain ⟨a, b, c, d⟩ := genN_is HP.out
        by_cases he : genN P = g
        · exact hng (he ▸ c)
        · exact HM.out (genN P) a (by omega) c
      have HNG := Lib.hid hng
      clear ho hgo hng
      go_wp2
      go_roundg (gk - 1)
      case rel =>
        refine ⟨g + 1, by have := HG.out; omega, by go_num, by omega, by omega, hB, Lib.hid ?_⟩
        intro m h1 h4
        by_cases e : m = g
        · subst e; exact HNG.out
        · exact HM.out m h1 (by omega)
      case measure => have := HG.out; omega

theorem gen_in (P : Nat) (w : World) (h2 : 2 ≤ P) (h3 : P ≤ 2000000000) (hP : Pr P) :
    Calls Try.prog 34 #[.int .i64 P] w fun e w' => e = .returned (.int .i64 ((genN P : Nat) : Int)) ∧ Below w.heap.size w w' := by
  have HP := Lib.hid hP
  clear hP
  have g0 : IntKind.i64.wrap ((P : Int) - 1) = ((P - 1 : Nat) : Int) := by rw [IntWalk.i64_in _ (by omega)]; omega
  have hfl := fac_len (n := P - 1) (by omega) (by omega)
  have hml := toI_len (facs (P - 1))
  have hge := Lib.hid (fun (k : Nat) hk => fac_ge (n := P - 1) (k := k) (by omega) hk)
  have hle := Lib.hid (fun (k : Nat) hk => fac_le (n := P - 1) (k := k) (by omega) hk)
  go_enter Try.func34, Try.ntmps34
  go_wp2
  go_step3
  go_wp2_with fail
  refine (factors_any (P - 1) _ (by omega) (by omega)).mono ?_
  rintro _ w1 ⟨A1, c1, rfl, r1, hb1⟩
  go_wp2
  go_step3
  go_wp2
  (try simp only [hml])
  go_loopg [4] (P - 1) (fun gk a wr => ∃ g : Nat, g + gk = P ∧ a = .int .i64 g ∧ 1 ≤ g ∧ g < P ∧ Below w.heap.size w wr ∧ RI .i64 wr A1 (toI (facs (P - 1))) ∧ Hid (∀ m, 1 ≤ m → m < g → ¬ Gen P m))
  case atStart => exact ⟨1, by omega, rfl, by omega, by omega, hb1, r1, Lib.hid (by intro m h1 h2; omega)⟩
  case round =>
    obtain ⟨g, hg, rfl, hg1, hg2, hb, hr, HM⟩ := hrel
    have HG := Lib.hid hg
    clear hg
    by_cases hlt : g < P - 1
    · obtain ⟨gu, hgu⟩ : ∃ gu, gu = gk := ⟨gk, rfl⟩
      have HGU := Lib.hid hgu
      clear hgu
      have d1 : decide (g < P - 1) = true := decide_eq_true hlt
      have d2 : decide ((g : Int) < ((P - 1 : Nat) : Int)) = true := decide_eq_true (by omega)
      go_wp2
      clear d1 d2
      go_loopg [18] (facs (P - 1)).length (fun gk i wr => ∃ k : Nat, k + gk = (facs (P - 1)).length ∧ i = .int .i64 k ∧ Below w.heap.size w wr ∧ RI .i64 wr A1 (toI (facs (P - 1))) ∧ Hid (∀ j, j < k → g ^ ((P - 1) / (facs (P - 1)).getD j 0) % P ≠ 1))
      case atStart => exact ⟨0, by omega, rfl, hb, hr, Lib.hid (by intro j hj; omega)⟩
      case round =>
        obtain ⟨k, hk, rfl, hb', hr', HJ⟩ := hrel
        have hk' : k ≤ (facs (P - 1)).length := by omega
        have HK := Lib.hid hk
        clear hk
        by_cases hlt2 : k < (facs (P - 1)).length
        · obtain ⟨b1, off1, rfl, hlw1, hc1⟩ := hr'.at2 (i := k) (by rw [hml]; exact hlt2)
          rw [toI_at _ hlt2] at hc1
          have hq2 := hge.out k hlt2
          have hqle := hle.out k hlt2
          have HNG := Lib.hid (fun h => not_gen (P := P) (a := g) (j := k) hlt2 h)
          generalize hq : (facs (P - 1)).getD k 0 = q at *
          have HQ := Lib.hid hq
          clear hq
          have g1 : wrap64 (((P - 1 : Nat) : Int) / (q : Int)) = (((P - 1) / q : Nat) : Int) := quo_wrap (by omega)
          have g2 : (P - 1) / q ≤ P - 1 := Nat.div_le_self _ q
          go_wp2_with fail
          rw [g1]
          refine (power_any P g ((P - 1) / q) _ h2 h3 (by omega) (by omega)).mono ?_
          rintro _ w2 ⟨rfl, hb2⟩
          have hB2 := bstep hb' hb2
          have hr2 := hr'.keep hb2
          generalize hX : g ^ ((P - 1) / q) % P = X
          by_cases h1 : X = 1
          · have f2 : ((X : Int) == 1) = true := by rw [h1]; rfl
            have HN := Lib.hid (HNG.out (hX.trans h1))
            clear h1 hX hc1
            go_wp2
            go_roundg (gu - 1)
            case rel =>
              refine ⟨g + 1, by have := HG.out; have := HGU.out; omega, by go_num, by omega, by omega, hB2, hr2, Lib.hid ?_⟩
              intro m h1 h4
              by_cases e : m = g
              · subst e; exact HN.out
              · exact HM.out m h1 (by omega)
            case measure => have := HG.out; have := HGU.out; omega
          · have f2 : ((X : Int) == 1) = false := by rw [beq_eq_false_iff_ne]; omega
            have HN := Lib.hid (show g ^ ((P - 1) / q) % P ≠ 1 by rw [hX]; exact h1)
            clear h1 hX hc1
            go_wp2
            go_roundg (gk - 1)
            case rel =>
              refine ⟨k + 1, by have := HK.out; omega, by go_num, hB2, hr2, Lib.hid ?_⟩
              intro j hj
              by_cases e : j = k
              · subst e; rw [HQ.out]; exact HN.out
              · exact HJ.out j (by omega)
            case measure => have := HK.out; omega
        · have HGN := Lib.hid (gen_at HP.out hg1 hg2 (gen_of (fun j hj => HJ.out j (by omega))) HM.out)
          go_wp2
          (try rw [Exit.noGoto_ret])
          go_ret
          exact ⟨ret_int (by rw [HGN.out]), hb'⟩
    · have e1 := Lib.hid (show g = P - 1 by omega)
      have HGN := Lib.hid (gen_last HP.out (fun m h1 h4 => HM.out m h1 (by have := e1.out; omega)))
      have d1 : decide (g < P - 1) = false := decide_eq_false hlt
      have d2 : decide ((g : Int) < ((P - 1 : Nat) : Int)) = false := decide_eq_false (by omega)
      go_wp2
      (try rw [Exit.noGoto_ret])
      go_ret
      exact ⟨ret_int (by rw [HGN.out, ← e1.out]), hb⟩
end Go.Proofs.Ytnngkghmhbcgeaa
