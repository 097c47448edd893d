/-
  The walk of AlignBack, where its guards let it by.
-/
import Derived.Test.YtbejkfeloffccaaAlignU
namespace Go.Proofs.Ytbejkfeloffccaa
open Go.RowKit
set_option linter.unusedVariables false

/-- Does one of the first n gaps hold the place k? -/
def inTo (L : List (Int × Int)) (k : Int) : Nat → Bool
  | 0 => false
  | n + 1 => inTo L k n || (decide ((L.getD n (0, 0)).1 ≤ k) && decide (k < (L.getD n (0, 0)).1 + (L.getD n (0, 0)).2))
theorem inTo_iff (L : List (Int × Int)) (k : Int) (n : Nat) (hn : n ≤ L.length) : inTo L k n = true ↔ ∃ j, ∃ h : j < L.length, j < n ∧ inGap L[j] k := by
  induction n with
  | zero => simp [inTo]
  | succ n ih =>
    have hlt : n < L.length := by omega
    rw [inTo, getD_lt _ _ hlt, Bool.or_eq_true, ih (by omega), Bool.and_eq_true, decide_eq_true_eq, decide_eq_true_eq]
    constructor
    · rintro (⟨j, hj, h1, h2⟩ | h)
      · exact ⟨j, hj, by omega, h2⟩
      · exact ⟨n, hlt, by omega, h⟩
    · rintro ⟨j, hj, h1, h2⟩
      rcases Nat.lt_or_ge j n with h3 | h3
      · exact .inl ⟨j, hj, h3, h2⟩
      · obtain rfl : j = n := by omega
        exact .inr h2
theorem inTo_law {xs : List Int} {k : Nat} (hk : k < xs.length) : inTo (gapsTo xs xs.length) k (gapsTo xs xs.length).length = (xs.getD k 0 == 0) := by
  rw [Bool.eq_iff_iff, inTo_iff _ _ _ (Nat.le_refl _), beq_iff_eq, ← (gaps_gi xs xs.length (Nat.le_refl _)).hit k hk]
  constructor
  · rintro ⟨j, hj, _, h⟩; exact ⟨_, List.getElem_mem hj, h⟩
  · rintro ⟨g, hg, h⟩
    obtain ⟨j, hj, rfl⟩ := List.mem_iff_getElem.1 hg
    exact ⟨j, hj, hj, h⟩
theorem gap_next {xs : List Int} {n : Nat} (h : n + 1 < (gapsTo xs xs.length).length) : (gapsTo xs xs.length)[n].1 + (gapsTo xs xs.length)[n].2 < (gapsTo xs xs.length)[n + 1].1 :=
  List.pairwise_iff_getElem.1 (gaps_gi xs xs.length (Nat.le_refl _)).order n (n + 1) (by omega) h (by omega)


set_option maxRecDepth 100000 in
set_option maxHeartbeats 8000000 in
theorem alignBack_main (S : Option Addr) (cs : Nat) (xs : List Int) (d : Int) (A : Option Addr) (c : Nat) (l : List (Int × List Int)) (B : Option Addr) (e : Nat) (l' : List (Int × List Int)) (a m : Int) (w : World)
    (hs : RI .i64 w S xs) (hx : RB w A l) (hlx : l.length ≤ 9223372036854775807) (hy : RB w B l') (hly : l'.length ≤ 9223372036854775807) (he : streamErr xs = 0) (hd : -64 ≤ d ∧ d ≤ 64) (hf : fitB l = true) (hf' : fitB l' = true) (hw : -1000000 ≤ a ∧ a ≤ 2000000 ∧ 0 ≤ m ∧ m ≤ 256) :
    Calls Try.prog 8 #[.slice S xs.length cs, .int .i64 d, .slice A l.length c, .slice B l'.length e, .int .i64 a, .int .i64 m] w fun e w' => e = .returned (.bool true) ∧ Below w.heap.size w w' := by
  have e1 : (streamErr xs != 0) = false := by simp [he]
  have hl5 := (streamErr_zero he).1
  have d1 : decide (300 < xs.length) = false := decide_eq_false (by omega)
  obtain ⟨g1, r1⟩ := fitB_yes hf
  obtain ⟨g2, r2⟩ := fitB_yes hf'
  obtain ⟨k1, k2⟩ := great_no g1
  obtain ⟨k3, k4⟩ := great_no g2
  have HALL := Lib.hid (show (∀ b ∈ l, b.2.length ≤ 140737488355328) ∧ (∀ b ∈ l', b.2.length ≤ 140737488355328) from ⟨fun b hb => by have := k1 b hb; omega, fun b hb => by have := k3 b hb; omega⟩)
  have HR := Lib.hid (And.intro r1 r2)
  have HE := Lib.hid he
  clear g1 g2 k1 k3 r1 r2 he
  obtain ⟨hd1, hd2⟩ := hd
  have hwin := winB_yes hw
  obtain ⟨hw1, hw2, hw3, hw4⟩ := hw
  obtain ⟨n, rfl⟩ := Int.eq_ofNat_of_zero_le hw3
  have HD1 := fun w hx => alignDelay_any S cs xs d w hx (by omega)
  have HD2 := fun A c w hx => alignDelay_any A c (delayed xs d) (-d) w hx (by rw [delayed_len]; omega)
  have HG := fun w hx => alignGaps_any S cs xs w hx (by omega)
  have HAl := fun w hx hy => alignAlign_any A B c e l l' d a n w hx hy (by omega) HALL.out.1 (by omega) HALL.out.2
  rw [delay_ok HE.out hd1 hd2] at HD1
  rw [delay_ok (delayed_ok HE.out) (by omega) (by omega)] at HD2
  rw [gaps_ok HE.out] at HG
  rw [aln_ok HR.out.1 HR.out.2 (by unfold delB; simp; omega) hwin] at HAl
  rw [delayed_len] at HD2
  clear hwin
  go_enter Try.func8, Try.ntmps8
  go_wp2_with fail
  refine (alive14 _).mono ?_
  rintro _ w1 ⟨rfl, hb1⟩
  go_wp2_with fail
  refine (long13_any _ _ _ _).mono ?_
  rintro _ _ ⟨rfl, rfl⟩
  go_wp2_with fail
  refine (refCheck13_any _ _ _ _ (hs.keep hb1) (by omega)).mono ?_
  rintro _ _ ⟨rfl, rfl⟩
  go_wp2_with fail
  refine (fit14_any _ _ _ _ (hx.keep hb1) hlx).mono ?_
  rintro _ w2 ⟨rfl, hb2⟩
  have hB2 := bstep hb1 hb2
  go_wp2_with fail
  refine (fit14_any _ _ _ _ (hy.keep hB2) hly).mono ?_
  rintro _ w3 ⟨rfl, hb3⟩
  have hB3 := bstep hB2 hb3
  clear hb1 hb2 hb3 hB2
  go_wp2_with fail
  refine (HD1 _ (hs.keep hB3)).mono ?_
  rintro _ w4 ⟨A4, c4, rfl, ho4, hb4⟩
  have r4 := own_RI ho4
  have hB4 := bstep hB3 hb4
  simp only [delayed_len]
  clear ho4 hb4 hB3 HD1
  go_wp2_with fail
  refine (HD2 _ _ _ r4).mono ?_
  rintro _ w5 ⟨A5, c5, rfl, ho5, hb5⟩
  have r5 := own_RI ho5
  have hB5 := bstep hB4 hb5
  simp only [delayed_len]
  clear ho5 hb5 hB4 HD2 r4
  go_wp2_with fail
  refine (HG _ (hs.keep hB5)).mono ?_
  rintro _ w6 ⟨A6, c6, rfl, ho6, hb6⟩
  have r6 := own_RL ho6
  have hB6 := bstep hB5 hb6
  replace r5 := r5.keep hb6
  clear ho6 hb6 hB5 HG
  have hgl := gapsTo_len xs xs.length
  have hgbd := gapsTo_bd xs xs.length
  have HGB := Lib.hid hgbd
  clear hgbd
  go_wp2
  go_loopg [20, 21, 22, 23] xs.length (fun gk i _ _ _ wr => ∃ (k q : Nat), k + gk = xs.length ∧ i = .int .i64 k ∧ wr = w6.drewN q)
  case atStart => exact ⟨0, 0, by omega, rfl, rfl⟩
  case round =>
    obtain ⟨k, q, hk, rfl, rfl⟩ := hrel
    have hk' : k ≤ xs.length := by omega
    have HK := Lib.hid hk
    clear hk
    by_cases hlt : k < xs.length
    · obtain ⟨b1, off1, rfl, hlw1, hc1⟩ := (hs.keep hB6).at2 hlt
      obtain ⟨b2, off2, rfl, hlw2, hc2⟩ := r5.at2 (i := k) (by rw [delayed_len, delayed_len]; exact hlt)
      rw [back_at hlt] at hc2
      have hlaw := inTo_law hlt
      generalize hXk : xs.getD k 0 = X at *
      clear hXk
      have dk : decide (k < xs.length) = true := decide_eq_true hlt
      rcases (show (0 ≤ (k : Int) + d ∧ (k : Int) + d < xs.length) ∨ (k : Int) + d < 0 ∨ (0 ≤ (k : Int) + d ∧ (xs.length : Int) ≤ (k : Int) + d) by omega) with hin | hin | hin
      · rw [if_neg (by omega)] at hc2
        obtain ⟨gu, rfl⟩ : ∃ gu : Nat, gu = gk := ⟨_, rfl⟩
        go_wp2
        go_loopg [22, 23] (gapsTo xs xs.length).length (fun gj v i wr => ∃ (j q' : Nat), j + gj = (gapsTo xs xs.length).length ∧ i = .int .i64 j ∧ v = .bool (inTo (gapsTo xs xs.length) k j) ∧ wr = w6.drewN q')
        case atStart => exact ⟨0, q, by omega, rfl, rfl, rfl⟩
        case round =>
          obtain ⟨j, q', hj, rfl, rfl, rfl⟩ := hrel
          have hj' : j ≤ (gapsTo xs xs.length).length := by omega
          have HJ := Lib.hid hj
          clear hj
          by_cases hlt2 : j < (gapsTo xs xs.length).length
          · obtain ⟨b3, off3, rfl, _, hd1', hd2'⟩ := r6.at_ hlt2
            have hgb := HGB.out _ (List.getElem_mem hlt2)
            have hst : inTo (gapsTo xs xs.length) k (j + 1) = (inTo (gapsTo xs xs.length) k j || (decide ((gapsTo xs xs.length)[j].1 ≤ k) && decide ((k : Int) < (gapsTo xs xs.length)[j].1 + (gapsTo xs xs.length)[j].2))) := by rw [inTo, getD_lt _ _ hlt2]
            rw [getD_lt _ _ hlt2] at hd1' hd2'
            generalize hG1 : (gapsTo xs xs.length)[j].1 = G1 at *
            generalize hG2 : (gapsTo xs xs.length)[j].2 = G2 at *
            clear hG1 hG2
            have f1 : IntKind.i64.wrap (G1 + G2) = G1 + G2 := IntWalk.i64_in _ (by omega)
            cases hb : inTo (gapsTo xs xs.length) k j with
            | true =>
              rw [hb, Bool.true_or] at hst
              have HS := Lib.hid hst
              clear hst hb
              go_wp2
              go_quiet (fail)
              go_wp2
              go_roundg (gk - 1)
              case rel => exact ⟨j + 1, _, by have := HJ.out; omega, by go_num, by rw [HS.out], rfl⟩
              case measure => have := HJ.out; omega
            | false =>
              rw [hb, Bool.false_or] at hst
              by_cases h3 : G1 ≤ (k : Int)
              · have d3 : decide (G1 ≤ (k : Int)) = true := decide_eq_true h3
                rw [d3, Bool.true_and] at hst
                by_cases h4 : (k : Int) < G1 + G2
                · have d4 : decide ((k : Int) < G1 + G2) = true := decide_eq_true h4
                  rw [d4] at hst
                  have HS := Lib.hid hst
                  clear hst hb
                  go_wp2
                  go_quiet (fail)
                  go_wp2
                  go_roundg (gk - 1)
                  case rel => exact ⟨j + 1, _, by have := HJ.out; omega, by go_num, by rw [HS.out], rfl⟩
                  case measure => have := HJ.out; omega
                · have d4 : decide ((k : Int) < G1 + G2) = false := decide_eq_false h4
                  rw [d4] at hst
                  have HS := Lib.hid hst
                  clear hst hb
                  go_wp2
                  go_quiet (fail)
                  go_wp2
                  go_roundg (gk - 1)
                  case rel => exact ⟨j + 1, _, by have := HJ.out; omega, by go_num, by rw [HS.out], rfl⟩
                  case measure => have := HJ.out; omega
              · have d3 : decide (G1 ≤ (k : Int)) = false := decide_eq_false h3
                rw [d3, Bool.false_and] at hst
                have HS := Lib.hid hst
                clear hst hb
                go_wp2
                go_quiet (fail)
                go_wp2
                go_roundg (gk - 1)
                case rel => exact ⟨j + 1, _, by have := HJ.out; omega, by go_num, by rw [HS.out], rfl⟩
                case measure => have := HJ.out; omega
          · obtain rfl : j = (gapsTo xs xs.length).length := by omega
            rw [hlaw]
            have t1 : (X != X) = false := by simp
            cases hz : (X == 0) with
            | true =>
              go_wp2
              go_roundg (gu - 1)
              case rel => exact ⟨k + 1, _, by have := HK.out; omega, by go_num, rfl⟩
              case measure => have := HK.out; omega
            | false =>
              go_wp2
              go_roundg (gu - 1)
              case rel => exact ⟨k + 1, _, by have := HK.out; omega, by go_num, rfl⟩
              case measure => have := HK.out; omega
      · rw [if_pos (by omega)] at hc2
        obtain ⟨gu, rfl⟩ : ∃ gu : Nat, gu = gk := ⟨_, rfl⟩
        go_wp2
        go_loopg [22, 23] (gapsTo xs xs.length).length (fun gj v i wr => ∃ (j q' : Nat), j + gj = (gapsTo xs xs.length).length ∧ i = .int .i64 j ∧ v = .bool (inTo (gapsTo xs xs.length) k j) ∧ wr = w6.drewN q')
        case atStart => exact ⟨0, q, by omega, rfl, rfl, rfl⟩
        case round =>
          obtain ⟨j, q', hj, rfl, rfl, rfl⟩ := hrel
          have hj' : j ≤ (gapsTo xs xs.length).length := by omega
          have HJ := Lib.hid hj
          clear hj
          by_cases hlt2 : j < (gapsTo xs xs.length).length
          · obtain ⟨b3, off3, rfl, _, hd1', hd2'⟩ := r6.at_ hlt2
            have hgb := HGB.out _ (List.getElem_mem hlt2)
            have hst : inTo (gapsTo xs xs.length) k (j + 1) = (inTo (gapsTo xs xs.length) k j || (decide ((gapsTo xs xs.length)[j].1 ≤ k) && decide ((k : Int) < (gapsTo xs xs.length)[j].1 + (gapsTo xs xs.length)[j].2))) := by rw [inTo, getD_lt _ _ hlt2]
            rw [getD_lt _ _ hlt2] at hd1' hd2'
            generalize hG1 : (gapsTo xs xs.length)[j].1 = G1 at *
            generalize hG2 : (gapsTo xs xs.length)[j].2 = G2 at *
            clear hG1 hG2
            have f1 : IntKind.i64.wrap (G1 + G2) = G1 + G2 := IntWalk.i64_in _ (by omega)
            cases hb : inTo (gapsTo xs xs.length) k j with
            | true =>
              rw [hb, Bool.true_or] at hst
              have HS := Lib.hid hst
              clear hst hb
              go_wp2
              go_quiet (fail)
              go_wp2
              go_roundg (gk - 1)
              case rel => exact ⟨j + 1, _, by have := HJ.out; omega, by go_num, by rw [HS.out], rfl⟩
              case measure => have := HJ.out; omega
            | false =>
              rw [hb, Bool.false_or] at hst
              by_cases h3 : G1 ≤ (k : Int)
              · have d3 : decide (G1 ≤ (k : Int)) = true := decide_eq_true h3
                rw [d3, Bool.true_and] at hst
                by_cases h4 : (k : Int) < G1 + G2
                · have d4 : decide ((k : Int) < G1 + G2) = true := decide_eq_true h4
                  rw [d4] at hst
                  have HS := Lib.hid hst
                  clear hst hb
                  go_wp2
                  go_quiet (fail)
                  go_wp2
                  go_roundg (gk - 1)
                  case rel => exact ⟨j + 1, _, by have := HJ.out; omega, by go_num, by rw [HS.out], rfl⟩
                  case measure => have := HJ.out; omega
                · have d4 : decide ((k : Int) < G1 + G2) = false := decide_eq_false h4
                  rw [d4] at hst
                  have HS := Lib.hid hst
                  clear hst hb
                  go_wp2
                  go_quiet (fail)
                  go_wp2
                  go_roundg (gk - 1)
                  case rel => exact ⟨j + 1, _, by have := HJ.out; omega, by go_num, by rw [HS.out], rfl⟩
                  case measure => have := HJ.out; omega
              · have d3 : decide (G1 ≤ (k : Int)) = false := decide_eq_false h3
                rw [d3, Bool.false_and] at hst
                have HS := Lib.hid hst
                clear hst hb
                go_wp2
                go_quiet (fail)
                go_wp2
                go_roundg (gk - 1)
                case rel => exact ⟨j + 1, _, by have := HJ.out; omega, by go_num, by rw [HS.out], rfl⟩
                case measure => have := HJ.out; omega
          · obtain rfl : j = (gapsTo xs xs.length).length := by omega
            rw [hlaw]
            have t1 : (0 != 0) = false := by simp
            cases hz : (X == 0) with
            | true =>
              go_wp2
              go_roundg (gu - 1)
              case rel => exact ⟨k + 1, _, by have := HK.out; omega, by go_num, rfl⟩
              case measure => have := HK.out; omega
            | false =>
              go_wp2
              go_roundg (gu - 1)
              case rel => exact ⟨k + 1, _, by have := HK.out; omega, by go_num, rfl⟩
              case measure => have := HK.out; omega
      · rw [if_pos (by omega)] at hc2
        obtain ⟨gu, rfl⟩ : ∃ gu : Nat, gu = gk := ⟨_, rfl⟩
        go_wp2
        go_loopg [22, 23] (gapsTo xs xs.length).length (fun gj v i wr => ∃ (j q' : Nat), j + gj = (gapsTo xs xs.length).length ∧ i = .int .i64 j ∧ v = .bool (inTo (gapsTo xs xs.length) k j) ∧ wr = w6.drewN q')
        case atStart => exact ⟨0, q, by omega, rfl, rfl, rfl⟩
        case round =>
          obtain ⟨j, q', hj, rfl, rfl, rfl⟩ := hrel
          have hj' : j ≤ (gapsTo xs xs.length).length := by omega
          have HJ := Lib.hid hj
          clear hj
          by_cases hlt2 : j < (gapsTo xs xs.length).length
          · obtain ⟨b3, off3, rfl, _, hd1', hd2'⟩ := r6.at_ hlt2
            have hgb := HGB.out _ (List.getElem_mem hlt2)
            have hst : inTo (gapsTo xs xs.length) k (j + 1) = (inTo (gapsTo xs xs.length) k j || (decide ((gapsTo xs xs.length)[j].1 ≤ k) && decide ((k : Int) < (gapsTo xs xs.length)[j].1 + (gapsTo xs xs.length)[j].2))) := by rw [inTo, getD_lt _ _ hlt2]
            rw [getD_lt _ _ hlt2] at hd1' hd2'
            generalize hG1 : (gapsTo xs xs.length)[j].1 = G1 at *
            generalize hG2 : (gapsTo xs xs.length)[j].2 = G2 at *
            clear hG1 hG2
            have f1 : IntKind.i64.wrap (G1 + G2) = G1 + G2 := IntWalk.i64_in _ (by omega)
            cases hb : inTo (gapsTo xs xs.length) k j with
            | true =>
              rw [hb, Bool.true_or] at hst
              have HS := Lib.hid hst
              clear hst hb
              go_wp2
              go_quiet (fail)
              go_wp2
              go_roundg (gk - 1)
              case rel => exact ⟨j + 1, _, by have := HJ.out; omega, by go_num, by rw [HS.out], rfl⟩
              case measure => have := HJ.out; omega
            | false =>
              rw [hb, Bool.false_or] at hst
              by_cases h3 : G1 ≤ (k : Int)
              · have d3 : decide (G1 ≤ (k : Int)) = true := decide_eq_true h3
                rw [d3, Bool.true_and] at hst
                by_cases h4 : (k : Int) < G1 + G2
                · have d4 : decide ((k : Int) < G1 + G2) = true := decide_eq_true h4
                  rw [d4] at hst
                  have HS := Lib.hid hst
                  clear hst hb
                  go_wp2
                  go_quiet (fail)
                  go_wp2
                  go_roundg (gk - 1)
                  case rel => exact ⟨j + 1, _, by have := HJ.out; omega, by go_num, by rw [HS.out], rfl⟩
                  case measure => have := HJ.out; omega
                · have d4 : decide ((k : Int) < G1 + G2) = false := decide_eq_false h4
                  rw [d4] at hst
                  have HS := Lib.hid hst
                  clear hst hb
                  go_wp2
                  go_quiet (fail)
                  go_wp2
                  go_roundg (gk - 1)
                  case rel => exact ⟨j + 1, _, by have := HJ.out; omega, by go_num, by rw [HS.out], rfl⟩
                  case measure => have := HJ.out; omega
              · have d3 : decide (G1 ≤ (k : Int)) = false := decide_eq_false h3
                rw [d3, Bool.false_and] at hst
                have HS := Lib.hid hst
                clear hst hb
                go_wp2
                go_quiet (fail)
                go_wp2
                go_roundg (gk - 1)
                case rel => exact ⟨j + 1, _, by have := HJ.out; omega, by go_num, by rw [HS.out], rfl⟩
                case measure => have := HJ.out; omega
          · obtain rfl : j = (gapsTo xs xs.length).length := by omega
            rw [hlaw]
            have t1 : (0 != 0) = false := by simp
            cases hz : (X == 0) with
            | true =>
              go_wp2
              go_roundg (gu - 1)
              case rel => exact ⟨k + 1, _, by have := HK.out; omega, by go_num, rfl⟩
              case measure => have := HK.out; omega
            | false =>
              go_wp2
              go_roundg (gu - 1)
              case rel => exact ⟨k + 1, _, by have := HK.out; omega, by go_num, rfl⟩
              case measure => have := HK.out; omega
    · clear HK r5
      go_wp2
      go_loopg [24] (gapsTo xs xs.length).length (fun gk i wr => ∃ (k2 q : Nat), k2 + gk = (gapsTo xs xs.length).length ∧ i = .int .i64 k2 ∧ wr = w6.drewN q)
      case atStart => exact ⟨0, _, by omega, rfl, rfl⟩
      case round =>
        obtain ⟨k2, q2, hk2, rfl, rfl⟩ := hrel
        have hk2' : k2 ≤ (gapsTo xs xs.length).length := by omega
        have HK2 := Lib.hid hk2
        clear hk2
        by_cases hlt2 : k2 < (gapsTo xs xs.length).length
        · obtain ⟨b3, off3, rfl, _, hd1', hd2'⟩ := r6.at_ hlt2
          have hgb := HGB.out _ (List.getElem_mem hlt2)
          rw [getD_lt _ _ hlt2] at hd1' hd2'
          have dz : decide ((gapsTo xs xs.length)[k2].2 < 1) = false := decide_eq_false (by omega)
          by_cases h0 : k2 = 0
          · have d3 : decide (0 < k2) = false := decide_eq_false (by omega)
            have d4 : decide ((0 : Int) < (k2 : Int)) = false := decide_eq_false (by omega)
            clear h0
            go_wp2
            go_quiet (fail)
            go_wp2
            go_roundg (gk - 1)
            case rel => exact ⟨k2 + 1, _, by have := HK2.out; omega, by go_num, rfl⟩
            case measure => have := HK2.out; omega
          · have d3 : decide (0 < k2) = true := decide_eq_true (by omega)
            have d4 : decide ((0 : Int) < (k2 : Int)) = true := decide_eq_true (by omega)
            have hlt3 : k2 - 1 < (gapsTo xs xs.length).length := by omega
            obtain ⟨b4, off4, eA4, _, hu1, hu2⟩ := r6.at_ hlt3
            obtain ⟨rfl, rfl⟩ : b3 = b4 ∧ off3 = off4 := by injection eA4 with eA4; injection eA4 with e1 e2; exact ⟨e1, e2⟩
            clear eA4
            have hgb2 := HGB.out _ (List.getElem_mem hlt3)
            rw [getD_lt _ _ hlt3] at hu1 hu2
            have hnx := gap_next (xs := xs) (n := k2 - 1) (by omega)
            have ek : k2 - 1 + 1 = k2 := by omega
            simp only [ek] at hnx
            have f1 : IntKind.i64.wrap ((k2 : Int) - 1) = (k2 : Int) - 1 := IntWalk.i64_in _ (by omega)
            have f2 : ((k2 : Int) - 1).toNat = k2 - 1 := by omega
            have f3 : 0 ≤ (k2 : Int) - 1 := by omega
            have f4 : (k2 : Int) - 1 < (gapsTo xs xs.length).length := by omega
            have f5 : 1 ≤ (k2 : Int) := by omega
            have f6 : 1 ≤ k2 := by omega
            have f7 : IntKind.i64.wrap ((gapsTo xs xs.length)[k2 - 1].1 + (gapsTo xs xs.length)[k2 - 1].2) = (gapsTo xs xs.length)[k2 - 1].1 + (gapsTo xs xs.length)[k2 - 1].2 := IntWalk.i64_in _ (by omega)
            have d5 : decide ((gapsTo xs xs.length)[k2].1 ≤ (gapsTo xs xs.length)[k2 - 1].1 + (gapsTo xs xs.length)[k2 - 1].2) = false := decide_eq_false (by omega)
            clear hnx ek
            go_wp2
            go_quiet (fail)
            go_wp2
            go_roundg (gk - 1)
            case rel => exact ⟨k2 + 1, _, by have := HK2.out; omega, by go_num, rfl⟩
            case measure => have := HK2.out; omega
        · have hB6' := below_drewN hB6 q2
          obtain ⟨wz, hwz⟩ : ∃ wz, wz = w6.drewN q2 := ⟨_, rfl⟩
          rw [← hwz] at hB6' ⊢
          clear hwz r6 HGB hk2' HK2
          go_wp2_with fail
          refine (HAl _ (hx.keep hB6') (hy.keep hB6')).mono ?_
          rintro _ w7 ⟨A7, c7, A8, c8, rfl, r7, r8, hb7⟩
          have hB7 := bstep hB6' hb7
          simp only [fullL_len]
          clear hb7 hB6' hB6 HAl
          go_wp2
          go_loopg [28, 29, 30] n (fun gk i _ _ wr => ∃ (k3 : Nat), k3 + gk = n ∧ i = .int .i64 k3 ∧ Below w7.heap.size w7 wr)
          case atStart => exact ⟨0, by omega, rfl, Below.refl _ _⟩
          case round =>
            obtain ⟨k3, hk3, rfl, hb8⟩ := hrel
            have hk3' : k3 ≤ n := by omega
            have HK3 := Lib.hid hk3
            clear hk3
            have hB8 := bstep hB7 hb8
            by_cases hlt3 : k3 < n
            · go_wp2_with fail
              refine (at14_low _ _ _ (a + k3) _ (hx.keep hB8) HR.out.1 (by omega)).mono ?_
              rintro _ w9 ⟨rfl, hb9⟩
              go_wp2_with fail
              refine (at14_low _ _ _ (a + d + k3) _ (hy.keep (bstep hB8 hb9)) HR.out.2 (by omega)).mono ?_
              rintro _ w10 ⟨rfl, hb10⟩
              have hB10 : Below w7.heap.size w7 w10 := bstep (bstep hb8 hb9) hb10
              obtain ⟨b7, off7, rfl, _, hc7⟩ := (r7.keep hB10).at2 (i := k3) (by rw [fullL_len]; exact hlt3)
              obtain ⟨b8, off8, rfl, _, hc8⟩ := (r8.keep hB10).at2 (i := k3) (by rw [fullL_len]; exact hlt3)
              rw [fullL_getD _ _ _ _ hlt3] at hc7 hc8
              have key : ∃ x y, alnX l l' d a k3 = x ∧ alnY l l' d a k3 = y := ⟨_, _, rfl, rfl⟩
              obtain ⟨X, Y, hX, hY⟩ := key
              have hways : ((sampAt l (a + k3) == 0) = true ∧ X = 0 ∧ Y = 0) ∨ ((sampAt l (a + k3) == 0) = false ∧ (sampAt l' (a + d + k3) == 0) = true ∧ X = 0 ∧ Y = 0) ∨ ((sampAt l (a + k3) == 0) = false ∧ (sampAt l' (a + d + k3) == 0) = false ∧ X = sampAt l (a + k3) ∧ Y = sampAt l' (a + d + k3)) := by
                rw [← hX, ← hY]
                unfold alnX alnY gone
                cases h1 : (sampAt l (a + k3) == 0) <;> cases h2 : (sampAt l' (a + d + k3) == 0) <;> simp
              rw [hX] at hc7
              rw [hY] at hc8
              clear hX hY hb9 hb10
              generalize sampAt l (a + k3) = x0 at *
              generalize sampAt l' (a + d + k3) = y0 at *
              rcases hways with ⟨h0, rfl, rfl⟩ | ⟨h0, h1, rfl, rfl⟩ | ⟨h0, h1, rfl, rfl⟩
              · go_wp2
                go_quiet (fail)
                go_wp2
                go_roundg (gk - 1)
                case rel => exact ⟨k3 + 1, by have := HK3.out; omega, by go_num, below_drewN hB10 _⟩
                case measure => have := HK3.out; omega
              · go_wp2
                go_quiet (fail)
                go_wp2
                go_roundg (gk - 1)
                case rel => exact ⟨k3 + 1, by have := HK3.out; omega, by go_num, below_drewN hB10 _⟩
                case measure => have := HK3.out; omega
              · have t1 : (X != X) = false := by simp
                have t2 : (Y != Y) = false := by simp
                have t3 : (X != 0) = true := by simpa using h0
                go_wp2
                go_quiet (fail)
                go_wp2
                go_roundg (gk - 1)
                case rel => exact ⟨k3 + 1, by have := HK3.out; omega, by go_num, below_drewN hB10 _⟩
                case measure => have := HK3.out; omega
            · go_wp2
              go_ret
              exact ⟨rfl, hB8⟩
end Go.Proofs.Ytbejkfeloffccaa
