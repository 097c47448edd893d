/-
  Layer 12 (bank), contracts: the errors of banks.
-/
import Derived.Test.YtnhjeelcgfobnaaBkA
namespace Go.Proofs.Ytnhjeelcgfobnaa
open Go.RowKit Num
set_option maxRecDepth 8000
set_option linter.unusedVariables false
set_option linter.unusedSimpArgs false
namespace Bk
open Lol

theorem bankE_long {p : Int} {b : List (List Int)} (h : 256 < b.length) : bankE p b = 4 := by unfold bankE; rw [if_pos h]
theorem bankE_short {p : Int} {b : List (List Int)} (h : ¬ 256 < b.length) : bankE p b = firstE p (wid b) b := by unfold bankE; rw [if_neg h]
theorem blk_n {p : Int} {m : Nat} {l : List Int} (h : l.length < 1 ∨ 16 < l.length) : blkE p m l = 4 := by unfold blkE; rw [if_pos h]
theorem blk_d {p : Int} {m : Nat} {l : List Int} (h : ¬ (l.length < 1 ∨ 16 < l.length)) (h2 : (p - 1) % (l.length : Int) ≠ 0) : blkE p m l = 6 := by unfold blkE; rw [if_neg h, if_pos h2]
theorem blk_m {p : Int} {m : Nat} {l : List Int} (h : ¬ (l.length < 1 ∨ 16 < l.length)) (h2 : (p - 1) % (l.length : Int) = 0) (h3 : l.length ≠ m ∨ l.any (badB p) = true) : blkE p m l = 8 := by
  unfold blkE; rw [if_neg h, if_neg (by omega), if_pos h3]
theorem blk_o {p : Int} {m : Nat} {l : List Int} (h : ¬ (l.length < 1 ∨ 16 < l.length)) (h2 : (p - 1) % (l.length : Int) = 0) (h3 : l.length = m) (h4 : l.any (badB p) = false) : blkE p m l = 0 := by
  unfold blkE; rw [if_neg h, if_neg (by omega), if_neg (by simp [h3, h4])]
theorem rem_mod {P n : Nat} (h : 1 ≤ P) : (((P - 1) % n : Nat) : Int) = ((P : Int) - 1) % (n : Int) := by rw [Int.natCast_emod]; congr 1; omega
set_option maxHeartbeats 1000000 in
theorem check_any (P : Nat) (A : Option Addr) (c : Nat) (b : List (List Int)) (w : World) (h7 : 7 ≤ P) (hP2 : P ≤ 2000000000) (hx : RLL .i64 w A b) :
    Calls Try.prog 57 #[.int .i64 (P : Int), .slice A b.length c] w fun e w' => e = .returned (.int .i64 (bankE P b)) ∧ Below w.heap.size w w' := by
  by_cases h1 : 256 < b.length
  · have HE := Lib.hid (bankE_long (p := P) h1)
    go_enter Try.func57, Try.ntmps57
    go_wp2
    go_ret
    exact ⟨ret_int HE.out.symm, balloc (Below.refl _ _) _⟩
  · have HS := Lib.hid (bankE_short (p := P) h1)
    have hB : Below w.heap.size w (w.alloc (.cells #[.int .i64 (P : Int)] 2)) := balloc (Below.refl _ _) _
    have hk0 := Blk.new w 2 #[.int .i64 (P : Int)]
    have hx1 := hx.keep hB
    obtain ⟨w1, hw1⟩ : ∃ w1, w1 = w.alloc (.cells #[.int .i64 (P : Int)] 2) := ⟨_, rfl⟩
    rw [← hw1] at hB hk0 hx1
    have c0 : w1.cell? ⟨w.heap.size, 0, none⟩ = some (.int .i64 (P : Int)) := hk0.cell 0
    have cl := hk0.lt
    have g0 : IntKind.i64.wrap ((P : Int) - 1) = ((P - 1 : Nat) : Int) := by rw [IntWalk.i64_in _ (by omega)]; omega
    go_enter Try.func57, Try.ntmps57
    go_wp2_with fail
    rw [← hw1]
    clear hw1 hk0
    go_loopg [13] b.length (fun gk i wr => ∃ (k q : Nat), k + gk = b.length ∧ i = .int .i64 k ∧ wr = w1.drewN q ∧ Hid (firstE (P : Int) (wid b) b = firstE (P : Int) (wid b) (b.drop k)))
    case atStart => exact ⟨0, 0, by omega, rfl, rfl, Lib.hid (by rw [List.drop_zero])⟩
    case round =>
      obtain ⟨k, q, hk, rfl, rfl, HF⟩ := hrel
      have hk' : k ≤ b.length := by omega
      have HK := Lib.hid hk
      clear hk
      by_cases hlt : k < b.length
      · obtain ⟨b1, off1, A', c', rfl, hlw1, hc1, hr, hcap1⟩ := hx1.at_ (i := k) hlt
        obtain ⟨b0, off0, A0, c0', e0, hlw0, hc0, hr0, _⟩ := hx1.at_ (i := 0) (by omega)
        obtain ⟨rfl, rfl⟩ : b1 = b0 ∧ off1 = off0 := by injection e0 with e0; injection e0 with e3 e4; exact ⟨e3, e4⟩
        rw [Nat.add_zero] at hc0
        clear e0
        have hW : wid b = (b[0]'(by omega)).length := wid_at (by omega)
        rw [← hW] at hc0
        have HN := Lib.hid (firstE_step (p := (P : Int)) (m := wid b) hlt)
        have HF2 := Lib.hid (HF.out.trans HN.out)
        clear HN hW hr0
        generalize hl0 : b[k] = l at *
        clear hl0
        generalize hm : wid b = m at *
        clear hm
        rcases (show l.length < 1 ∨ (1 ≤ l.length ∧ 16 < l.length) ∨ (1 ≤ l.length ∧ l.length ≤ 16) by omega) with h | ⟨h, h'⟩ | ⟨h, h'⟩
        · have HE := Lib.hid (show bankE (P : Int) b = 4 by rw [HS.out, HF2.out, blk_n (.inl h)]; rfl)
          go_wp2
          go_ret
          exact ⟨ret_int HE.out.symm, below_drewN hB _⟩
        · have HE := Lib.hid (show bankE (P : Int) b = 4 by rw [HS.out, HF2.out, blk_n (.inr h')]; rfl)
          go_wp2
          go_ret
          exact ⟨ret_int HE.out.symm, below_drewN hB _⟩
        · have hz1 : ((l.length : Int) == 0) = false := by rw [beq_eq_false_iff_ne]; omega
          have HR := Lib.hid (rem_mod (P := P) (n := l.length) (by omega))
          by_cases hd : (P - 1) % l.length = 0
          · have f1 : ((((P - 1) % l.length : Nat) : Int) != 0) = false := by rw [hd]; rfl
            have HD := Lib.hid (show ((P : Int) - 1) % (l.length : Int) = 0 by rw [← HR.out, hd]; rfl)
            clear hd
            by_cases hmm : l.length = m
            · have d1 : ((l.length : Int) != (m : Int)) = false := by simp [hmm]
              have HMM := Lib.hid hmm
              have HC := containsFunc_any (P : Int) w.heap.size A' c' l (w1.drewN q) hr (by omega) c0 cl
              have HBO := Lib.hid (fun h4 => blk_o (p := (P : Int)) (m := m) (l := l) (by omega) HD.out HMM.out h4)
              have HBM := Lib.hid (fun h4 => blk_m (p := (P : Int)) (m := m) (l := l) (by omega) HD.out (.inr h4))
              clear hmm
              cases hb : l.any (badB (P : Int))
              · rw [hb] at HC
                have HE := Lib.hid (show firstE (P : Int) m b = firstE (P : Int) m (b.drop (k + 1)) by rw [HF2.out, HBO.out hb]; rfl)
                go_wp2_with fail
                refine (HC).mono ?_
                rintro _ _ ⟨rfl, rfl⟩
                go_wp2
                go_roundg (gk - 1)
                case rel => exact ⟨k + 1, _, by have := HK.out; omega, by go_num, rfl, HE⟩
                case measure => have := HK.out; omega
              · rw [hb] at HC
                have HE := Lib.hid (show bankE (P : Int) b = 8 by rw [HS.out, HF2.out, HBM.out hb]; rfl)
                go_wp2_with fail
                refine (HC).mono ?_
                rintro _ _ ⟨rfl, rfl⟩
                go_wp2
                go_ret
                exact ⟨ret_int HE.out.symm, below_drewN hB _⟩
            · have d1 : ((l.length : Int) != (m : Int)) = true := by rw [bne_iff_ne]; omega
              have HE := Lib.hid (show bankE (P : Int) b = 8 by rw [HS.out, HF2.out, blk_m (by omega) HD.out (.inl hmm)]; rfl)
              clear hmm
              go_wp2
              go_ret
              exact ⟨ret_int HE.out.symm, below_drewN hB _⟩
          · have f1 : ((((P - 1) % l.length : Nat) : Int) != 0) = true := by rw [bne_iff_ne]; omega
            have HE := Lib.hid (show bankE (P : Int) b = 6 by rw [HS.out, HF2.out, blk_d (by omega) (by rw [← HR.out]; omega)]; rfl)
            clear hd
            go_wp2
            go_ret
            exact ⟨ret_int HE.out.symm, below_drewN hB _⟩
      · have HE := Lib.hid (show bankE (P : Int) b = 0 by rw [HS.out, HF.out, List.drop_of_length_le (by omega)]; rfl)
        go_wp2
        go_ret
        exact ⟨ret_int HE.out.symm, below_drewN hB _⟩
set_option maxHeartbeats 1000000 in
theorem refCheckB_any (P : Nat) (A : Option Addr) (c : Nat) (b : List (List Int)) (w : World) (h7 : 7 ≤ P) (hP2 : P ≤ 2000000000) (hx : RLL .i64 w A b) :
    Calls Try.prog 29 #[.int .i64 (P : Int), .slice A b.length c] w fun e w' => e = .returned (.int .i64 (bankE P b)) ∧ ∃ q, w' = w.drewN q := by
  by_cases h1 : 256 < b.length
  · have HE := Lib.hid (bankE_long (p := P) h1)
    go_enter Try.func29, Try.ntmps29
    go_wp2
    go_ret
    exact ⟨ret_int HE.out.symm, 0, rfl⟩
  · have HS := Lib.hid (bankE_short (p := P) h1)
    have g0 : IntKind.i64.wrap ((P : Int) - 1) = ((P - 1 : Nat) : Int) := by rw [IntWalk.i64_in _ (by omega)]; omega
    go_enter Try.func29, Try.ntmps29
    go_wp2
    go_loopg [5] b.length (fun gk i wr => ∃ (k q : Nat), k + gk = b.length ∧ i = .int .i64 k ∧ wr = w.drewN q ∧ Hid (firstE (P : Int) (wid b) b = firstE (P : Int) (wid b) (b.drop k)))
    case atStart => exact ⟨0, 0, by omega, rfl, rfl, Lib.hid (by rw [List.drop_zero])⟩
    case round =>
      obtain ⟨k, q, hk, rfl, rfl, HF⟩ := hrel
      have hk' : k ≤ b.length := by omega
      have HK := Lib.hid hk
      clear hk
      by_cases hlt : k < b.length
      · obtain ⟨b1, off1, A', c', rfl, hlw1, hc1, hr, hcap1⟩ := hx.at_ (i := k) hlt
        obtain ⟨b0, off0, A0, c0', e0, hlw0, hc0, hr0, _⟩ := hx.at_ (i := 0) (by omega)
        obtain ⟨rfl, rfl⟩ : b1 = b0 ∧ off1 = off0 := by injection e0 with e0; injection e0 with e3 e4; exact ⟨e3, e4⟩
        rw [Nat.add_zero] at hc0
        clear e0
        have hW : wid b = (b[0]'(by omega)).length := wid_at (by omega)
        rw [← hW] at hc0
        have HN := Lib.hid (firstE_step (p := (P : Int)) (m := wid b) hlt)
        have HF2 := Lib.hid (HF.out.trans HN.out)
        clear HN hW hr0
        generalize hl0 : b[k] = l at *
        clear hl0
        generalize hm : wid b = m at *
        clear hm
        rcases (show l.length < 1 ∨ (1 ≤ l.length ∧ 16 < l.length) ∨ (1 ≤ l.length ∧ l.length ≤ 16) by omega) with h | ⟨h, h'⟩ | ⟨h, h'⟩
        · have HE := Lib.hid (show bankE (P : Int) b = 4 by rw [HS.out, HF2.out, blk_n (.inl h)]; rfl)
          go_wp2
          go_ret
          exact ⟨ret_int HE.out.symm, _, rfl⟩
        · have HE := Lib.hid (show bankE (P : Int) b = 4 by rw [HS.out, HF2.out, blk_n (.inr h')]; rfl)
          go_wp2
          go_ret
          exact ⟨ret_int HE.out.symm, _, rfl⟩
        · have hz1 : ((l.length : Int) == 0) = false := by rw [beq_eq_false_iff_ne]; omega
          have HR := Lib.hid (rem_mod (P := P) (n := l.length) (by omega))
          by_cases hd : (P - 1) % l.length = 0
          · have f1 : ((((P - 1) % l.length : Nat) : Int) != 0) = false := by rw [hd]; rfl
            have HD := Lib.hid (show ((P : Int) - 1) % (l.length : Int) = 0 by rw [← HR.out, hd]; rfl)
            clear hd
            by_cases hmm : l.length = m
            · have d1 : ((l.length : Int) != (m : Int)) = false := by simp [hmm]
              have HMM := Lib.hid hmm
              have HBO := Lib.hid (fun h4 => blk_o (p := (P : Int)) (m := m) (l := l) (by omega) HD.out HMM.out h4)
              have HBM := Lib.hid (fun h4 => blk_m (p := (P : Int)) (m := m) (l := l) (by omega) HD.out (.inr h4))
              clear hmm
              obtain ⟨gu, rfl⟩ : ∃ gu : Nat, gu = gk := ⟨_, rfl⟩
              go_wp2
              (try clear f1)
              (try clear d1)
              go_loopg [7] l.length (fun gk i wr => ∃ (j q' : Nat), j + gk = l.length ∧ i = .int .i64 j ∧ wr = w.drewN q' ∧ Hid (∀ t, t < j → 0 ≤ l.getD t 0 ∧ l.getD t 0 < P))
              case atStart => exact ⟨0, q, by omega, rfl, rfl, Lib.hid (by intro j hj; omega)⟩
              case round =>
                obtain ⟨j, q', hj, rfl, rfl, HA⟩ := hrel
                have hj' : j ≤ l.length := by omega
                have HJ := Lib.hid hj
                clear hj
                by_cases hjl : j < l.length
                · obtain ⟨b2, off2, rfl, hlw2, hc2⟩ := hr.at2 hjl
                  have HB := Lib.hid (fun h : l.getD j 0 < 0 ∨ (P : Int) ≤ l.getD j 0 => show bankE (P : Int) b = 8 by
                    have h5 : l.any (badB (P : Int)) = true := List.any_eq_true.2 ⟨l[j], List.getElem_mem hjl, by
                      rw [getD_lt _ _ hjl] at h
                      unfold badB
                      exact decide_eq_true h⟩
                    rw [HS.out, HF2.out, HBM.out h5]
                    rfl)
                  have HG := Lib.hid (fun h : 0 ≤ l.getD j 0 ∧ l.getD j 0 < (P : Int) => show ∀ t, t < j + 1 → 0 ≤ l.getD t 0 ∧ l.getD t 0 < P from all_lt_succ HA.out h)
                  generalize l.getD j 0 = x at *
                  rcases (show x < 0 ∨ (0 ≤ x ∧ (P : Int) ≤ x) ∨ (0 ≤ x ∧ x < P) by omega) with hx1 | ⟨hx1, hx2⟩ | ⟨hx1, hx2⟩
                  · have HE := Lib.hid (HB.out (by omega))
                    have d1 : decide (x < 0) = true := decide_eq_true hx1
                    go_wp2
                    go_ret
                    exact ⟨ret_int HE.out.symm, _, rfl⟩
                  · have HE := Lib.hid (HB.out (by omega))
                    have d1 : decide (x < 0) = false := decide_eq_false (by omega)
                    have d2 : decide ((P : Int) ≤ x) = true := decide_eq_true hx2
                    go_wp2
                    go_ret
                    exact ⟨ret_int HE.out.symm, _, rfl⟩
                  · have HE := Lib.hid (HG.out (by omega))
                    have d1 : decide (x < 0) = false := decide_eq_false (by omega)
                    have d2 : decide ((P : Int) ≤ x) = false := decide_eq_false (by omega)
                    go_wp2
                    go_roundg (gk - 1)
                    case rel => exact ⟨j + 1, q', by have := HJ.out; omega, by go_num, rfl, HE⟩
                    case measure => have := HJ.out; omega
                · have HE := Lib.hid (show firstE (P : Int) m b = firstE (P : Int) m (b.drop (k + 1)) by
                    rw [HF2.out, HBO.out (any_badB.2 fun t ht => HA.out t (by omega))]
                    rfl)
                  go_wp2
                  go_roundg (gu - 1)
                  case rel => exact ⟨k + 1, q', by have := HK.out; omega, by go_num, rfl, HE⟩
                  case measure => have := HK.out; omega
            · have d1 : ((l.length : Int) != (m : Int)) = true := by rw [bne_iff_ne]; omega
              have HE := Lib.hid (show bankE (P : Int) b = 8 by rw [HS.out, HF2.out, blk_m (by omega) HD.out (.inl hmm)]; rfl)
              clear hmm
              go_wp2
              go_ret
              exact ⟨ret_int HE.out.symm, _, rfl⟩
          · have f1 : ((((P - 1) % l.length : Nat) : Int) != 0) = true := by rw [bne_iff_ne]; omega
            have HE := Lib.hid (show bankE (P : Int) b = 6 by rw [HS.out, HF2.out, blk_d (by omega) (by rw [← HR.out]; omega)]; rfl)
            clear hd
            go_wp2
            go_ret
            exact ⟨ret_int HE.out.symm, _, rfl⟩
      · have HE := Lib.hid (show bankE (P : Int) b = 0 by rw [HS.out, HF.out, List.drop_of_length_le (by omega)]; rfl)
        go_wp2
        go_ret
        exact ⟨ret_int HE.out.symm, _, rfl⟩
theorem refBoth_any (p : Int) (A : Option Addr) (c : Nat) (b : List (List Int)) (w : World) (hp1 : -9223372036854775808 ≤ p) (hp2 : p ≤ 9223372036854775807) (hx : RLL .i64 w A b) :
    Calls Try.prog 38 #[.int .i64 p, .slice A b.length c] w fun e w' => e = .returned (.int .i64 (bothE12 p b)) ∧ Below w.heap.size w w' := by
  rcases mod_cases p with ⟨e0, _, P, rfl, h7, h2, _⟩ | e0
  · have c0 : (modE (P : Int) != 0) = false := by rw [e0]; rfl
    have HE := Lib.hid (show bothE12 (P : Int) b = bankE P b by unfold bothE12; rw [if_neg (by simp [e0])])
    clear e0
    go_enter Try.func38, Try.ntmps38
    go_wp2_with fail
    refine (refModulus_any _ _ hp1 hp2).mono ?_
    rintro _ w1 ⟨rfl, hb1⟩
    go_wp2_with fail
    refine (refCheckB_any P A c b _ h7 h2 (hx.keep hb1)).mono ?_
    rintro _ w2 ⟨rfl, q, rfl⟩
    go_wp2
    go_ret
    exact ⟨ret_int HE.out.symm, below_drewN hb1 _⟩
  · have c0 : (modE p != 0) = true := by rw [e0]; rfl
    have HE := Lib.hid (show bothE12 p b = 2 by unfold bothE12; rw [if_pos (by simp [e0])])
    clear e0
    go_enter Try.func38, Try.ntmps38
    go_wp2_with fail
    refine (refModulus_any _ _ hp1 hp2).mono ?_
    rintro _ w1 ⟨rfl, hb1⟩
    go_wp2
    go_ret
    exact ⟨ret_int HE.out.symm, hb1⟩
end Bk
end Go.Proofs.Ytnhjeelcgfobnaa
