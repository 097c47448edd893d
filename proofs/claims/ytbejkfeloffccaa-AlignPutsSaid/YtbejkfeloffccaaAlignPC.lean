/-
  Contract of fringeref14.Put.
-/
import Derived.Test.YtbejkfeloffccaaAlignPB
namespace Go.Proofs.Ytbejkfeloffccaa
open Go.RowKit
set_option linter.unusedVariables false
set_option linter.unusedSimpArgs false

set_option maxRecDepth 100000 in
set_option maxHeartbeats 16000000 in
theorem refPut_any (A : Option Addr) (c : Nat) (l : List (Int × List Int)) (b : Int × List Int) (B : Option Addr) (d : Nat) (w : World) (hx : RB w A l) (hy : RI .i64 w B b.2) (hl : l.length ≤ 140737488355328) (hall : ∀ b ∈ l, b.2.length ≤ 140737488355328) (hlb : b.2.length ≤ 140737488355328) :
    Calls Try.prog 26 #[.slice A l.length c, .agg #[.int .i64 b.1, .slice B b.2.length d]] w (RetB w (putS l b)) := by
  have hb0 : Below w.heap.size w (w.alloc (.cells #[.int .i64 b.1, .slice B b.2.length d] 47)) := balloc (Below.refl _ _) _
  have hQ0 := Blk.new w 47 #[.int .i64 b.1, .slice B b.2.length d]
  rcases (Decidable.em (recErr l = 0)).symm with he | he
  · have e1 : (recErr l != 0) = true := by simp [he]
    have HE := Lib.hid he
    clear he
    go_enter Try.func26, Try.ntmps26
    go_wp2_with fail
    refine (refCheck14_any _ _ _ _ (hx.keep hb0) hl hall).mono ?_
    rintro _ w1 ⟨rfl, hb1⟩
    go_wp2_with fail
    refine (refCheck14_any _ _ _ _ (hx.keep (bstep hb0 hb1)) hl hall).mono ?_
    rintro _ w2 ⟨rfl, hb2⟩
    go_wp2
    go_ret2
    exact RetB.nil (put_err HE.out) (bstep (bstep hb0 hb1) hb2)
  have e1 : (recErr l != 0) = false := by simp [he]
  have HE := Lib.hid he
  have hl5 := (recErr_zero he).1
  have HA := Lib.hid (rec_apart he)
  clear he
  have hV := fun w hx => Valid_any b.1 B d b.2 w hx hlb
  have eok : okB (b.1, b.2) = okB b := rfl
  rw [eok] at hV
  clear eok
  by_cases hok : okB b = true
  · obtain ⟨p1, p2, p3, p4, _⟩ := okB_bd hok
    have HOK := Lib.hid hok
    have hAG := fun w hx hy => refAgrees_any A c l b B d w hx hy HE.out HOK.out
    rw [hok] at hV
    by_cases hag : refAg l b = true
    · have HAG := Lib.hid hag
      rw [hag] at hAG
      clear hok hag
      obtain ⟨i0, hi0, hz0, hz1, hz2⟩ := info_parts info_block
      go_enter Try.func26, Try.ntmps26
      go_wp2_with fail
      refine (refCheck14_any _ _ _ _ (hx.keep hb0) hl hall).mono ?_
      rintro _ w1 ⟨rfl, hb1⟩
      have hB1 := bstep hb0 hb1
      have hQ1 := hQ0.keep hb1
      have a0 : World.cell? w1 ⟨w.heap.size, 0, none⟩ = some (.int .i64 b.1) := hQ1.cell 0
      have af0 := hQ1.frozen 0
      have a1 : World.cell? w1 ⟨w.heap.size, 1, none⟩ = some (.slice B b.2.length d) := hQ1.cell 1
      have af1 := hQ1.frozen 1
      have afl := hQ1.lt
      go_wp2_with fail
      refine (hV _ (hy.keep hB1)).mono ?_
      rintro _ w2 ⟨rfl, hb2⟩
      have hB2 := bstep hB1 hb2
      have hQ2 := hQ1.keep hb2
      clear a0 a1 af0 af1 afl hb1 hb2 hQ1
      have a0 : World.cell? w2 ⟨w.heap.size, 0, none⟩ = some (.int .i64 b.1) := hQ2.cell 0
      have af0 := hQ2.frozen 0
      have a1 : World.cell? w2 ⟨w.heap.size, 1, none⟩ = some (.slice B b.2.length d) := hQ2.cell 1
      have af1 := hQ2.frozen 1
      have afl := hQ2.lt
      go_wp2_with fail
      refine (hAG _ (hx.keep hB2) (hy.keep hB2)).mono ?_
      rintro _ w3 ⟨rfl, hb3⟩
      have hQ3 := hQ2.keep hb3
      have hB3 := bstep hB2 hb3
      clear a0 a1 af0 af1 afl hb3 hB2 hQ2 hV hAG
      have a0 : World.cell? w3 ⟨w.heap.size, 0, none⟩ = some (.int .i64 b.1) := hQ3.cell 0
      have af0 := hQ3.frozen 0
      have a1 : World.cell? w3 ⟨w.heap.size, 1, none⟩ = some (.slice B b.2.length d) := hQ3.cell 1
      have af1 := hQ3.frozen 1
      have afl := hQ3.lt
      have f0 : IntKind.i64.wrap (b.1 + (b.2.length : Int)) = b.1 + (b.2.length : Int) := IntWalk.i64_in _ (by omega)
      go_wp2
      go_quiet (fail)
      have hBq := below_drewN hB3 nq
      have hQq := hQ3.keep (below_drewN (Below.refl _ _) nq)
      obtain ⟨wp, hwp⟩ : ∃ wp, wp = w3.drewN nq := ⟨_, rfl⟩
      rw [← hwp] at hBq hQq ⊢
      clear hwp a0 a1 af0 af1 afl hQ3 hB3
      go_wp2
      go_loopg [6, 7, 8, 9, 10, 11, 12, 65, 78] l.length (fun gk v1 v2 fr to i _ _ _ _ wr => ∃ k : Nat, k + gk = l.length ∧ i = .int .i64 k ∧ fr = .int .i64 (hF l b k) ∧ to = .int .i64 (hT l b k) ∧ PutI wp.heap.size wr v1 v2 (outL l b k) (behL l b k) ∧ Below wp.heap.size wp wr)
      case atStart => exact ⟨0, by omega, rfl, rfl, rfl, PutI.nil, Below.refl _ _⟩
      case round =>
        obtain ⟨k, hk, rfl, rfl, rfl, hP, hb⟩ := hrel
        have hk' : k ≤ l.length := by omega
        have HK := Lib.hid hk
        clear hk
        have hQ4 := hQq.keep hb
        have hBw := bstep hBq hb
        obtain ⟨u1, u2, u3, u4⟩ := hull_bd HA.out HOK.out k hk'
        by_cases hlt : k < l.length
        · have d3 : decide (k < l.length) = true := decide_eq_true hlt
          have d4 : decide ((k : Int) < (l.length : Int)) = true := decide_eq_true (by omega)
          obtain ⟨b1, off1, A1, c1, rfl, hlw, hw1, hw2, hr, hcap1⟩ := hx.at_ hlt
          have g1 := (hBw.cell (p := ⟨b1, _, none⟩) hlw).trans hw1
          have g2 := (hBw.cell (p := ⟨b1, _, none⟩) hlw).trans hw2
          have a0 : World.cell? wr ⟨w.heap.size, 0, none⟩ = some (.int .i64 b.1) := hQ4.cell 0
          have af0 := hQ4.frozen 0
          have a1 : World.cell? wr ⟨w.heap.size, 1, none⟩ = some (.slice B b.2.length d) := hQ4.cell 1
          have af1 := hQ4.frozen 1
          have afl := hQ4.lt
          obtain ⟨z1, z2, z3, z4, _⟩ := HA.out.bd k hlt
          have f7 : IntKind.i64.wrap (l[k].1 + (l[k].2.length : Int)) = l[k].1 + (l[k].2.length : Int) := IntWalk.i64_in _ (by omega)
          have hlo : (outL l b k).length ≤ 64 := Nat.le_trans (outL_len l b k) hl5
          have hlbb : (behL l b k).length ≤ 64 := Nat.le_trans (behL_len l b k) hl5
          have HSO : Hid (endB l[k] < b.1 → outL l b (k + 1) = outL l b k ++ [(l[k].1, l[k].2)]) := Lib.hid (outL_yes hlt)
          have HSN : Hid (¬ endB l[k] < b.1 → outL l b (k + 1) = outL l b k) := Lib.hid (outL_no hlt)
          have HBO : Hid (endB b < l[k].1 → behL l b (k + 1) = behL l b k ++ [(l[k].1, l[k].2)]) := Lib.hid (behL_yes hlt)
          have HBN : Hid (¬ endB b < l[k].1 → behL l b (k + 1) = behL l b k) := Lib.hid (behL_no hlt)
          have HF1 : Hid (hF l b (k + 1) = if b.1 ≤ endB l[k] ∧ l[k].1 ≤ endB b ∧ l[k].1 < hF l b k then l[k].1 else hF l b k) := Lib.hid (by rw [hF, getD_lt _ _ hlt])
          have HT1 : Hid (hT l b (k + 1) = if b.1 ≤ endB l[k] ∧ l[k].1 ≤ endB b ∧ hT l b k < endB l[k] then endB l[k] else hT l b k) := Lib.hid (by rw [hT, getD_lt _ _ hlt])
          by_cases c7 : l[k].1 + (l[k].2.length : Int) < b.1
          · have d7 : decide (l[k].1 + (l[k].2.length : Int) < b.1) = true := decide_eq_true c7
            have HO' := Lib.hid (HSO.out (by unfold endB; exact c7))
            have HB' := Lib.hid (HBN.out (by unfold endB; omega))
            have HF' : Hid (hF l b (k + 1) = hF l b k) := Lib.hid (by rw [HF1.out, if_neg (by unfold endB; omega)])
            have HT' : Hid (hT l b (k + 1) = hT l b k) := Lib.hid (by rw [HT1.out, if_neg (by unfold endB; omega)])
            clear c7
            go_wp2
            go_quiet (fail)
            replace hb := below_drewN hb nq
            replace hP := hP.keep (below_drewN (Below.refl _ _) nq)
            replace hQ4 := hQ4.keep (below_drewN (Below.refl _ _) nq)
            clear g1 g2 a0 a1 af0 af1 afl hBw
            obtain ⟨wq, hwq⟩ : ∃ wq, wq = wr.drewN nq := ⟨_, rfl⟩
            rw [← hwq] at hb hP hQ4 ⊢
            clear hwq
            have hBw := bstep hBq hb
            have g1 := (hBw.cell (p := ⟨b1, _, none⟩) hlw).trans hw1
            have g2 := (hBw.cell (p := ⟨b1, _, none⟩) hlw).trans hw2
            have a0 : World.cell? wq ⟨w.heap.size, 0, none⟩ = some (.int .i64 b.1) := hQ4.cell 0
            have af0 := hQ4.frozen 0
            have a1 : World.cell? wq ⟨w.heap.size, 1, none⟩ = some (.slice B b.2.length d) := hQ4.cell 1
            have af1 := hQ4.frozen 1
            have afl := hQ4.lt
            obtain ⟨raws, hO, hE1, hE2⟩ := (hP).o
            go_wp2_with fail
            refine (twin_any l[k].1 A1 c1 l[k].2 _ (hr.keep hBw) (by omega)).mono ?_
            rintro _ w6 ⟨A3, c3, rfl, r3, hc3, hb6⟩
            have hO6 := own_keep hO hb6
            have hB6 := bstep hb hb6
            have hs6 := hB6.size
            have hs5 := hb.size
            go_wp2_with (at_builtin; refine wpList_append_lies _ rfl _ _ 37 rfl wp.heap.size 47 i0 _ 2 32 Try.underlying37 hi0 hz0 hz1 hz2 rfl (by decide) _ (outL l b k).length _ rfl (hO6.alloc _) ⟨w6.heap.size, 0, none⟩ 1 1 (encK (l[k].1, .slice A3 l[k].2.length c3)) rfl rfl (enc_news _ rfl) encK_one (by omega) (by unfold maxLen; omega) (by omega) (by simp; omega) (w6.heap.size + 1) (by simp) ?_; intro g4 c4 w7 hown4 hgrow4 hat4 hlt4)
            have hP7 := PutI.push (a := l[k].1) (hP) hE1 hE2 hs5 hb6 r3 hc3 hown4 hgrow4 hat4
            have hB7 := own_below (balloc hB6 (.cells #[.int .i64 l[k].1, .slice A3 l[k].2.length c3] 47)) (hO6.alloc _) hgrow4 (Nat.le_refl _) (by simp; omega)
            go_roundg (gk - 1)
            case rel => exact ⟨k + 1, by have := HK.out; omega, by go_num, by rw [HF'.out], by rw [HT'.out], by rw [HO'.out, HB'.out]; exact hP7, hB7⟩
            case measure => have := HK.out; omega
          · have d7 : decide (l[k].1 + (l[k].2.length : Int) < b.1) = false := decide_eq_false c7
            have HO' := Lib.hid (HSN.out (by unfold endB; exact c7))
            by_cases c8 : b.1 + (b.2.length : Int) < l[k].1
            · have d8 : decide (b.1 + (b.2.length : Int) < l[k].1) = true := decide_eq_true c8
              have HB' := Lib.hid (HBO.out (by unfold endB; exact c8))
              have HF' : Hid (hF l b (k + 1) = hF l b k) := Lib.hid (by rw [HF1.out, if_neg (by unfold endB; omega)])
              have HT' : Hid (hT l b (k + 1) = hT l b k) := Lib.hid (by rw [HT1.out, if_neg (by unfold endB; omega)])
              clear c7 c8
              go_wp2
              go_quiet (fail)
              replace hb := below_drewN hb nq
              replace hP := hP.keep (below_drewN (Below.refl _ _) nq)
              replace hQ4 := hQ4.keep (below_drewN (Below.refl _ _) nq)
              clear g1 g2 a0 a1 af0 af1 afl hBw
              obtain ⟨wq, hwq⟩ : ∃ wq, wq = wr.drewN nq := ⟨_, rfl⟩
              rw [← hwq] at hb hP hQ4 ⊢
              clear hwq
              have hBw := bstep hBq hb
              have g1 := (hBw.cell (p := ⟨b1, _, none⟩) hlw).trans hw1
              have g2 := (hBw.cell (p := ⟨b1, _, none⟩) hlw).trans hw2
              have a0 : World.cell? wq ⟨w.heap.size, 0, none⟩ = some (.int .i64 b.1) := hQ4.cell 0
              have af0 := hQ4.frozen 0
              have a1 : World.cell? wq ⟨w.heap.size, 1, none⟩ = some (.slice B b.2.length d) := hQ4.cell 1
              have af1 := hQ4.frozen 1
              have afl := hQ4.lt
              obtain ⟨raws, hO, hE1, hE2⟩ := (hP.swap).o
              go_wp2_with fail
              refine (twin_any l[k].1 A1 c1 l[k].2 _ (hr.keep hBw) (by omega)).mono ?_
              rintro _ w6 ⟨A3, c3, rfl, r3, hc3, hb6⟩
              have hO6 := own_keep hO hb6
              have hB6 := bstep hb hb6
              have hs6 := hB6.size
              have hs5 := hb.size
              go_wp2_with (at_builtin; refine wpList_append_lies _ rfl _ _ 37 rfl wp.heap.size 47 i0 _ 2 32 Try.underlying37 hi0 hz0 hz1 hz2 rfl (by decide) _ (behL l b k).length _ rfl (hO6.alloc _) ⟨w6.heap.size, 0, none⟩ 1 1 (encK (l[k].1, .slice A3 l[k].2.length c3)) rfl rfl (enc_news _ rfl) encK_one (by omega) (by unfold maxLen; omega) (by omega) (by simp; omega) (w6.heap.size + 1) (by simp) ?_; intro g4 c4 w7 hown4 hgrow4 hat4 hlt4)
              have hP7 := PutI.push (a := l[k].1) (hP.swap) hE1 hE2 hs5 hb6 r3 hc3 hown4 hgrow4 hat4
              have hB7 := own_below (balloc hB6 (.cells #[.int .i64 l[k].1, .slice A3 l[k].2.length c3] 47)) (hO6.alloc _) hgrow4 (Nat.le_refl _) (by simp; omega)
              go_roundg (gk - 1)
              case rel => exact ⟨k + 1, by have := HK.out; omega, by go_num, by rw [HF'.out], by rw [HT'.out], by rw [HO'.out, HB'.out]; exact hP7.swap, hB7⟩
              case measure => have := HK.out; omega
            · have d8 : decide (b.1 + (b.2.length : Int) < l[k].1) = false := decide_eq_false c8
              have HB' := Lib.hid (HBN.out (by unfold endB; exact c8))
              have HF' : Hid (hF l b (k + 1) = min (hF l b k) l[k].1) := Lib.hid (by
                rw [HF1.out]
                unfold endB
                split <;> omega)
              have HT' : Hid (hT l b (k + 1) = max (hT l b k) (l[k].1 + (l[k].2.length : Int))) := Lib.hid (by
                rw [HT1.out]
                unfold endB
                split <;> omega)
              clear c7 c8
              go_wp2
              go_quiet (fail)
              replace hb := below_drewN hb nq
              replace hP := hP.keep (below_drewN (Below.refl _ _) nq)
              replace hQ4 := hQ4.keep (below_drewN (Below.refl _ _) nq)
              clear g1 g2 a0 a1 af0 af1 afl hBw
              obtain ⟨wq, hwq⟩ : ∃ wq, wq = wr.drewN nq := ⟨_, rfl⟩
              rw [← hwq] at hb hP hQ4 ⊢
              clear hwq
              have hBw := bstep hBq hb
              have g1 := (hBw.cell (p := ⟨b1, _, none⟩) hlw).trans hw1
              have g2 := (hBw.cell (p := ⟨b1, _, none⟩) hlw).trans hw2
              have a0 : World.cell? wq ⟨w.heap.size, 0, none⟩ = some (.int .i64 b.1) := hQ4.cell 0
              have af0 := hQ4.frozen 0
              have a1 : World.cell? wq ⟨w.heap.size, 1, none⟩ = some (.slice B b.2.length d) := hQ4.cell 1
              have af1 := hQ4.frozen 1
              have afl := hQ4.lt
              go_wp2
              all_goals
                go_roundg (gk - 1)
                case rel => exact ⟨k + 1, by have := HK.out; omega, by go_num, by rw [HF'.out]; congr 1; omega, by rw [HT'.out]; congr 1; omega, by rw [HO'.out, HB'.out]; exact hP, hb⟩
                case measure => have := HK.out; omega
        · obtain rfl : k = l.length := by omega
          unfold endB at u3
          obtain ⟨j1, j2⟩ := hull_end (b := b) HA.out
          have hPL := putL_ref HA.out HOK.out
          by_cases hr : 256 < hT l b l.length - hF l b l.length
          · have dr : decide (256 < hT l b l.length - hF l b l.length) = true := decide_eq_true hr
            have f8 : IntKind.i64.wrap (hT l b l.length - hF l b l.length) = hT l b l.length - hF l b l.length := IntWalk.i64_in _ (by omega)
            have HN := Lib.hid (put_range HE.out HOK.out HAG.out (by rw [← j1, ← j2]; exact hr))
            clear j1 j2 hPL
            go_wp2
            go_ret2
            exact RetB.nil HN.out hBw
          obtain ⟨N, hN⟩ : ∃ N : Nat, hT l b l.length - hF l b l.length = N := ⟨_, (Int.toNat_of_nonneg (by omega)).symm⟩
          have hTN : hT l b l.length = hF l b l.length + N := by omega
          have hle : jTo (midOf l b) b - jFrom (midOf l b) b ≤ 256 := by rw [← j1, ← j2]; omega
          rw [hN] at hPL
          simp only [Int.toNat_natCast] at hPL
          have hNb : N ≤ 256 := by omega
          have HM := Lib.hid (fun h => put_many HE.out HOK.out HAG.out hle h)
          have HP := Lib.hid (fun h => put_ok HE.out HOK.out HAG.out hle h)
          rw [hPL] at HM HP
          have hlo := Nat.le_trans (outL_len l b l.length) hl5
          have hlbb := Nat.le_trans (behL_len l b l.length) hl5
          have HVB := Lib.hid (fun t => valB_ref HAG.out t)
          rw [hTN] at u3 u4 ⊢
          clear j1 j2 hPL hle hN hr hTN
          generalize hF l b l.length = F at *
          generalize outL l b l.length = lo at *
          generalize behL l b l.length = lb at *
          have f8 : IntKind.i64.wrap (F + (N : Int) - F) = (N : Int) := by rw [show F + (N : Int) - F = N by omega]; exact IntWalk.i64_in _ (by omega)
          have d9 : decide ((256 : Int) < (N : Int)) = false := decide_eq_false (by omega)
          obtain ⟨i1, ki, kz0, kz1, kz2⟩ := info_parts info_int
          have hs5 := hb.size
          obtain ⟨wl, rfl⟩ : ∃ wl, wl = wr := ⟨_, rfl⟩
          go_wp2
          go_loopg [14, 15] N (fun gk i _ wz => ∃ k : Nat, ∃ vs : Value, k + gk = N ∧ i = .int .i64 (F + k) ∧ Blk wz wl.heap.size 47 #[.int .i64 F, vs] ∧ wz.ownsRow (wl.heap.size + 1) 3 1 vs k ((fullL (fun i => valB l b (F + (i : Int))) k).flatMap (encI .i64)) ∧ Below wl.heap.size wl wz)
          case atStart => exact ⟨0, _, by omega, by go_num, Blk.new _ _ _, World.ownsRow_nil _ _ _ _, balloc (Below.refl _ _) _⟩
          case round =>
            obtain ⟨k, vs, hk, rfl, hG, hO, hbz⟩ := hrel
            have hk' : k ≤ N := by omega
            have HK := Lib.hid hk
            clear hk
            have hBz := bstep hBw hbz
            by_cases hlt : k < N
            · have d4 : decide (F + (k : Int) < F + (N : Int)) = true := decide_eq_true (by omega)
              go_wp2_with fail
              refine (at14_low _ _ _ (F + k) _ (hx.keep hBz) HE.out (by omega)).mono ?_
              rintro _ w6 ⟨rfl, hb6⟩
              have hB6 := bstep hbz hb6
              have hG6 := hG.keep hb6
              have hO6 := own_keep hO hb6
              have hQ6 := hQ4.keep hB6
              have hs6 := hB6.size
              have hql := hQ4.lt
              have hwl := hBq.size
              have hy6 := hy.keep (bstep hBw hB6)
              clear hb6 hbz hG hO hBz
              have a0 : World.cell? w6 ⟨w.heap.size, 0, none⟩ = some (.int .i64 b.1) := hQ6.cell 0
              have af0 := hQ6.frozen 0
              have a1 : World.cell? w6 ⟨w.heap.size, 1, none⟩ = some (.slice B b.2.length d) := hQ6.cell 1
              have af1 := hQ6.frozen 1
              have afl := hQ6.lt
              have q0 : World.cell? w6 ⟨wl.heap.size, 0, none⟩ = some (.int .i64 F) := hG6.cell 0
              have f0 := hG6.frozen 0
              have q1 : World.cell? w6 ⟨wl.heap.size, 1, none⟩ = some (vs) := hG6.cell 1
              have f1 := hG6.frozen 1
              have fl := hG6.lt
              have HV1 := HVB.out (F + k)
              by_cases hs0 : sampAt l (F + (k : Int)) = 0
              · rw [if_pos hs0] at HV1
                have e3 : (sampAt l (F + (k : Int)) == 0) = true := by simp [hs0]
                rcases (show (b.1 ≤ F + (k : Int) ∧ F + (k : Int) < b.1 + (b.2.length : Int)) ∨ F + (k : Int) < b.1 ∨ (b.1 ≤ F + (k : Int) ∧ ¬ F + (k : Int) < b.1 + (b.2.length : Int)) by omega) with ⟨h1, h2⟩ | h1 | ⟨h1, h2⟩
                · have d5 : decide (b.1 ≤ F + (k : Int)) = true := decide_eq_true h1
                  have d6 : decide (F + (k : Int) < b.1 + (b.2.length : Int)) = true := decide_eq_true h2
                  have hjn : (F + (k : Int) - b.1).toNat < b.2.length := by omega
                  obtain ⟨b2, off2, rfl, hlw2, hw2⟩ := hy6.at2 hjn
                  rw [getD_lt _ _ hjn] at hw2
                  have f9 : 0 ≤ F + (k : Int) - b.1 := by omega
                  have f10 : F + (k : Int) - b.1 < (b.2.length : Int) := by omega
                  have f11 : IntKind.i64.wrap (F + (k : Int) - b.1) = F + (k : Int) - b.1 := IntWalk.i64_in _ (by omega)
                  have HVX : Hid (valB l b (F + (k : Int)) = b.2[(F + (k : Int) - b.1).toNat]) := Lib.hid (by rw [HV1, if_pos ⟨h1, by unfold endB; exact h2⟩]; unfold sB; rw [getD_lt _ _ hjn])
                  generalize b.2[(F + (k : Int) - b.1).toNat] = X at hw2 HVX
                  clear HV1 hs0
                  go_wp2_with (at_builtin; refine wpList_append_lies _ rfl _ _ 22 rfl (wl.heap.size + 1) 3 i1 _ 1 8 Try.underlying22 ki kz0 kz1 kz2 rfl (by decide) _ k _ rfl (hO6.alloc _) ⟨w6.heap.size, 0, none⟩ 1 1 (encI .i64 X) rfl rfl (encI_news _ _ _ _) (encI_one _ _) (by omega) (by unfold maxLen; omega) (by omega) (by simp; omega) (w6.heap.size + 1) (by simp) ?_; intro g4 c4 w7 hown4 hgrow4 hat4 hlt4; have hG7 := (hG6.alloc (.cells #[.int .i64 X] 3)).grown hgrow4 (by intro e; have := ((hO6.alloc (.cells #[.int .i64 X] 3)).lt _ e.symm).1; omega); have r0 := hG7.cell 0; have r1 := hG7.cell 1; have y1 := hG7.frozen 1; have y2 := hG7.lt)
                  have hB7 := own_below (balloc hB6 (.cells #[.int .i64 X] 3)) (hO6.alloc (.cells #[.int .i64 X] 3)) hgrow4 (by omega) (by simp; omega)
                  go_roundg (gk - 1)
                  case rel => exact ⟨k + 1, _, by have := HK.out; omega, by go_num, hG7.put 1 _, by rw [fullL_succ, flat_snoc, HVX.out]; exact ownsRow_setCell_below hown4 (a := ⟨wl.heap.size, 1, none⟩) (by simp) _, hB7.setCell (p := ⟨wl.heap.size, 1, none⟩) (Nat.le_refl _) _⟩
                  case measure => have := HK.out; omega
                · have d5 : decide (b.1 ≤ F + (k : Int)) = false := decide_eq_false (by omega)
                  have HVX : Hid (valB l b (F + (k : Int)) = sampAt l (F + (k : Int))) := Lib.hid (by rw [HV1, if_neg (by omega), hs0])
                  clear HV1 hs0
                  generalize sampAt l (F + (k : Int)) = X at *
                  go_wp2_with (at_builtin; refine wpList_append_lies _ rfl _ _ 22 rfl (wl.heap.size + 1) 3 i1 _ 1 8 Try.underlying22 ki kz0 kz1 kz2 rfl (by decide) _ k _ rfl (hO6.alloc _) ⟨w6.heap.size, 0, none⟩ 1 1 (encI .i64 X) rfl rfl (encI_news _ _ _ _) (encI_one _ _) (by omega) (by unfold maxLen; omega) (by omega) (by simp; omega) (w6.heap.size + 1) (by simp) ?_; intro g4 c4 w7 hown4 hgrow4 hat4 hlt4; have hG7 := (hG6.alloc (.cells #[.int .i64 X] 3)).grown hgrow4 (by intro e; have := ((hO6.alloc (.cells #[.int .i64 X] 3)).lt _ e.symm).1; omega); have r0 := hG7.cell 0; have r1 := hG7.cell 1; have y1 := hG7.frozen 1; have y2 := hG7.lt)
                  have hB7 := own_below (balloc hB6 (.cells #[.int .i64 X] 3)) (hO6.alloc (.cells #[.int .i64 X] 3)) hgrow4 (by omega) (by simp; omega)
                  go_roundg (gk - 1)
                  case rel => exact ⟨k + 1, _, by have := HK.out; omega, by go_num, hG7.put 1 _, by rw [fullL_succ, flat_snoc, HVX.out]; exact ownsRow_setCell_below hown4 (a := ⟨wl.heap.size, 1, none⟩) (by simp) _, hB7.setCell (p := ⟨wl.heap.size, 1, none⟩) (Nat.le_refl _) _⟩
                  case measure => have := HK.out; omega
                · have d5 : decide (b.1 ≤ F + (k : Int)) = true := decide_eq_true h1
                  have d6 : decide (F + (k : Int) < b.1 + (b.2.length : Int)) = false := decide_eq_false h2
                  have HVX : Hid (valB l b (F + (k : Int)) = sampAt l (F + (k : Int))) := Lib.hid (by rw [HV1, if_neg (by unfold endB; omega), hs0])
                  clear HV1 hs0
                  generalize sampAt l (F + (k : Int)) = X at *
                  go_wp2_with (at_builtin; refine wpList_append_lies _ rfl _ _ 22 rfl (wl.heap.size + 1) 3 i1 _ 1 8 Try.underlying22 ki kz0 kz1 kz2 rfl (by decide) _ k _ rfl (hO6.alloc _) ⟨w6.heap.size, 0, none⟩ 1 1 (encI .i64 X) rfl rfl (encI_news _ _ _ _) (encI_one _ _) (by omega) (by unfold maxLen; omega) (by omega) (by simp; omega) (w6.heap.size + 1) (by simp) ?_; intro g4 c4 w7 hown4 hgrow4 hat4 hlt4; have hG7 := (hG6.alloc (.cells #[.int .i64 X] 3)).grown hgrow4 (by intro e; have := ((hO6.alloc (.cells #[.int .i64 X] 3)).lt _ e.symm).1; omega); have r0 := hG7.cell 0; have r1 := hG7.cell 1; have y1 := hG7.frozen 1; have y2 := hG7.lt)
                  have hB7 := own_below (balloc hB6 (.cells #[.int .i64 X] 3)) (hO6.alloc (.cells #[.int .i64 X] 3)) hgrow4 (by omega) (by simp; omega)
                  go_roundg (gk - 1)
                  case rel => exact ⟨k + 1, _, by have := HK.out; omega, by go_num, hG7.put 1 _, by rw [fullL_succ, flat_snoc, HVX.out]; exact ownsRow_setCell_below hown4 (a := ⟨wl.heap.size, 1, none⟩) (by simp) _, hB7.setCell (p := ⟨wl.heap.size, 1, none⟩) (Nat.le_refl _) _⟩
                  case measure => have := HK.out; omega
              · rw [if_neg hs0] at HV1
                have e3 : (sampAt l (F + (k : Int)) == 0) = false := by simp [hs0]
                have HVX := Lib.hid HV1
                clear HV1
                generalize sampAt l (F + (k : Int)) = X at *
                clear hs0
                go_wp2_with (at_builtin; refine wpList_append_lies _ rfl _ _ 22 rfl (wl.heap.size + 1) 3 i1 _ 1 8 Try.underlying22 ki kz0 kz1 kz2 rfl (by decide) _ k _ rfl (hO6.alloc _) ⟨w6.heap.size, 0, none⟩ 1 1 (encI .i64 X) rfl rfl (encI_news _ _ _ _) (encI_one _ _) (by omega) (by unfold maxLen; omega) (by omega) (by simp; omega) (w6.heap.size + 1) (by simp) ?_; intro g4 c4 w7 hown4 hgrow4 hat4 hlt4; have hG7 := (hG6.alloc (.cells #[.int .i64 X] 3)).grown hgrow4 (by intro e; have := ((hO6.alloc (.cells #[.int .i64 X] 3)).lt _ e.symm).1; omega); have r0 := hG7.cell 0; have r1 := hG7.cell 1; have y1 := hG7.frozen 1; have y2 := hG7.lt)
                have hB7 := own_below (balloc hB6 (.cells #[.int .i64 X] 3)) (hO6.alloc (.cells #[.int .i64 X] 3)) hgrow4 (by omega) (by simp; omega)
                go_roundg (gk - 1)
                case rel => exact ⟨k + 1, _, by have := HK.out; omega, by go_num, hG7.put 1 _, by rw [fullL_succ, flat_snoc, HVX.out]; exact ownsRow_setCell_below hown4 (a := ⟨wl.heap.size, 1, none⟩) (by simp) _, hB7.setCell (p := ⟨wl.heap.size, 1, none⟩) (Nat.le_refl _) _⟩
                case measure => have := HK.out; omega
            · obtain rfl : k = N := by omega
              obtain ⟨AS, cS, rfl, hcS⟩ := own_shape' hO
              have rI := own_RIo_len (fullL_len _ _) hO
              obtain ⟨raws, hO1, hE1, hE2⟩ := hP.o
              have hO6 := own_keep hO1 hbz
              have hBz6 := bstep hb hbz
              have hsz6 := hBz6.size
              have hql := hQ4.lt
              have q0 : World.cell? wr ⟨wl.heap.size, 0, none⟩ = some (.int .i64 F) := hG.cell 0
              have f0 := hG.frozen 0
              have q1 : World.cell? wr ⟨wl.heap.size, 1, none⟩ = some (.slice AS _ cS) := hG.cell 1
              have f1 := hG.frozen 1
              have fl := hG.lt
              by_cases hm : 64 < lo.length + 1 + lb.length
              · have dm1 : decide (64 < lo.length + 1 + lb.length) = true := decide_eq_true hm
                have dm2 : decide ((64 : Int) < ((lo.length + 1 + lb.length : Nat) : Int)) = true := decide_eq_true (by omega)
                have dm3 : decide ((64 : Int) < (lo.length : Int) + 1 + (lb.length : Int)) = true := decide_eq_true (by omega)
                have HR := Lib.hid (HM.out (by simp; omega))
                go_wp2_with (first
                  | (at_builtin; refine wpList_append_lies _ rfl (.tmp 142) (.tmp 144) 37 rfl wp.heap.size 47 i0 _ 2 32 Try.underlying37 hi0 hz0 hz1 hz2 rfl (by decide) _ lo.length _ rfl (hO6.alloc _) ⟨wr.heap.size, 0, none⟩ 1 1 (encK (F, .slice AS k cS)) rfl rfl (enc_news _ rfl) encK_one (by omega) (by unfold maxLen; omega) (by omega) (by simp; omega) (wr.heap.size + 1) (by simp) ?_; intro g4 c4 w7 hown4 hgrow4 hat4 hlt4; have hP7 := PutI.push (xs := fullL (fun i => valB l b (F + (i : Int))) k) (a := F) hP hE1 hE2 hs5 hbz (rI.mono (Nat.le_succ _)) (by rw [fullL_len]; exact hcS) (by rw [fullL_len]; exact hown4) hgrow4 hat4; have hB7 := own_below (balloc hBz6 (.cells #[.int .i64 F, .slice AS k cS] 47)) (hO6.alloc _) hgrow4 (Nat.le_refl _) (by simp; omega); obtain ⟨ra, x1, x2, x3⟩ := hP7.o; obtain ⟨rb, y1, y2, y3⟩ := hP7.b; simp only [List.length_append, List.length_singleton] at x1)
                  | (at_builtin; refine wpList_append_rows _ rfl (.tmp 145) (.tmp 146) 37 rfl wp.heap.size 47 i0 _ 32 Try.underlying37 hi0 hz0 hz1 hz2 rfl _ (lo.length + 1) _ rfl x1 wp.heap.size 47 _ lb.length _ rfl y1 y2.one (by unfold maxLen; omega) (by omega) (by have := hB7.size; omega) ?_; intro v8 w8 hown8 hgrow8 hat8; have hB8 := bstep hBq (own_below hB7 x1 hgrow8 (Nat.le_refl _) (by have := hB7.size; omega)); obtain ⟨A9, c9, rfl, hc9, hr9⟩ := PutI.done (by simp) x2 y3 hgrow8 hat8 hown8)
                  | fail)
                go_ret2
                exact RetB.nil HR.out hB8
              · have dm1 : decide (64 < lo.length + 1 + lb.length) = false := decide_eq_false hm
                have dm2 : decide ((64 : Int) < ((lo.length + 1 + lb.length : Nat) : Int)) = false := decide_eq_false (by omega)
                have dm3 : decide ((64 : Int) < (lo.length : Int) + 1 + (lb.length : Int)) = false := decide_eq_false (by omega)
                have HR := Lib.hid (HP.out (by simp; omega))
                go_wp2_with (first
                  | (at_builtin; refine wpList_append_lies _ rfl (.tmp 142) (.tmp 144) 37 rfl wp.heap.size 47 i0 _ 2 32 Try.underlying37 hi0 hz0 hz1 hz2 rfl (by decide) _ lo.length _ rfl (hO6.alloc _) ⟨wr.heap.size, 0, none⟩ 1 1 (encK (F, .slice AS k cS)) rfl rfl (enc_news _ rfl) encK_one (by omega) (by unfold maxLen; omega) (by omega) (by simp; omega) (wr.heap.size + 1) (by simp) ?_; intro g4 c4 w7 hown4 hgrow4 hat4 hlt4; have hP7 := PutI.push (xs := fullL (fun i => valB l b (F + (i : Int))) k) (a := F) hP hE1 hE2 hs5 hbz (rI.mono (Nat.le_succ _)) (by rw [fullL_len]; exact hcS) (by rw [fullL_len]; exact hown4) hgrow4 hat4; have hB7 := own_below (balloc hBz6 (.cells #[.int .i64 F, .slice AS k cS] 47)) (hO6.alloc _) hgrow4 (Nat.le_refl _) (by simp; omega); obtain ⟨ra, x1, x2, x3⟩ := hP7.o; obtain ⟨rb, y1, y2, y3⟩ := hP7.b; simp only [List.length_append, List.length_singleton] at x1)
                  | (at_builtin; refine wpList_append_rows _ rfl (.tmp 145) (.tmp 146) 37 rfl wp.heap.size 47 i0 _ 32 Try.underlying37 hi0 hz0 hz1 hz2 rfl _ (lo.length + 1) _ rfl x1 wp.heap.size 47 _ lb.length _ rfl y1 y2.one (by unfold maxLen; omega) (by omega) (by have := hB7.size; omega) ?_; intro v8 w8 hown8 hgrow8 hat8; have hB8 := bstep hBq (own_below hB7 x1 hgrow8 (Nat.le_refl _) (by have := hB7.size; omega)); obtain ⟨A9, c9, rfl, hc9, hr9⟩ := PutI.done (by simp) x2 y3 hgrow8 hat8 hown8)
                  | fail)
                go_ret2
                exact RetB.ok HR.out (by simp; omega) (hr9.mono (by have := hBq.size; omega)) hc9 hB8
    · have hag' : refAg l b = false := by simpa using hag
      have HAG := Lib.hid hag'
      rw [hag'] at hAG
      clear hok hag hag'
      go_enter Try.func26, Try.ntmps26
      go_wp2_with fail
      refine (refCheck14_any _ _ _ _ (hx.keep hb0) hl hall).mono ?_
      rintro _ w1 ⟨rfl, hb1⟩
      have hB1 := bstep hb0 hb1
      have hQ1 := hQ0.keep hb1
      have a0 : World.cell? w1 ⟨w.heap.size, 0, none⟩ = some (.int .i64 b.1) := hQ1.cell 0
      have af0 := hQ1.frozen 0
      have a1 : World.cell? w1 ⟨w.heap.size, 1, none⟩ = some (.slice B b.2.length d) := hQ1.cell 1
      have af1 := hQ1.frozen 1
      have afl := hQ1.lt
      go_wp2_with fail
      refine (hV _ (hy.keep hB1)).mono ?_
      rintro _ w2 ⟨rfl, hb2⟩
      have hB2 := bstep hB1 hb2
      have hQ2 := hQ1.keep hb2
      clear a0 a1 af0 af1 afl hb1 hb2 hQ1
      have a0 : World.cell? w2 ⟨w.heap.size, 0, none⟩ = some (.int .i64 b.1) := hQ2.cell 0
      have af0 := hQ2.frozen 0
      have a1 : World.cell? w2 ⟨w.heap.size, 1, none⟩ = some (.slice B b.2.length d) := hQ2.cell 1
      have af1 := hQ2.frozen 1
      have afl := hQ2.lt
      go_wp2_with fail
      refine (hAG _ (hx.keep hB2) (hy.keep hB2)).mono ?_
      rintro _ w3 ⟨rfl, hb3⟩
      go_wp2
      go_ret2
      exact RetB.nil (put_twice HE.out HOK.out HAG.out) (bstep hB2 hb3)
  · have hok' : okB b = false := by simpa using hok
    have HOK := Lib.hid hok'
    rw [hok'] at hV
    clear hok hok'
    go_enter Try.func26, Try.ntmps26
    go_wp2_with fail
    refine (refCheck14_any _ _ _ _ (hx.keep hb0) hl hall).mono ?_
    rintro _ w1 ⟨rfl, hb1⟩
    have hB1 := bstep hb0 hb1
    have hQ1 := hQ0.keep hb1
    have a0 : World.cell? w1 ⟨w.heap.size, 0, none⟩ = some (.int .i64 b.1) := hQ1.cell 0
    have af0 := hQ1.frozen 0
    have a1 : World.cell? w1 ⟨w.heap.size, 1, none⟩ = some (.slice B b.2.length d) := hQ1.cell 1
    have af1 := hQ1.frozen 1
    have afl := hQ1.lt
    go_wp2_with fail
    refine (hV _ (hy.keep hB1)).mono ?_
    rintro _ w2 ⟨rfl, hb2⟩
    go_wp2
    go_ret2
    exact RetB.nil (put_bad HE.out HOK.out) (bstep hB1 hb2)
end Go.Proofs.Ytbejkfeloffccaa
