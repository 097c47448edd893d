/-
  Contracts: align.Window, fringeref14.Window, align.Align, fringeref14.Align.
-/
import Derived.Test.YtbejkfeloffccaaAlignH
import Derived.Test.YtbejkfeloffccaaApart
import Derived.RegionTactic
import Derived.BigRegion
namespace Go.Proofs.Ytbejkfeloffccaa
open Go.RowKit
set_option linter.unusedVariables false

def winSpec (l : List (Int × List Int)) (a m : Int) : List Int × Int := if recErr l ≠ 0 then ([], recErr l) else if winB a m then (fullL (winF l a) m.toNat, 0) else ([], 2)
theorem win_err {l : List (Int × List Int)} {a m : Int} (h : ¬ recErr l = 0) : winSpec l a m = ([], recErr l) := by simp [winSpec, h]
theorem win_arg {l : List (Int × List Int)} {a m : Int} (h : recErr l = 0) (h2 : winB a m = false) : winSpec l a m = ([], 2) := by simp [winSpec, h, h2]
theorem win_ok {l : List (Int × List Int)} {a : Int} {m : Nat} (h : recErr l = 0) (h2 : winB a m = true) : winSpec l a m = (fullL (winF l a) m, 0) := by simp [winSpec, h, h2]
theorem winE_no {a m : Int} (h : winB a m = false) : (winE a m != 0) = true := by simp [winE, h]
theorem winE_yes {a m : Int} (h : winB a m = true) : (winE a m != 0) = false := by simp [winE, h]
set_option maxHeartbeats 4000000 in
theorem alignWindow_any (A : Option Addr) (c : Nat) (l : List (Int × List Int)) (a m : Int) (w : World) (hx : RB w A l) (hl : l.length ≤ 140737488355328) (hall : ∀ b ∈ l, b.2.length ≤ 140737488355328) :
    Calls Try.prog 18 #[.slice A l.length c, .int .i64 a, .int .i64 m] w (RetI 3 w (winSpec l a m)) := by
  rcases (Decidable.em (recErr l = 0)).symm with he | he
  · have e1 : (recErr l != 0) = true := by simp [he]
    have HE := Lib.hid he
    clear he
    go_enter Try.func18, Try.ntmps18
    go_wp2_with fail
    refine (alignCheck_any _ _ _ _ hx hl hall).mono ?_
    rintro _ w1 ⟨rfl, hb1⟩
    go_wp2
    go_ret2
    exact RetI.nil (win_err HE.out) hb1
  have e1 : (recErr l != 0) = false := by simp [he]
  have HE := Lib.hid he
  have hl5 := (recErr_zero he).1
  clear he
  by_cases hm : winB a m = true
  · have hbd := win_bd hm
    obtain ⟨n, rfl⟩ := Int.eq_ofNat_of_zero_le hbd.2.2.1
    have HM := Lib.hid hm
    go_enter Try.func18, Try.ntmps18
    go_wp2_with fail
    refine (alignCheck_any _ _ _ _ hx hl hall).mono ?_
    rintro _ w1 ⟨rfl, hb1⟩
    go_wp2_with fail
    refine (isWindow_any _ _ _).mono ?_
    rintro _ _ ⟨rfl, rfl⟩
    go_wp2_with fail
    refine (window_any _ _ _ a n _ (hx.keep hb1) (rec_apart HE.out) hl5 (by omega) (by omega) (by omega)).mono ?_
    rintro _ w2 ⟨g, rfl, hg, hB, hb2⟩
    have hs := hb1.size
    go_wp2
    go_ret2
    exact RetI.blk (win_ok HE.out HM.out) (fullL_len _ _) (by unfold maxLen; omega) hB (by omega) (bstep hb1 hb2)
  · have hm' : winB a m = false := by simpa using hm
    have HM := Lib.hid hm'
    clear hm
    go_enter Try.func18, Try.ntmps18
    go_wp2_with fail
    refine (alignCheck_any _ _ _ _ hx hl hall).mono ?_
    rintro _ w1 ⟨rfl, hb1⟩
    go_wp2_with fail
    refine (isWindow_any _ _ _).mono ?_
    rintro _ _ ⟨rfl, rfl⟩
    go_wp2
    go_ret2
    exact RetI.nil (win_arg HE.out HM.out) hb1
set_option maxHeartbeats 4000000 in
theorem refWindow_any (A : Option Addr) (c : Nat) (l : List (Int × List Int)) (a m : Int) (w : World) (hx : RB w A l) (hl : l.length ≤ 140737488355328) (hall : ∀ b ∈ l, b.2.length ≤ 140737488355328) :
    Calls Try.prog 19 #[.slice A l.length c, .int .i64 a, .int .i64 m] w (RetI 3 w (winSpec l a m)) := by
  rcases (Decidable.em (recErr l = 0)).symm with he | he
  · have e1 : (recErr l != 0) = true := by simp [he]
    have HE := Lib.hid he
    clear he
    go_enter Try.func19, Try.ntmps19
    go_wp2_with fail
    refine (refCheck14_any _ _ _ _ hx hl hall).mono ?_
    rintro _ w1 ⟨rfl, hb1⟩
    go_wp2_with fail
    refine (refCheck14_any _ _ _ _ (hx.keep hb1) hl hall).mono ?_
    rintro _ w2 ⟨rfl, hb2⟩
    go_wp2
    go_ret2
    exact RetI.nil (win_err HE.out) (bstep hb1 hb2)
  have e1 : (recErr l != 0) = false := by simp [he]
  have HE := Lib.hid he
  have hl5 := (recErr_zero he).1
  clear he
  by_cases hm : winB a m = true
  · have hbd := win_bd hm
    obtain ⟨n, rfl⟩ := Int.eq_ofNat_of_zero_le hbd.2.2.1
    have e2 := winE_yes hm
    have HM := Lib.hid hm
    clear hm
    obtain ⟨i0, hi0, hz0, hz1, hz2⟩ := info_parts info_int
    go_enter Try.func19, Try.ntmps19
    go_wp2_with fail
    refine (refCheck14_any _ _ _ _ hx hl hall).mono ?_
    rintro _ w1 ⟨rfl, hb1⟩
    go_wp2_with fail
    refine (asked14_any _ _ _).mono ?_
    rintro _ _ ⟨rfl, rfl⟩
    go_wp2
    go_loopg [8, 9] n (fun gk v i wr => ∃ k : Nat, k + gk = n ∧ i = .int .i64 k ∧ wr.ownsRow w.heap.size 3 1 v k ((fullL (winF l a) k).flatMap (encI .i64)) ∧ Below w.heap.size w wr)
    case atStart => exact ⟨0, by omega, rfl, World.ownsRow_nil _ _ _ _, hb1⟩
    case round =>
      obtain ⟨k, hk, rfl, hO, hb⟩ := hrel
      have hk' : k ≤ n := by omega
      have HK := Lib.hid hk
      clear hk
      have hsz := hb.size
      by_cases hlt : k < n
      · go_wp2_with fail
        refine (at14_any _ _ _ (a + k) _ (hx.keep hb) HE.out (by omega)).mono ?_
        rintro _ w3 ⟨rfl, q3, rfl⟩
        have hs3 : sampAt l (a + k) = winF l a k := rfl
        have HS := Lib.hid hs3
        clear hs3
        go_wp2_with (at_builtin; refine wpList_append_own _ rfl _ _ 22 rfl w.heap.size 3 i0 _ 1 8 Try.underlying22 hi0 hz0 hz1 hz2 rfl (by decide) _ k _ rfl (World.ownsRow.alloc (show (wr.drewN q3).ownsRow _ _ _ _ _ _ from hO) _) ⟨wr.heap.size, 0, none⟩ 1 1 (encI .i64 (sampAt l (a + k))) rfl rfl (by exact encI_news (wr.drewN q3) _ _ _) (encI_one _ _) (by unfold maxLen; omega) (by omega) (by simp; omega) ?_; intro v' w4 hown4 hgrow4 _)
        go_roundg (gk - 1)
        case rel => exact ⟨k + 1, by have := HK.out; omega, by go_num, by rw [fullL_succ, flat_snoc, ← HS.out]; exact hown4, own_below (balloc (below_drewN hb q3) _) (World.ownsRow.alloc (show (wr.drewN q3).ownsRow _ _ _ _ _ _ from hO) _) hgrow4 (Nat.le_refl _) (by simp; omega)⟩
        case measure => have := HK.out; omega
      · obtain rfl : k = n := by omega
        go_wp2
        go_ret2
        exact RetI.own (win_ok HE.out HM.out) (fullL_len _ _) hO hb
  · have hm' : winB a m = false := by simpa using hm
    have HM := Lib.hid hm'
    have e2 := winE_no hm'
    clear hm hm'
    go_enter Try.func19, Try.ntmps19
    go_wp2_with fail
    refine (refCheck14_any _ _ _ _ hx hl hall).mono ?_
    rintro _ w1 ⟨rfl, hb1⟩
    go_wp2_with fail
    refine (asked14_any _ _ _).mono ?_
    rintro _ _ ⟨rfl, rfl⟩
    go_wp2
    go_ret2
    exact RetI.nil (win_arg HE.out HM.out) hb1

/-! ### two windows aligned -/
def gone (l l' : List (Int × List Int)) (d a : Int) (i : Nat) : Bool := sampAt l (a + i) == 0 || sampAt l' (a + d + i) == 0
def alnX (l l' : List (Int × List Int)) (d a : Int) (i : Nat) : Int := if gone l l' d a i then 0 else sampAt l (a + i)
def alnY (l l' : List (Int × List Int)) (d a : Int) (i : Nat) : Int := if gone l l' d a i then 0 else sampAt l' (a + d + i)
def delB (d : Int) : Bool := decide (-64 ≤ d) && decide (d ≤ 64)
theorem delB_bd {d : Int} (h : delB d = true) : -64 ≤ d ∧ d ≤ 64 := by simpa [delB] using h
def alnSpec (l l' : List (Int × List Int)) (d a m : Int) : (List Int × List Int) × Int :=
  if recErr l ≠ 0 then (([], []), recErr l) else if recErr l' ≠ 0 then (([], []), recErr l') else if delB d && winB a m then ((fullL (alnX l l' d a) m.toNat, fullL (alnY l l' d a) m.toNat), 0) else (([], []), 2)
theorem aln_err {l l' : List (Int × List Int)} {d a m : Int} (h : ¬ recErr l = 0) : alnSpec l l' d a m = (([], []), recErr l) := by simp [alnSpec, h]
theorem aln_err2 {l l' : List (Int × List Int)} {d a m : Int} (h : recErr l = 0) (h2 : ¬ recErr l' = 0) : alnSpec l l' d a m = (([], []), recErr l') := by simp [alnSpec, h, h2]
theorem aln_arg {l l' : List (Int × List Int)} {d a m : Int} (h : recErr l = 0) (h2 : recErr l' = 0) (h3 : (delB d && winB a m) = false) : alnSpec l l' d a m = (([], []), 2) := by unfold alnSpec; rw [if_neg (by simp [h]), if_neg (by simp [h2]), h3]; rfl
theorem aln_ok {l l' : List (Int × List Int)} {d a : Int} {m : Nat} (h : recErr l = 0) (h2 : recErr l' = 0) (h3 : delB d = true) (h4 : winB a m = true) : alnSpec l l' d a m = ((fullL (alnX l l' d a) m, fullL (alnY l l' d a) m), 0) := by simp [alnSpec, h, h2, h3, h4]
def RetII (w : World) (r : (List Int × List Int) × Int) (e : Ending) (w' : World) : Prop :=
  ∃ A c A' c', e = .returned (.tuple #[.slice A r.1.1.length c, .slice A' r.1.2.length c', .int .i64 r.2]) ∧ RI .i64 w' A r.1.1 ∧ RI .i64 w' A' r.1.2 ∧ Below w.heap.size w w'
theorem RetII.nil {w w' : World} {x : Int} {r : (List Int × List Int) × Int} (hr : r = (([], []), x)) (hb : Below w.heap.size w w') : RetII w r (.returned (.tuple #[.slice none 0 0, .slice none 0 0, .int .i64 x])) w' := by
  subst hr
  exact ⟨none, 0, none, 0, rfl, RI.nil, RI.nil, hb⟩
theorem RetII.mk {w w' : World} {x : Int} {r : (List Int × List Int) × Int} {xs ys : List Int} {A A' : Option Addr} {n c c' : Nat} (hr : r = ((xs, ys), x)) (h1 : xs.length = n) (h2 : ys.length = n) (hx : RI .i64 w' A xs) (hy : RI .i64 w' A' ys) (hb : Below w.heap.size w w') : RetII w r (.returned (.tuple #[.slice A n c, .slice A' n c', .int .i64 x])) w' := by
  subst hr; subst h1
  refine ⟨A, c, A', c', ?_, hx, hy, hb⟩
  simp only []
  rw [h2]
/-- Two ways to fill a list: f below k, g from k on. -/
def mixL (f g : Nat → Int) (n k : Nat) : List Int := fullL (fun i => if i < k then f i else g i) n
theorem mixL_len (f g : Nat → Int) (n k : Nat) : (mixL f g n k).length = n := fullL_len _ _
theorem mixL_start (f g : Nat → Int) (n : Nat) : mixL f g n 0 = fullL g n := fullL_congr (fun i _ => by simp)
theorem mixL_end (f g : Nat → Int) (n : Nat) : mixL f g n n = fullL f n := fullL_congr (fun i hi => by simp [hi])
theorem mixL_skip {f g : Nat → Int} {n k : Nat} (h : f k = g k) : mixL f g n k = mixL f g n (k + 1) := fullL_congr (fun i _ => by
  by_cases h1 : i < k
  · rw [if_pos h1, if_pos (by omega)]
  · rw [if_neg h1]
    by_cases h2 : i < k + 1
    · obtain rfl : i = k := by omega
      rw [if_pos h2, h]
    · rw [if_neg h2])
theorem mixL_set {f g : Nat → Int} {n k : Nat} {y : Int} (h : f k = y) : (mixL f g n k).set k y = mixL f g n (k + 1) := by
  subst h
  unfold mixL
  apply List.ext_getElem (by simp [fullL])
  intro i h1 h2
  rw [List.getElem_set, fullL_get, fullL_get]
  by_cases e : k = i
  · subst e; rw [if_pos rfl, if_pos (by omega)]
  · rw [if_neg e]
    by_cases h3 : i < k
    · rw [if_pos h3, if_pos (by omega)]
    · rw [if_neg h3, if_neg (by omega)]
theorem mixL_at {f g : Nat → Int} {n k : Nat} (h : k < n) : (mixL f g n k).getD k 0 = g k := by
  unfold mixL
  rw [fullL_getD _ _ _ _ h, if_neg (by omega)]

set_option maxHeartbeats 8000000 in
theorem alignAlign_any (A B : Option Addr) (c e : Nat) (l l' : List (Int × List Int)) (d a m : Int) (w : World) (hx : RB w A l) (hy : RB w B l') (hl : l.length ≤ 140737488355328) (hall : ∀ b ∈ l, b.2.length ≤ 140737488355328) (hl' : l'.length ≤ 140737488355328) (hall' : ∀ b ∈ l', b.2.length ≤ 140737488355328) :
    Calls Try.prog 20 #[.slice A l.length c, .slice B l'.length e, .int .i64 d, .int .i64 a, .int .i64 m] w (RetII w (alnSpec l l' d a m)) := by
  rcases (Decidable.em (recErr l = 0)).symm with he | he
  · have e1 : (recErr l != 0) = true := by simp [he]
    have HE := Lib.hid he
    clear he
    go_enter Try.func20, Try.ntmps20
    go_wp2_with fail
    refine (alignCheck_any _ _ _ _ hx hl hall).mono ?_
    rintro _ w1 ⟨rfl, hb1⟩
    go_wp2
    go_ret3
    exact RetII.nil (aln_err HE.out) hb1
  have e1 : (recErr l != 0) = false := by simp [he]
  have HE := Lib.hid he
  have hl5 := (recErr_zero he).1
  clear he
  rcases (Decidable.em (recErr l' = 0)).symm with he | he
  · have e2 : (recErr l' != 0) = true := by simp [he]
    have HE2 := Lib.hid he
    clear he
    go_enter Try.func20, Try.ntmps20
    go_wp2_with fail
    refine (alignCheck_any _ _ _ _ hx hl hall).mono ?_
    rintro _ w1 ⟨rfl, hb1⟩
    go_wp2_with fail
    refine (alignCheck_any _ _ _ _ (hy.keep hb1) hl' hall').mono ?_
    rintro _ w2 ⟨rfl, hb2⟩
    go_wp2
    go_ret3
    exact RetII.nil (aln_err2 HE.out HE2.out) (bstep hb1 hb2)
  have e2 : (recErr l' != 0) = false := by simp [he]
  have HE2 := Lib.hid he
  have hl6 := (recErr_zero he).1
  clear he
  have HD := fun w => isDelay_any d w
  have e3 : (decide (-64 ≤ d) && decide (d ≤ 64)) = delB d := rfl
  rw [e3] at HD
  clear e3
  by_cases hd : delB d = true
  · by_cases hm : winB a m = true
    · have hbd := win_bd hm
      have hdb := delB_bd hd
      obtain ⟨n, rfl⟩ := Int.eq_ofNat_of_zero_le hbd.2.2.1
      have HM := Lib.hid (And.intro hd hm)
      go_enter Try.func20, Try.ntmps20
      go_wp2_with fail
      refine (alignCheck_any _ _ _ _ hx hl hall).mono ?_
      rintro _ w1 ⟨rfl, hb1⟩
      go_wp2_with fail
      refine (alignCheck_any _ _ _ _ (hy.keep hb1) hl' hall').mono ?_
      rintro _ w2 ⟨rfl, hb2⟩
      have hB2 := bstep hb1 hb2
      go_wp2_with fail
      refine (HD _).mono ?_
      rintro _ _ ⟨rfl, rfl⟩
      go_wp2_with fail
      refine (isWindow_any _ _ _).mono ?_
      rintro _ _ ⟨rfl, rfl⟩
      go_wp2_with fail
      refine (window_any _ _ _ a n _ (hx.keep hB2) (rec_apart HE.out) hl5 (by omega) (by omega) (by omega)).mono ?_
      rintro _ w3 ⟨g1, rfl, hg1, hX, hb3⟩
      have hB3 := bstep hB2 hb3
      go_wp2_with fail
      refine (window_any _ _ _ (a + d) n _ (hy.keep hB3) (rec_apart HE2.out) hl6 (by omega) (by omega) (by omega)).mono ?_
      rintro _ w4 ⟨g2, rfl, hg2, hY, hb4⟩
      have hB4 := bstep hB3 hb4
      have hgx := hX.lt
      have hgy := hY.lt
      replace hX := hX.keep hb4
      have hsz2 := hB2.size
      have hsz3 := hB3.size
      clear hb1 hb2 hb3 hb4 hB2 hB3 HD hm hd
      go_wp2
      go_loopg [15, 46] n (fun gk _ i wr => ∃ k : Nat, k + gk = n ∧ i = .int .i64 k ∧ Blk wr g1 3 ((mixL (alnX l l' d a) (winF l a) n k).flatMap (encI .i64)).toArray ∧ Blk wr g2 3 ((mixL (alnY l l' d a) (winF l' (a + d)) n k).flatMap (encI .i64)).toArray ∧ Below w.heap.size w wr)
      case atStart => exact ⟨0, by omega, rfl, by rw [mixL_start]; exact hX, by rw [mixL_start]; exact hY, hB4⟩
      case round =>
        obtain ⟨k, hk, rfl, hX, hY, hb⟩ := hrel
        have hk' : k ≤ n := by omega
        have HK := Lib.hid hk
        clear hk
        have hne : ¬ g1 = g2 := by omega
        have hne2 : ¬ g2 = g1 := by omega
        by_cases hlt : k < n
        · have ox := blkI_at hX (j := k) (by rw [mixL_len]; exact hlt)
          have oy := blkI_at hY (j := k) (by rw [mixL_len]; exact hlt)
          rw [mixL_at hlt] at ox oy
          have fx := hX.frozen k
          have fy := hY.frozen k
          have lx := hX.lt
          have ly := hY.lt
          have ex : winF l a k = sampAt l (a + k) := rfl
          have ey : winF l' (a + d) k = sampAt l' (a + d + k) := rfl
          rw [ex] at ox
          rw [ey] at oy
          by_cases hz : gone l l' d a k = true
          · have HX : Hid (alnX l l' d a k = 0) := Lib.hid (by unfold alnX; rw [if_pos hz])
            have HY : Hid (alnY l l' d a k = 0) := Lib.hid (by unfold alnY; rw [if_pos hz])
            unfold gone at hz
            clear ex ey
            generalize sampAt l (a + k) = x0 at *
            generalize sampAt l' (a + d + k) = y0 at *
            rcases (show (x0 == 0) = true ∨ ((x0 == 0) = false ∧ (y0 == 0) = true) by simp at hz ⊢; omega) with h0 | ⟨h0, h1⟩
            all_goals
              clear hz
              go_wp2
              go_roundg (gk - 1)
              case rel =>
                refine ⟨k + 1, by have := HK.out; omega, by go_num, ?_, ?_, ?_⟩
                · rw [← mixL_set HX.out]
                  exact (blkI_set hX (by rw [mixL_len]; exact hlt) 0).far (p := ⟨g2, k, none⟩) hne _
                · rw [← mixL_set HY.out]
                  exact blkI_set (hY.far (p := ⟨g1, k, none⟩) hne2 _) (by rw [mixL_len]; exact hlt) 0
                · exact (hb.setCell (p := ⟨g1, k, none⟩) (by simp only []; omega) _).setCell (p := ⟨g2, k, none⟩) (by simp only []; omega) _
              case measure => have := HK.out; omega
          · have hxz : sampAt l (a + k) ≠ 0 ∧ sampAt l' (a + d + k) ≠ 0 := by
              unfold gone at hz
              simpa using hz
            have h0 : (sampAt l (a + k) == 0) = false := by simp [hxz.1]
            have h1 : (sampAt l' (a + d + k) == 0) = false := by simp [hxz.2]
            have hz' : gone l l' d a k = false := by simpa using hz
            have HX : Hid (alnX l l' d a k = winF l a k) := Lib.hid (by unfold alnX; rw [hz']; rfl)
            have HY : Hid (alnY l l' d a k = winF l' (a + d) k) := Lib.hid (by unfold alnY; rw [hz']; rfl)
            clear hz hz' hxz ex ey
            generalize sampAt l (a + k) = x0 at *
            generalize sampAt l' (a + d + k) = y0 at *
            go_wp2
            go_roundg (gk - 1)
            case rel => exact ⟨k + 1, by have := HK.out; omega, by go_num, by rw [← mixL_skip HX.out]; exact hX, by rw [← mixL_skip HY.out]; exact hY, hb⟩
            case measure => have := HK.out; omega
        · obtain rfl : k = n := by omega
          rw [mixL_end] at hX hY
          go_wp2
          go_ret3
          exact RetII.mk (aln_ok HE.out HE2.out HM.out.1 HM.out.2) (fullL_len _ _) (fullL_len _ _) (blk_RI hX) (blk_RI hY) hb
    · have hm' : winB a m = false := by simpa using hm
      have HM : Hid ((delB d && winB a m) = false) := Lib.hid (by rw [hm', Bool.and_false])
      clear hm
      go_enter Try.func20, Try.ntmps20
      go_wp2_with fail
      refine (alignCheck_any _ _ _ _ hx hl hall).mono ?_
      rintro _ w1 ⟨rfl, hb1⟩
      go_wp2_with fail
      refine (alignCheck_any _ _ _ _ (hy.keep hb1) hl' hall').mono ?_
      rintro _ w2 ⟨rfl, hb2⟩
      go_wp2_with fail
      refine (HD _).mono ?_
      rintro _ _ ⟨rfl, rfl⟩
      go_wp2_with fail
      refine (isWindow_any _ _ _).mono ?_
      rintro _ _ ⟨rfl, rfl⟩
      go_wp2
      go_ret3
      exact RetII.nil (aln_arg HE.out HE2.out HM.out) (bstep hb1 hb2)
  · have hd' : delB d = false := by simpa using hd
    have HM : Hid ((delB d && winB a m) = false) := Lib.hid (by rw [hd', Bool.false_and])
    clear hd
    go_enter Try.func20, Try.ntmps20
    go_wp2_with fail
    refine (alignCheck_any _ _ _ _ hx hl hall).mono ?_
    rintro _ w1 ⟨rfl, hb1⟩
    go_wp2_with fail
    refine (alignCheck_any _ _ _ _ (hy.keep hb1) hl' hall').mono ?_
    rintro _ w2 ⟨rfl, hb2⟩
    go_wp2_with fail
    refine (HD _).mono ?_
    rintro _ _ ⟨rfl, rfl⟩
    go_wp2
    go_ret3
    exact RetII.nil (aln_arg HE.out HE2.out HM.out) (bstep hb1 hb2)

theorem at14_low (A : Option Addr) (c : Nat) (l : List (Int × List Int)) (t : Int) (w : World) (hx : RB w A l) (he : recErr l = 0) (ht : -1000000000 ≤ t ∧ t ≤ 1000000000) :
    Calls Try.prog 33 #[.slice A l.length c, .int .i64 t] w fun e w' => e = .returned (.int .i64 (sampAt l t)) ∧ Below w.heap.size w w' :=
  (at14_any A c l t w hx he ht).mono fun _ _ ⟨h1, n, h2⟩ => ⟨h1, by subst h2; exact below_drewN (Below.refl _ _) n⟩
set_option maxHeartbeats 8000000 in
theorem refAlign_any (A B : Option Addr) (c e : Nat) (l l' : List (Int × List Int)) (d a m : Int) (w : World) (hx : RB w A l) (hy : RB w B l') (hl : l.length ≤ 140737488355328) (hall : ∀ b ∈ l, b.2.length ≤ 140737488355328) (hl' : l'.length ≤ 140737488355328) (hall' : ∀ b ∈ l', b.2.length ≤ 140737488355328) :
    Calls Try.prog 21 #[.slice A l.length c, .slice B l'.length e, .int .i64 d, .int .i64 a, .int .i64 m] w (RetII w (alnSpec l l' d a m)) := by
  rcases (Decidable.em (recErr l = 0)).symm with he | he
  · have e1 : (recErr l != 0) = true := by simp [he]
    have HE := Lib.hid he
    clear he
    go_enter Try.func21, Try.ntmps21
    go_wp2_with fail
    refine (refCheck14_any _ _ _ _ hx hl hall).mono ?_
    rintro _ w1 ⟨rfl, hb1⟩
    go_wp2_with fail
    refine (refCheck14_any _ _ _ _ (hx.keep hb1) hl hall).mono ?_
    rintro _ w2 ⟨rfl, hb2⟩
    go_wp2
    go_ret3
    exact RetII.nil (aln_err HE.out) (bstep hb1 hb2)
  have e1 : (recErr l != 0) = false := by simp [he]
  have HE := Lib.hid he
  have hl5 := (recErr_zero he).1
  clear he
  rcases (Decidable.em (recErr l' = 0)).symm with he | he
  · have e2 : (recErr l' != 0) = true := by simp [he]
    have HE2 := Lib.hid he
    clear he
    go_enter Try.func21, Try.ntmps21
    go_wp2_with fail
    refine (refCheck14_any _ _ _ _ hx hl hall).mono ?_
    rintro _ w1 ⟨rfl, hb1⟩
    go_wp2_with fail
    refine (refCheck14_any _ _ _ _ (hy.keep hb1) hl' hall').mono ?_
    rintro _ w2 ⟨rfl, hb2⟩
    go_wp2_with fail
    refine (refCheck14_any _ _ _ _ (hy.keep (bstep hb1 hb2)) hl' hall').mono ?_
    rintro _ w3 ⟨rfl, hb3⟩
    go_wp2
    go_ret3
    exact RetII.nil (aln_err2 HE.out HE2.out) (bstep (bstep hb1 hb2) hb3)
  have e2 : (recErr l' != 0) = false := by simp [he]
  have HE2 := Lib.hid he
  have hl6 := (recErr_zero he).1
  clear he
  rcases (show (-64 ≤ d ∧ d ≤ 64) ∨ d < -64 ∨ (-64 ≤ d ∧ 64 < d) by omega).symm with hd | hd
  · have HM : Hid ((delB d && winB a m) = false) := Lib.hid (by rw [show delB d = false from by unfold delB; rcases hd with h | h <;> simp <;> omega, Bool.false_and])
    rcases hd with hd | hd
    all_goals
      go_enter Try.func21, Try.ntmps21
      go_wp2_with fail
      refine (refCheck14_any _ _ _ _ hx hl hall).mono ?_
      rintro _ w1 ⟨rfl, hb1⟩
      go_wp2_with fail
      refine (refCheck14_any _ _ _ _ (hy.keep hb1) hl' hall').mono ?_
      rintro _ w2 ⟨rfl, hb2⟩
      go_wp2
      go_ret3
      exact RetII.nil (aln_arg HE.out HE2.out HM.out) (bstep hb1 hb2)
  by_cases hm : winB a m = true
  · have hbd := win_bd hm
    obtain ⟨n, rfl⟩ := Int.eq_ofNat_of_zero_le hbd.2.2.1
    have HM := Lib.hid (And.intro (show delB d = true by unfold delB; simp; omega) hm)
    have e3 := winE_yes hm
    clear hm
    obtain ⟨i0, hi0, hz0, hz1, hz2⟩ := info_parts info_int
    go_enter Try.func21, Try.ntmps21
    go_wp2_with fail
    refine (refCheck14_any _ _ _ _ hx hl hall).mono ?_
    rintro _ w1 ⟨rfl, hb1⟩
    go_wp2_with fail
    refine (refCheck14_any _ _ _ _ (hy.keep hb1) hl' hall').mono ?_
    rintro _ w2 ⟨rfl, hb2⟩
    have hB2 := bstep hb1 hb2
    clear hb1 hb2
    go_wp2_with fail
    refine (asked14_any _ _ _).mono ?_
    rintro _ _ ⟨rfl, rfl⟩
    go_wp2
    go_loopg [13, 14, 15, 16, 17] n (fun gk va vb i _ _ wr => ∃ k : Nat, k + gk = n ∧ i = .int .i64 k ∧ wr.ownsRow w.heap.size 3 1 va k ((fullL (alnX l l' d a) k).flatMap (encI .i64)) ∧ wr.ownsRow w.heap.size 3 1 vb k ((fullL (alnY l l' d a) k).flatMap (encI .i64)) ∧ Hid (∀ g, va.ownBlock = some g → vb.ownBlock ≠ some g) ∧ Below w.heap.size w wr)
    case atStart => exact ⟨0, by omega, rfl, World.ownsRow_nil _ _ _ _, World.ownsRow_nil _ _ _ _, Lib.hid (by simp [Value.ownBlock]), hB2⟩
    case round =>
      obtain ⟨k, hk, rfl, hA, hB, hAB, hb⟩ := hrel
      have hk' : k ≤ n := by omega
      have HK := Lib.hid hk
      clear hk
      by_cases hlt : k < n
      · go_wp2_with fail
        refine (at14_low _ _ _ (a + k) _ (hx.keep hb) HE.out (by omega)).mono ?_
        rintro _ w3 ⟨rfl, hb3⟩
        have hB3 := bstep hb hb3
        replace hA := own_keep hA hb3
        replace hB := own_keep hB hb3
        go_wp2_with fail
        refine (at14_low _ _ _ (a + d + k) _ (hy.keep hB3) HE2.out (by omega)).mono ?_
        rintro _ w4 ⟨rfl, hb4⟩
        have hB4 := bstep hB3 hb4
        replace hA := own_keep hA hb4
        replace hB := own_keep hB hb4
        have hsz := hB4.size
        clear hb hb3 hb4 hB3
        have key : ∃ x y, alnX l l' d a k = x ∧ alnY l l' d a k = y := ⟨_, _, rfl, rfl⟩
        obtain ⟨X, Y, hX, hY⟩ := key
        have HXY := Lib.hid (And.intro hX hY)
        have hways : ((sampAt l (a + k) == 0) = true ∧ X = 0 ∧ Y = 0) ∨ ((sampAt l (a + k) == 0) = false ∧ (sampAt l' (a + d + k) == 0) = true ∧ X = 0 ∧ Y = 0) ∨ ((sampAt l (a + k) == 0) = false ∧ (sampAt l' (a + d + k) == 0) = false ∧ X = sampAt l (a + k) ∧ Y = sampAt l' (a + d + k)) := by
          rw [← hX, ← hY]
          unfold alnX alnY gone
          cases h1 : (sampAt l (a + k) == 0) <;> cases h2 : (sampAt l' (a + d + k) == 0) <;> simp
        clear hX hY
        generalize sampAt l (a + k) = x0 at *
        generalize sampAt l' (a + d + k) = y0 at *
        rcases hways with ⟨h0, rfl, rfl⟩ | ⟨h0, h1, rfl, rfl⟩ | ⟨h0, h1, rfl, rfl⟩
        · go_wp2_with (first
            | (at_builtin; refine wpList_append_lies _ rfl (.tmp 63) (.tmp 65) 22 rfl w.heap.size 3 i0 _ 1 8 Try.underlying22 hi0 hz0 hz1 hz2 rfl (by decide) _ k _ rfl (hA.alloc _) ⟨w4.heap.size, 0, none⟩ 1 1 (encI .i64 0) rfl rfl (encI_news _ _ _ _) (encI_one _ _) (by omega) (by unfold maxLen; omega) (by omega) (by simp; omega) (w4.heap.size + 1) (by simp) ?_; intro g1 c1 w1 hA1 hg1 hat1 hlt1; have hB1 := kept_apart (e' := 3) (s' := 1) (m := 0) (ys := []) (hB.alloc (.cells #[.int .i64 0] 3)) hg1 hAB.out; have hb1 := own_below (balloc hB4 (.cells #[.int .i64 0] 3)) (hA.alloc (.cells #[.int .i64 0] 3)) hg1 (Nat.le_refl _) (by simp; omega))
            | (at_builtin; refine wpList_append_lies _ rfl (.tmp 67) (.tmp 69) 22 rfl w.heap.size 3 i0 _ 1 8 Try.underlying22 hi0 hz0 hz1 hz2 rfl (by decide) _ k _ rfl (hB1.alloc _) ⟨w1.heap.size, 0, none⟩ 1 1 (encI .i64 0) rfl rfl (encI_news _ _ _ _) (encI_one _ _) (by omega) (by unfold maxLen; omega) (by omega) (by simp; have := hb1.size; omega) (w1.heap.size + 1) (by simp) ?_; intro g2 c2 w2 hB2 hg2 hat2 hlt2))
          have n1 := apart_one (H := w4.heap.size + 1) hB hAB.out hat1 (by omega)
          have hb2 := own_below (balloc hb1 (.cells #[.int .i64 0] 3)) (hB1.alloc (.cells #[.int .i64 0] 3)) hg2 (Nat.le_refl _) (by simp; have := hb1.size; omega)
          have hA2 := (hA1.alloc (.cells #[.int .i64 0] 3)).kept hg2 (.inr (fun h => n1 (h.symm.trans rfl)))
          go_roundg (gk - 1)
          case rel => exact ⟨k + 1, by have := HK.out; omega, by go_num, by rw [fullL_succ, flat_snoc, HXY.out.1]; exact hA2, by rw [fullL_succ, flat_snoc, HXY.out.2]; exact hB2, Lib.hid (apart_two (va := u13) n1 hat2 (by omega)), hb2⟩
          case measure => have := HK.out; omega
        · go_wp2_with (first
            | (at_builtin; refine wpList_append_lies _ rfl (.tmp 63) (.tmp 65) 22 rfl w.heap.size 3 i0 _ 1 8 Try.underlying22 hi0 hz0 hz1 hz2 rfl (by decide) _ k _ rfl (hA.alloc _) ⟨w4.heap.size, 0, none⟩ 1 1 (encI .i64 0) rfl rfl (encI_news _ _ _ _) (encI_one _ _) (by omega) (by unfold maxLen; omega) (by omega) (by simp; omega) (w4.heap.size + 1) (by simp) ?_; intro g1 c1 w1 hA1 hg1 hat1 hlt1; have hB1 := kept_apart (e' := 3) (s' := 1) (m := 0) (ys := []) (hB.alloc (.cells #[.int .i64 0] 3)) hg1 hAB.out; have hb1 := own_below (balloc hB4 (.cells #[.int .i64 0] 3)) (hA.alloc (.cells #[.int .i64 0] 3)) hg1 (Nat.le_refl _) (by simp; omega))
            | (at_builtin; refine wpList_append_lies _ rfl (.tmp 67) (.tmp 69) 22 rfl w.heap.size 3 i0 _ 1 8 Try.underlying22 hi0 hz0 hz1 hz2 rfl (by decide) _ k _ rfl (hB1.alloc _) ⟨w1.heap.size, 0, none⟩ 1 1 (encI .i64 0) rfl rfl (encI_news _ _ _ _) (encI_one _ _) (by omega) (by unfold maxLen; omega) (by omega) (by simp; have := hb1.size; omega) (w1.heap.size + 1) (by simp) ?_; intro g2 c2 w2 hB2 hg2 hat2 hlt2))
          have n1 := apart_one (H := w4.heap.size + 1) hB hAB.out hat1 (by omega)
          have hb2 := own_below (balloc hb1 (.cells #[.int .i64 0] 3)) (hB1.alloc (.cells #[.int .i64 0] 3)) hg2 (Nat.le_refl _) (by simp; have := hb1.size; omega)
          have hA2 := (hA1.alloc (.cells #[.int .i64 0] 3)).kept hg2 (.inr (fun h => n1 (h.symm.trans rfl)))
          go_roundg (gk - 1)
          case rel => exact ⟨k + 1, by have := HK.out; omega, by go_num, by rw [fullL_succ, flat_snoc, HXY.out.1]; exact hA2, by rw [fullL_succ, flat_snoc, HXY.out.2]; exact hB2, Lib.hid (apart_two (va := u13) n1 hat2 (by omega)), hb2⟩
          case measure => have := HK.out; omega
        · go_wp2_with (first
            | (at_builtin; refine wpList_append_lies _ rfl (.tmp 63) (.tmp 65) 22 rfl w.heap.size 3 i0 _ 1 8 Try.underlying22 hi0 hz0 hz1 hz2 rfl (by decide) _ k _ rfl (hA.alloc _) ⟨w4.heap.size, 0, none⟩ 1 1 (encI .i64 X) rfl rfl (encI_news _ _ _ _) (encI_one _ _) (by omega) (by unfold maxLen; omega) (by omega) (by simp; omega) (w4.heap.size + 1) (by simp) ?_; intro g1 c1 w1 hA1 hg1 hat1 hlt1; have hB1 := kept_apart (e' := 3) (s' := 1) (m := 0) (ys := []) (hB.alloc (.cells #[.int .i64 X] 3)) hg1 hAB.out; have hb1 := own_below (balloc hB4 (.cells #[.int .i64 X] 3)) (hA.alloc (.cells #[.int .i64 X] 3)) hg1 (Nat.le_refl _) (by simp; omega))
            | (at_builtin; refine wpList_append_lies _ rfl (.tmp 67) (.tmp 69) 22 rfl w.heap.size 3 i0 _ 1 8 Try.underlying22 hi0 hz0 hz1 hz2 rfl (by decide) _ k _ rfl (hB1.alloc _) ⟨w1.heap.size, 0, none⟩ 1 1 (encI .i64 Y) rfl rfl (encI_news _ _ _ _) (encI_one _ _) (by omega) (by unfold maxLen; omega) (by omega) (by simp; have := hb1.size; omega) (w1.heap.size + 1) (by simp) ?_; intro g2 c2 w2 hB2 hg2 hat2 hlt2))
          have n1 := apart_one (H := w4.heap.size + 1) hB hAB.out hat1 (by omega)
          have hb2 := own_below (balloc hb1 (.cells #[.int .i64 Y] 3)) (hB1.alloc (.cells #[.int .i64 Y] 3)) hg2 (Nat.le_refl _) (by simp; have := hb1.size; omega)
          have hA2 := (hA1.alloc (.cells #[.int .i64 Y] 3)).kept hg2 (.inr (fun h => n1 (h.symm.trans rfl)))
          go_roundg (gk - 1)
          case rel => exact ⟨k + 1, by have := HK.out; omega, by go_num, by rw [fullL_succ, flat_snoc, HXY.out.1]; exact hA2, by rw [fullL_succ, flat_snoc, HXY.out.2]; exact hB2, Lib.hid (apart_two (va := u13) n1 hat2 (by omega)), hb2⟩
          case measure => have := HK.out; omega
      · obtain rfl : k = n := by omega
        obtain ⟨A1, c1, rfl⟩ := own_shape hA
        obtain ⟨A2, c2, rfl⟩ := own_shape hB
        go_wp2
        go_ret3
        exact RetII.mk (aln_ok HE.out HE2.out HM.out.1 HM.out.2) (fullL_len _ _) (fullL_len _ _) (own_RI_at (fullL_len _ _) hA) (own_RI_at (fullL_len _ _) hB) hb
  · have hm' : winB a m = false := by simpa using hm
    have HM : Hid ((delB d && winB a m) = false) := Lib.hid (by rw [hm', Bool.and_false])
    have e3 := winE_no hm'
    clear hm hm'
    go_enter Try.func21, Try.ntmps21
    go_wp2_with fail
    refine (refCheck14_any _ _ _ _ hx hl hall).mono ?_
    rintro _ w1 ⟨rfl, hb1⟩
    go_wp2_with fail
    refine (refCheck14_any _ _ _ _ (hy.keep hb1) hl' hall').mono ?_
    rintro _ w2 ⟨rfl, hb2⟩
    go_wp2_with fail
    refine (asked14_any _ _ _).mono ?_
    rintro _ _ ⟨rfl, rfl⟩
    go_wp2
    go_ret3
    exact RetII.nil (aln_arg HE.out HE2.out HM.out) (bstep hb1 hb2)
end Go.Proofs.Ytbejkfeloffccaa
