/-
  The walk of SearchTurns.
-/
import Derived.Test.YtnejmgnbamajdaaSearchL
import Derived.RegionTactic
import Derived.BigRegion
namespace Go.Proofs.Ytnejmgnbamajdaa
open Go.RowKit
set_option linter.unusedVariables false

/-- The samples with the signs at odd times changed. -/
def flipAt (xs : List Int) (s : Int) (k : Nat) : Int := if ((k : Int) / s) % 2 = 1 then -(xs.getD k 0) else xs.getD k 0
def flipped (xs : List Int) (s : Int) : List Int := fullL (flipAt xs s) xs.length
theorem flipped_len (xs : List Int) (s : Int) : (flipped xs s).length = xs.length := fullL_len _ _
theorem digit_neg {x : Int} (h : 0 ≤ digitOf x) : 0 ≤ digitOf (-x) := by
  unfold digitOf at h ⊢
  repeat' split at h
  all_goals (repeat' split)
  all_goals omega
theorem flipped_ok {xs : List Int} (s : Int) (h : streamErr xs = 0) : streamErr (flipped xs s) = 0 := by
  obtain ⟨h1, h2⟩ := streamErr_zero h
  apply streamErr_ok
  · rw [flipped_len]; exact h1
  · intro x hx
    obtain ⟨k, hk, rfl⟩ := List.mem_iff_getElem.1 hx
    rw [flipped_len] at hk
    have e : (flipped xs s)[k]'(by rw [flipped_len]; exact hk) = flipAt xs s k := by simp [flipped, fullL]
    rw [e]
    unfold flipAt
    rw [getD_lt _ _ hk]
    have := h2 _ (List.getElem_mem hk)
    split
    · exact digit_neg this
    · exact this
theorem turn_half {a b t r : Int} (h1 : 0 ≤ r) (h2 : r ≤ 3) : turnG (a * b, 0) (-((r + 2) % 4) * t) = turnG ((if t % 2 = 1 then -a else a) * b, 0) (-r * t) := by
  rcases (show t % 4 = 0 ∨ t % 4 = 1 ∨ t % 4 = 2 ∨ t % 4 = 3 by omega) with h | h | h | h <;>
  rcases (show r = 0 ∨ r = 1 ∨ r = 2 ∨ r = 3 by omega) with rfl | rfl | rfl | rfl <;>
  unfold turnG <;>
  (repeat' split) <;>
  first
  | (exfalso; omega)
  | simp [Int.neg_mul]
theorem part_half {xs ys : List Int} {d r s : Int} {k : Nat} (hk : k < xs.length) (h1 : 0 ≤ r) (h2 : r ≤ 3) : partAt xs ys d ((r + 2) % 4) s k = partAt (flipped xs s) ys d r s k := by
  unfold partAt prodAt quartAt flipped
  rw [fullL_getD _ _ _ _ hk]
  unfold flipAt
  exact turn_half h1 h2
theorem sum_half {xs ys : List Int} {d r s : Int} (h1 : 0 ≤ r) (h2 : r ≤ 3) (k : Nat) (hk : k ≤ xs.length) : cellSum xs ys d ((r + 2) % 4) s k = cellSum (flipped xs s) ys d r s k := by
  induction k with
  | zero => rfl
  | succ k ih => rw [cellSum, cellSum, ih (by omega), part_half (by omega) h1 h2]
theorem cell_half {xs ys : List Int} {d r s : Int} (h1 : 0 ≤ r) (h2 : r ≤ 3) : (cellS xs ys d ((r + 2) % 4) s).re = (cellS (flipped xs s) ys d r s).re ∧ (cellS xs ys d ((r + 2) % 4) s).im = (cellS (flipped xs s) ys d r s).im ∧ (cellS xs ys d ((r + 2) % 4) s).pw = (cellS (flipped xs s) ys d r s).pw := by
  have h := sum_half (xs := xs) (ys := ys) (d := d) (s := s) h1 h2 xs.length (Nat.le_refl _)
  unfold cellS
  simp only []
  rw [flipped_len, h]
  exact ⟨rfl, rfl, rfl⟩
theorem turn_times {a b q : Int} : turnG (a * b, 0) q = ((turnG (a, 0) q).1 * b, (turnG (a, 0) q).2 * b) := by
  unfold turnG
  repeat' split
  all_goals simp [Int.neg_mul]
theorem part_stop {xs ys : List Int} {d r s : Int} {k : Nat} : partAt xs ys d r s k = ((stopAt xs r s k).1 * extS ys ((k : Int) + d), (stopAt xs r s k).2 * extS ys ((k : Int) + d)) := by
  unfold partAt prodAt stopAt
  exact turn_times
theorem stop_bd {xs : List Int} {r s : Int} {k : Nat} (h : streamErr xs = 0) : -3 ≤ (stopAt xs r s k).1 ∧ (stopAt xs r s k).1 ≤ 3 ∧ -3 ≤ (stopAt xs r s k).2 ∧ (stopAt xs r s k).2 ≤ 3 := by
  have := stream_bd h k
  exact turnG_bd (B := 3) _ ⟨this.1, this.2, by simp, by simp⟩

set_option maxRecDepth 100000 in
set_option maxHeartbeats 8000000 in
theorem searchTurns_walk (A : Option Addr) (c : Nat) (xs : List Int) (B : Option Addr) (d : Nat) (ys : List Int) (dl r s : Int) (w : World)
    (hx : RI .i64 w A xs) (hlx : xs.length ≤ 9223372036854775807) (_ : ∀ x ∈ xs, (Lit.int .i64 x).wf = true)
    (hy : RI .i64 w B ys) (hly : ys.length ≤ 9223372036854775807) (_ : ∀ x ∈ ys, (Lit.int .i64 x).wf = true)
    (_ : -9223372036854775808 ≤ dl ∧ dl ≤ 9223372036854775807) (_ : -9223372036854775808 ≤ r ∧ r ≤ 9223372036854775807) (_ : -9223372036854775808 ≤ s ∧ s ≤ 9223372036854775807) :
    Calls Try.prog 7 #[.slice A xs.length c, .slice B ys.length d, .int .i64 dl, .int .i64 r, .int .i64 s] w fun e w' => e = .returned (.bool true) ∧ Below w.heap.size w w' := by
  rcases (Decidable.em (askErr xs ys s = 0)).symm with he | he
  · have e1 : decide (askErr xs ys s = 0) = false := by simpa using he
    clear he
    go_enter Try.func7, Try.ntmps7
    go_wp2_with fail
    refine (alive20 _).mono ?_
    rintro _ w1 ⟨rfl, hb1⟩
    go_wp2_with fail
    refine (fit20_any _ _ _ _ _ _ _ _ (hx.keep hb1) (hy.keep hb1) hlx hly).mono ?_
    rintro _ _ ⟨rfl, rfl⟩
    go_wp2
    go_ret
    exact ⟨rfl, hb1⟩
  have e1 : decide (askErr xs ys s = 0) = true := by simpa using he
  have HE := Lib.hid he
  obtain ⟨hx1, hy1, hs1, hs2⟩ := askErr_zero he
  have hl5 := (streamErr_zero hx1).1
  have hl6 := (streamErr_zero hy1).1
  have hla : xs.length ≤ 140737488355328 := by omega
  have hlb : ys.length ≤ 140737488355328 := by omega
  have HX := Lib.hid hx1
  have HY := Lib.hid hy1
  clear he hx1 hy1
  rcases (show (-32 ≤ dl ∧ dl ≤ 32 ∧ 0 ≤ r ∧ r ≤ 3) ∨ dl < -32 ∨ (-32 ≤ dl ∧ 32 < dl) ∨ (-32 ≤ dl ∧ dl ≤ 32 ∧ r < 0) ∨ (-32 ≤ dl ∧ dl ≤ 32 ∧ 0 ≤ r ∧ 3 < r) by omega).symm with h | h
  · rcases h with h | h | h | h
    all_goals
      go_enter Try.func7, Try.ntmps7
      go_wp2_with fail
      refine (alive20 _).mono ?_
      rintro _ w1 ⟨rfl, hb1⟩
      go_wp2_with fail
      refine (fit20_any _ _ _ _ _ _ _ _ (hx.keep hb1) (hy.keep hb1) hlx hly).mono ?_
      rintro _ _ ⟨rfl, rfl⟩
      go_wp2
      go_ret
      exact ⟨rfl, hb1⟩
  obtain ⟨h1, h2, h3, h4⟩ := h
  obtain ⟨i0, hi0, hz0, hz1, hz2⟩ := info_parts info_int
  have z0 : ¬ s = 0 := by omega
  have z1 : (s == 0) = false := by simp [z0]
  go_enter Try.func7, Try.ntmps7
  go_wp2_with fail
  refine (alive20 _).mono ?_
  rintro _ w1 ⟨rfl, hb1⟩
  go_wp2_with fail
  refine (fit20_any _ _ _ _ _ _ _ _ (hx.keep hb1) (hy.keep hb1) hlx hly).mono ?_
  rintro _ _ ⟨rfl, rfl⟩
  go_wp2
  go_loopg [12, 13] xs.length (fun gk v i wr => ∃ k : Nat, k + gk = xs.length ∧ i = .int .i64 k ∧ wr.ownsRow w.heap.size 3 1 v k ((fullL (flipAt xs s) k).flatMap (encI .i64)) ∧ Below w.heap.size w wr)
  case atStart => exact ⟨0, by omega, rfl, World.ownsRow_nil _ _ _ _, hb1⟩
  case round =>
    obtain ⟨k, hk, rfl, hO, hb⟩ := hrel
    have hk' : k ≤ xs.length := by omega
    have HK := Lib.hid hk
    clear hk
    have hsz := hb.size
    by_cases hlt : k < xs.length
    · obtain ⟨b1, off1, rfl, hlw1, hw1⟩ := hx.at2 hlt
      rw [getD_lt _ _ hlt] at hw1
      have hc1 := (hb.cell (p := ⟨b1, _, none⟩) hlw1).trans hw1
      have hv := stream_bd HX.out k
      rw [getD_lt _ _ hlt] at hv
      have q1 := quot_bd (k := k) hs1
      by_cases hp : ((k : Int) / s) % 2 = 1
      · have ep : ((k : Int) / s % 2 == 1) = true := by simp [hp]
        have HF : Hid (flipAt xs s k = -xs[k]) := Lib.hid (by unfold flipAt; rw [if_pos hp, getD_lt _ _ hlt])
        clear hp
        go_wp2_with (at_builtin; refine wpList_append_own _ rfl _ _ 24 rfl w.heap.size 3 i0 _ 1 8 Try.underlying24 hi0 hz0 hz1 hz2 rfl (by decide) _ k _ rfl (hO.alloc _) ⟨wr.heap.size, 0, none⟩ 1 1 (encI .i64 (-xs[k])) rfl rfl (encI_news _ _ _ _) (encI_one _ _) (by unfold maxLen; omega) (by omega) (by simp; omega) ?_; intro v' w2 hown2 hgrow2 _)
        go_roundg (gk - 1)
        case rel => exact ⟨k + 1, by have := HK.out; omega, by go_num, by rw [fullL_succ, flat_snoc, HF.out]; exact hown2, own_below (balloc hb _) (hO.alloc _) hgrow2 (Nat.le_refl _) (by simp; omega)⟩
        case measure => have := HK.out; omega
      · have ep : ((k : Int) / s % 2 == 1) = false := by simp [hp]
        have HF : Hid (flipAt xs s k = xs[k]) := Lib.hid (by unfold flipAt; rw [if_neg hp, getD_lt _ _ hlt])
        clear hp
        go_wp2_with (at_builtin; refine wpList_append_own _ rfl _ _ 24 rfl w.heap.size 3 i0 _ 1 8 Try.underlying24 hi0 hz0 hz1 hz2 rfl (by decide) _ k _ rfl (hO.alloc _) ⟨wr.heap.size, 0, none⟩ 1 1 (encI .i64 xs[k]) rfl rfl (encI_news _ _ _ _) (encI_one _ _) (by unfold maxLen; omega) (by omega) (by simp; omega) ?_; intro v' w2 hown2 hgrow2 _)
        go_roundg (gk - 1)
        case rel => exact ⟨k + 1, by have := HK.out; omega, by go_num, by rw [fullL_succ, flat_snoc, HF.out]; exact hown2, own_below (balloc hb _) (hO.alloc _) hgrow2 (Nat.le_refl _) (by simp; omega)⟩
        case measure => have := HK.out; omega
    · have hkl : k = xs.length := by omega
      subst hkl
      clear hlt HK hk' z0 z1
      obtain ⟨A1, c1, rfl⟩ := own_shape hO
      have rZ : RI .i64 wr A1 (flipped xs s) := own_RI_at (flipped_len xs s) hO
      clear hO
      have hat1 := atSpec_ok HE.out (d := dl) (r := (r + 2) % 4) ⟨by omega, by omega, by omega, by omega⟩
      have hask2 : askErr (flipped xs s) ys s = 0 := by have := flipped_ok s HX.out; have h2 := HY.out; simp [askErr, this, h2]; omega
      have hat2 := atSpec_ok hask2 (d := dl) (r := r) ⟨by omega, by omega, by omega, by omega⟩
      have hat3 := atSpec_ok HE.out (d := dl) (r := r) ⟨by omega, by omega, by omega, by omega⟩
      obtain ⟨k1, k2, k3⟩ := cell_half (xs := xs) (ys := ys) (d := dl) (s := s) h3 h4
      have c3r : (cellS xs ys dl r s).re = (cellSum xs ys dl r s xs.length).1 := rfl
      have c3i : (cellS xs ys dl r s).im = (cellSum xs ys dl r s xs.length).2 := rfl
      obtain ⟨C1, hC1⟩ : ∃ C, C = cellS xs ys dl ((r + 2) % 4) s := ⟨_, rfl⟩
      obtain ⟨C2, hC2⟩ : ∃ C, C = cellS (flipped xs s) ys dl r s := ⟨_, rfl⟩
      obtain ⟨C3, hC3⟩ : ∃ C, C = cellS xs ys dl r s := ⟨_, rfl⟩
      rw [← hC1] at hat1 k1 k2 k3
      rw [← hC2] at hat2 k1 k2 k3
      rw [← hC3] at hat3 c3r c3i
      have t1 : (C1.re == C2.re) = true := by simp [k1]
      have t2 : (C1.im == C2.im) = true := by simp [k2]
      have t3 : (C1.pw != C2.pw) = false := by simp [k3]
      have H1 := fun w hx hy => searchAt_any A B c d xs ys dl ((r + 2) % 4) s w hx hy hla hlb
      have H2 := fun w hx hy => searchAt_any A1 B c1 d (flipped xs s) ys dl r s w hx hy (by rw [flipped_len]; exact hla) hlb
      have H3 := fun w hx hy => searchAt_any A B c d xs ys dl r s w hx hy hla hlb
      have H4 := fun w hx => searchStop_any A c xs r s w hx hla
      rw [hat1] at H1
      rw [hat2] at H2
      rw [hat3] at H3
      rw [stop_ok (by rw [ask_nil]; have := HX.out; simp [this]; omega) ⟨h3, h4⟩] at H4
      rw [flipped_len] at H2
      have HC3 := Lib.hid (And.intro c3r c3i)
      clear hat1 hat2 hat3 hask2 k1 k2 k3 hC1 hC2 hC3 c3r c3i
      have g1 := eqg_gauss
      have g2 := eq_gauss
      go_wp2_with fail
      refine (H1 _ (hx.keep hb) (hy.keep hb)).mono ?_
      rintro _ w1 ⟨rfl, hb1'⟩
      have hB1 := balloc (bstep hb hb1') (.cells #[.int .i64 C1.d, .int .i64 C1.r, .int .i64 C1.re, .int .i64 C1.im, .int .i64 C1.pw] 32)
      have hK1 := Blk.new w1 32 #[.int .i64 C1.d, .int .i64 C1.r, .int .i64 C1.re, .int .i64 C1.im, .int .i64 C1.pw]
      replace rZ := rZ.keep (balloc hb1' (.cells #[.int .i64 C1.d, .int .i64 C1.r, .int .i64 C1.re, .int .i64 C1.im, .int .i64 C1.pw] 32))
      clear hb1' hb H1
      go_wp2_with fail
      refine (H2 _ rZ (hy.keep hB1)).mono ?_
      rintro _ w2 ⟨rfl, hb2⟩
      have hB2 := balloc (bstep hB1 hb2) (.cells #[.int .i64 C2.d, .int .i64 C2.r, .int .i64 C2.re, .int .i64 C2.im, .int .i64 C2.pw] 32)
      have hK2 := Blk.new w2 32 #[.int .i64 C2.d, .int .i64 C2.r, .int .i64 C2.re, .int .i64 C2.im, .int .i64 C2.pw]
      replace hK1 := (hK1.keep hb2).alloc (.cells #[.int .i64 C2.d, .int .i64 C2.r, .int .i64 C2.re, .int .i64 C2.im, .int .i64 C2.pw] 32)
      clear hb2 hB1 rZ H2
      go_wp2_with fail
      refine (H3 _ (hx.keep hB2) (hy.keep hB2)).mono ?_
      rintro _ w3 ⟨rfl, hb3⟩
      have hB3 := balloc (bstep hB2 hb3) (.cells #[.int .i64 C3.d, .int .i64 C3.r, .int .i64 C3.re, .int .i64 C3.im, .int .i64 C3.pw] 32)
      have hK3 := Blk.new w3 32 #[.int .i64 C3.d, .int .i64 C3.r, .int .i64 C3.re, .int .i64 C3.im, .int .i64 C3.pw]
      replace hK1 := (hK1.keep hb3).alloc (.cells #[.int .i64 C3.d, .int .i64 C3.r, .int .i64 C3.re, .int .i64 C3.im, .int .i64 C3.pw] 32)
      replace hK2 := (hK2.keep hb3).alloc (.cells #[.int .i64 C3.d, .int .i64 C3.r, .int .i64 C3.re, .int .i64 C3.im, .int .i64 C3.pw] 32)
      clear hb3 hB2 H3
      go_wp2_with fail
      refine (H4 _ (hx.keep hB3)).mono ?_
      rintro _ w4 ⟨A4, c4, rfl, ho4, hb4⟩
      simp only [] at ho4
      have hlen : (fullL (stopAt xs r s) xs.length).length = xs.length := fullL_len _ _
      have rS := own_RL ho4
      rw [hlen]
      have HL := Lib.hid hlen
      replace hK1 := hK1.keep hb4
      replace hK2 := hK2.keep hb4
      replace hK3 := hK3.keep hb4
      have hB4 := bstep hB3 hb4
      clear hb4 hB3 ho4 H4 hlen
      have a0 : World.cell? w4 ⟨w1.heap.size, 0, none⟩ = some (.int .i64 C1.d) := hK1.cell 0
      have af0 := hK1.frozen 0
      have a1 : World.cell? w4 ⟨w1.heap.size, 1, none⟩ = some (.int .i64 C1.r) := hK1.cell 1
      have af1 := hK1.frozen 1
      have a2 : World.cell? w4 ⟨w1.heap.size, 2, none⟩ = some (.int .i64 C1.re) := hK1.cell 2
      have af2 := hK1.frozen 2
      have a3 : World.cell? w4 ⟨w1.heap.size, 3, none⟩ = some (.int .i64 C1.im) := hK1.cell 3
      have af3 := hK1.frozen 3
      have a4 : World.cell? w4 ⟨w1.heap.size, 4, none⟩ = some (.int .i64 C1.pw) := hK1.cell 4
      have af4 := hK1.frozen 4
      have afl := hK1.lt
      have b0 : World.cell? w4 ⟨w2.heap.size, 0, none⟩ = some (.int .i64 C2.d) := hK2.cell 0
      have bf0 := hK2.frozen 0
      have b1 : World.cell? w4 ⟨w2.heap.size, 1, none⟩ = some (.int .i64 C2.r) := hK2.cell 1
      have bf1 := hK2.frozen 1
      have b2 : World.cell? w4 ⟨w2.heap.size, 2, none⟩ = some (.int .i64 C2.re) := hK2.cell 2
      have bf2 := hK2.frozen 2
      have b3 : World.cell? w4 ⟨w2.heap.size, 3, none⟩ = some (.int .i64 C2.im) := hK2.cell 3
      have bf3 := hK2.frozen 3
      have b4 : World.cell? w4 ⟨w2.heap.size, 4, none⟩ = some (.int .i64 C2.pw) := hK2.cell 4
      have bf4 := hK2.frozen 4
      have bfl := hK2.lt
      have hz4 := hB4.size
      have hk3l := hK3.lt
      go_wp2
      clear a0 a1 a2 a3 a4 b0 b1 b2 b3 b4 af0 af1 af2 af3 af4 bf0 bf1 bf2 bf3 bf4
      go_loopg [23, 24] xs.length (fun gk i _ wr => ∃ k : Nat, k + gk = xs.length ∧ i = .int .i64 k ∧ Blk wr w4.heap.size 23 #[.int .i64 (cellSum xs ys dl r s k).1, .int .i64 (cellSum xs ys dl r s k).2] ∧ Below w4.heap.size w4 wr)
      case atStart => exact ⟨0, by omega, rfl, Blk.new w4 _ _, balloc (Below.refl _ _) _⟩
      case round =>
        obtain ⟨k, hk, rfl, hO, hb⟩ := hrel
        have hk' : k ≤ xs.length := by omega
        have HK := Lib.hid hk
        clear hk
        have hbd := cellSum_bd HX.out HY.out dl r s k
        have o0 : World.cell? wr ⟨w4.heap.size, 0, none⟩ = some (.int .i64 (cellSum xs ys dl r s k).1) := hO.cell 0
        have of0 := hO.frozen 0
        have o1 : World.cell? wr ⟨w4.heap.size, 1, none⟩ = some (.int .i64 (cellSum xs ys dl r s k).2) := hO.cell 1
        have of1 := hO.frozen 1
        have ofl := hO.lt
        by_cases hlt : k < xs.length
        · rcases (show (0 ≤ (k : Int) + dl ∧ (k : Int) + dl < ys.length) ∨ (k : Int) + dl < 0 ∨ (0 ≤ (k : Int) + dl ∧ (ys.length : Int) ≤ (k : Int) + dl) by omega) with hin | hin
          · obtain ⟨hin1, hin2⟩ := hin
            have hjn : ((k : Int) + dl).toNat < ys.length := by omega
            obtain ⟨b2, off2, rfl, hlw2, hw2⟩ := (hy.keep hB4).at2 hjn
            rw [getD_lt _ _ hjn] at hw2
            have hc2 := (hb.cell (p := ⟨b2, _, none⟩) hlw2).trans hw2
            obtain ⟨b3, off3, rfl, hlw3, hw3, hw4⟩ := rS.at_ (i := k) (by rw [HL.out]; exact hlt)
            rw [fullL_getD _ _ _ _ hlt] at hw3 hw4
            have hc3 := (hb.cell (p := ⟨b3, _, none⟩) hlw3).trans hw3
            have hc4 := (hb.cell (p := ⟨b3, _, none⟩) hlw3).trans hw4
            have n2 : ¬ b2 = w4.heap.size := by omega
            have n3 : ¬ b3 = w4.heap.size := by omega
            have hsb := stop_bd (r := r) (s := s) (k := k) HX.out
            have hyb := extS_bd HY.out ((k : Int) + dl)
            rw [extS_in hin1 hjn] at hyb
            have m1 := mul9 (a := (stopAt xs r s k).1) (b := ys[((k : Int) + dl).toNat]) ⟨hsb.1, hsb.2.1⟩ hyb
            have m2 := mul9 (a := (stopAt xs r s k).2) (b := ys[((k : Int) + dl).toNat]) ⟨hsb.2.2.1, hsb.2.2.2⟩ hyb
            have HP : Hid (cellSum xs ys dl r s (k + 1) = ((cellSum xs ys dl r s k).1 + (stopAt xs r s k).1 * ys[((k : Int) + dl).toNat], (cellSum xs ys dl r s k).2 + (stopAt xs r s k).2 * ys[((k : Int) + dl).toNat])) := Lib.hid (by rw [cellSum, part_stop, extS_in hin1 hjn])
            generalize hU : cellSum xs ys dl r s k = U at *
            generalize hV : stopAt xs r s k = V at *
            clear hU hV
            generalize hY0 : ys[((k : Int) + dl).toNat] = y0 at *
            clear hY0
            go_wp2
            go_region
            all_goals go_wp2
            all_goals go_region
            all_goals go_wp2
            all_goals
              go_roundg (gk - 1)
              case rel => exact ⟨k + 1, by have := HK.out; omega, by go_num, by rw [HP.out]; exact ((hO.put 0 _).put 1 _).drew.drew, ((hb.setCell (p := ⟨w4.heap.size, 0, none⟩) (Nat.le_refl _) _).setCell (p := ⟨w4.heap.size, 1, none⟩) (Nat.le_refl _) _).drew.drew⟩
              case measure => have := HK.out; omega
          · have HST := Lib.hid (cellSum_out (xs := xs) (r := r) (s := s) (show (k : Int) + dl < 0 ∨ (ys.length : Int) ≤ (k : Int) + dl by omega))
            rcases hin with hin | hin
            all_goals
              go_wp2
              go_roundg (gk - 1)
              case rel => exact ⟨k + 1, by have := HK.out; omega, by go_num, by rw [HST.out]; exact hO, hb⟩
              case measure => have := HK.out; omega
        · obtain rfl : k = xs.length := by omega
          have hK3' := hK3.keep hb
          have hk3' := hK3'.lt
          have c2 : wr.cell? ⟨w3.heap.size, 2, none⟩ = some (.int .i64 (cellSum xs ys dl r s xs.length).1) := by rw [← HC3.out.1]; exact hK3'.cell 2
          have c3 : wr.cell? ⟨w3.heap.size, 3, none⟩ = some (.int .i64 (cellSum xs ys dl r s xs.length).2) := by rw [← HC3.out.2]; exact hK3'.cell 3
          go_wp2
          go_ret
          exact ⟨by simp, bstep hB4 hb⟩
end Go.Proofs.Ytnejmgnbamajdaa
