/-
  The walk of LagCuts.
-/
import Derived.Test.YtfmhliiljmcejaaLagX
namespace Go.Proofs.Ytfmhliiljmcejaa
open Go.RowKit
set_option linter.unusedVariables false

theorem getD_ge {xs : List Int} {i : Nat} (h : xs.length ≤ i) : xs.getD i 0 = 0 := by simp [List.getD_eq_getElem?_getD, List.getElem?_eq_none h]
theorem cutA_at {xs : List Int} {n i : Nat} (hn : n ≤ xs.length) : (cutA xs n).getD i 0 = if i < n then xs.getD i 0 else 0 := by
  unfold cutA
  split
  · rename_i h
    rw [getD_lt _ _ (by simp; omega), List.getElem_append_left (by simp; omega), getD_lt _ _ (by omega)]
    simp
  · rename_i h
    rcases Nat.lt_or_ge i xs.length with h1 | h1
    · rw [getD_lt _ _ (by simp; omega), List.getElem_append_right (by simp; omega)]
      simp
    · exact getD_ge (by simp; omega)
theorem cutB_at {xs : List Int} {n i : Nat} (hn : n ≤ xs.length) : (cutB xs n).getD i 0 = if i < n then 0 else xs.getD i 0 := by
  unfold cutB
  split
  · rename_i h
    rw [getD_lt _ _ (by simp; omega), List.getElem_append_left (by simp; omega)]
    simp
  · rename_i h
    rcases Nat.lt_or_ge i xs.length with h1 | h1
    · rw [getD_lt _ _ (by simp; omega), List.getElem_append_right (by simp; omega), getD_lt _ _ h1]
      simp only [List.length_replicate, List.getElem_drop]
      congr 1
      omega
    · rw [getD_ge h1]
      exact getD_ge (by simp; omega)
theorem digit_zero : 0 ≤ digitOf 0 := by decide
theorem cutA_stream {xs : List Int} {n : Nat} (h : streamErr xs = 0) (hn : n ≤ xs.length) : streamErr (cutA xs n) = 0 := by
  refine streamErr_ok (by rw [cutA_len hn]; exact (streamErr_zero h).1) (fun x hx => ?_)
  rcases List.mem_append.1 hx with h1 | h1
  · exact (streamErr_zero h).2 x (List.mem_of_mem_take h1)
  · rw [(List.mem_replicate.1 h1).2]; exact digit_zero
theorem cutB_stream {xs : List Int} {n : Nat} (h : streamErr xs = 0) (hn : n ≤ xs.length) : streamErr (cutB xs n) = 0 := by
  refine streamErr_ok (by rw [cutB_len hn]; exact (streamErr_zero h).1) (fun x hx => ?_)
  rcases List.mem_append.1 hx with h1 | h1
  · rw [(List.mem_replicate.1 h1).2]; exact digit_zero
  · exact (streamErr_zero h).2 x (List.mem_of_mem_drop h1)
theorem cuts_add {xs ys : List Int} {n m : Nat} (hn : n ≤ xs.length) : addP (lagCells (cutA xs n) ys m) (lagCells (cutB xs n) ys m) = lagCells xs ys m := by
  have hl : (lagCells (cutA xs n) ys m).length = (lagCells (cutB xs n) ys m).length := by rw [lagCells_len, lagCells_len]
  apply plist_eq (d := (0, 0)) (by rw [addP_len hl, lagCells_len, lagCells_len])
  intro t ht
  rw [addP_len hl, lagCells_len] at ht
  have g1 := lagCells_at (xs := cutA xs n) (ys := ys) ht
  have g2 := lagCells_at (xs := cutB xs n) (ys := ys) ht
  rw [getD_lt _ _ (by rw [lagCells_len]; exact ht)] at g1 g2
  rw [getD_lt _ _ (by rw [addP_len hl, lagCells_len]; exact ht), addP_at (by rw [lagCells_len]; exact ht) (by rw [lagCells_len]; exact ht), g1, g2, lagCells_at ht, cutA_len hn, cutB_len hn]
  simp only []
  rw [← pairSum_add, ← pairSum_add]
  have e1 : (fun i k => prodF (cutA xs n) ys i k + prodF (cutB xs n) ys i k) = prodF xs ys := by
    funext i k
    unfold prodF
    rw [cutA_at hn, cutB_at hn]
    split <;> simp
  have e2 : (fun i k => cntF (cutA xs n) ys i k + cntF (cutB xs n) ys i k) = cntF xs ys := by
    funext i k
    unfold cntF
    rw [cutA_at hn, cutB_at hn]
    split <;> simp [nz]
  rw [e1, e2]
theorem cuts_law {xs ys : List Int} {n m : Nat} (hx : streamErr xs = 0) (hy : streamErr ys = 0) (hn : n ≤ xs.length) (hm : m ≤ 255) : addSpec (lagCells (cutA xs n) ys m) (lagCells (cutB xs n) ys m) = (lagCells xs ys m, 0) := by
  rw [addSpec_ok (lagErr_cells (cutA_stream hx hn) hy hm) (lagErr_cells (cutB_stream hx hn) hy hm) (by rw [lagCells_len, lagCells_len]), cuts_add hn]
  rw [cuts_add hn]
  intro x hxm
  exact (okLag_bd (lagCells_ok hx hy x hxm)).2.1
theorem lagAdd_at {A B : Option Addr} {c d n1 n2 : Nat} {w : World} (a b r : List (Int × Int)) (n : Nat) (x : Int) (h1 : a.length = n1) (h2 : b.length = n2) (hr : addSpec a b = (r, x)) (hn : r.length = n) (hx : RL w A a) (hy : RL w B b) (hl : n1 ≤ 140737488355328) (hl2 : n2 ≤ 140737488355328) :
    Calls Try.prog 20 #[.slice A n1 c, .slice B n2 d] w fun e w' => ∃ A' c', e = .returned (.tuple #[.slice A' n c', .int .i64 x]) ∧ RL w' A' r ∧ Below w.heap.size w w' := by
  subst h1; subst h2
  have h := lagAdd_any A B c d a b w hx hy hl hl2
  rw [hr] at h
  refine h.mono ?_
  rintro e w' ⟨A', c', rfl, ho, hb⟩
  subst hn
  exact ⟨A', c', rfl, own_RL ho, hb⟩
theorem lagCut_val {A : Option Addr} {c n : Nat} {xs : List Int} {w : World} (he : streamErr xs = 0) (hn : n ≤ xs.length) (hx : RI .i64 w A xs) (hc : xs.length ≤ c) :
    Calls Try.prog 13 #[.slice A xs.length c, .int .i64 (n : Int)] w fun e w' => ∃ A' c' B' d', e = .returned (.tuple #[.slice A' xs.length c', .slice B' xs.length d', .int .i64 0]) ∧ RI .i64 w' A' (cutA xs n) ∧ RI .i64 w' B' (cutB xs n) ∧ Below w.heap.size w w' := by
  have h := lagCut_any A c xs (n : Int) w hx (by have := (streamErr_zero he).1; omega) hc
  rw [cut_ok he hn] at h
  refine h.mono ?_
  rintro e w' ⟨A', c', B', d', rfl, h1, h2, hb⟩
  refine ⟨A', c', B', d', ?_, h1, h2, hb⟩
  simp only [cutA_len hn, cutB_len hn]

set_option maxRecDepth 100000 in
set_option maxHeartbeats 4000000 in
theorem lagCuts_walk (A : Option Addr) (c : Nat) (xs : List Int) (B : Option Addr) (d : Nat) (ys : List Int) (at_ most : Int) (w : World)
    (hx : RI .i64 w A xs) (hlx : xs.length ≤ 9223372036854775807) (_ : ∀ x ∈ xs, (Lit.int .i64 x).wf = true) (hcx : xs.length ≤ c) (hy : RI .i64 w B ys) (hly : ys.length ≤ 9223372036854775807) (_ : ∀ x ∈ ys, (Lit.int .i64 x).wf = true) (_ : -9223372036854775808 ≤ at_ ∧ at_ ≤ 9223372036854775807) (_ : -9223372036854775808 ≤ most ∧ most ≤ 9223372036854775807) :
    Calls Try.prog 9 #[.slice A xs.length c, .slice B ys.length d, .int .i64 at_, .int .i64 most] w fun e w' => e = .returned (.bool true) ∧ Below w.heap.size w w' := by
  rcases (Decidable.em (streamErr xs = 0)).symm with he | he
  · have e1 : (streamErr xs == 0) = false := by simp [he]
    clear he
    go_enter Try.func9, Try.ntmps9
    go_wp2_with fail
    refine (alive16 _).mono ?_
    rintro e w1 ⟨rfl, hb1⟩
    go_wp2_with (go_at_call 29; refine (fit16_any _ _ _ _ (hx.keep hb1) hlx).mono ?_; rintro e w' ⟨rfl, rfl⟩)
    go_ret
    exact ⟨rfl, hb1⟩
  have e1 : (streamErr xs == 0) = true := by simp [he]
  have HE := Lib.hid he
  have hl5 := (streamErr_zero he).1
  clear he
  rcases (Decidable.em (streamErr ys = 0)).symm with he | he
  · have e2 : (streamErr ys == 0) = false := by simp [he]
    clear he
    go_enter Try.func9, Try.ntmps9
    go_wp2_with fail
    refine (alive16 _).mono ?_
    rintro e w1 ⟨rfl, hb1⟩
    go_wp2_with fail
    refine (fit16_any _ _ _ _ (hx.keep hb1) hlx).mono ?_
    rintro e w' ⟨rfl, rfl⟩
    go_wp2_with fail
    refine (fit16_any _ _ _ _ (hy.keep hb1) hly).mono ?_
    rintro e w' ⟨rfl, rfl⟩
    go_wp2
    go_ret
    exact ⟨rfl, hb1⟩
  have e2 : (streamErr ys == 0) = true := by simp [he]
  have HE2 := Lib.hid he
  have hl6 := (streamErr_zero he).1
  clear he
  rcases (Decidable.em (0 ≤ at_ ∧ at_ ≤ xs.length ∧ 0 ≤ most ∧ most ≤ 255)).symm with hm | hm
  · have hm' : at_ < 0 ∨ (0 ≤ at_ ∧ (xs.length : Int) < at_) ∨ (0 ≤ at_ ∧ at_ ≤ xs.length ∧ most < 0) ∨ (0 ≤ at_ ∧ at_ ≤ xs.length ∧ 0 ≤ most ∧ 255 < most) := by omega
    clear hm
    rcases hm' with hm | hm | hm | hm
    all_goals
      go_enter Try.func9, Try.ntmps9
      go_wp2_with fail
      refine (alive16 _).mono ?_
      rintro e w1 ⟨rfl, hb1⟩
      go_wp2_with fail
      refine (fit16_any _ _ _ _ (hx.keep hb1) hlx).mono ?_
      rintro e w' ⟨rfl, rfl⟩
      go_wp2_with fail
      refine (fit16_any _ _ _ _ (hy.keep hb1) hly).mono ?_
      rintro e w' ⟨rfl, rfl⟩
      go_wp2
      go_ret
      exact ⟨rfl, hb1⟩
  obtain ⟨m, rfl⟩ : ∃ m : Nat, most = (m : Int) := ⟨most.toNat, by omega⟩
  obtain ⟨n, rfl⟩ : ∃ n : Nat, at_ = (n : Int) := ⟨at_.toNat, by omega⟩
  have hm255 : m ≤ 255 := by omega
  have hn : n ≤ xs.length := by omega
  have dm1 : decide ((m : Int) < 0) = false := by simp
  have dm2 : decide (255 < (m : Int)) = false := by simp; omega
  have dm3 : decide ((n : Int) < 0) = false := by simp
  have dm4 : decide ((xs.length : Int) < (n : Int)) = false := by simp; omega
  clear hm
  go_enter Try.func9, Try.ntmps9
  go_wp2_with fail
  refine (alive16 _).mono ?_
  rintro e w1 ⟨rfl, hb1⟩
  go_wp2_with fail
  refine (fit16_any _ _ _ _ (hx.keep hb1) hlx).mono ?_
  rintro e w' ⟨rfl, rfl⟩
  go_wp2_with fail
  refine (fit16_any _ _ _ _ (hy.keep hb1) hly).mono ?_
  rintro e w' ⟨rfl, rfl⟩
  go_wp2_with fail
  refine (lagCut_val HE.out hn (hx.keep hb1) hcx).mono ?_
  rintro e w2 ⟨A2, c2, A2', c2', rfl, hP, hQ, hb2⟩
  have hB2 := bstep hb1 hb2
  clear hb2
  go_wp2_with fail
  have h3 := lagOf_val (c := c2) (d := d) (cutA_stream HE.out hn) HE2.out hm255 hP (hy.keep hB2)
  rw [cutA_len hn] at h3
  refine h3.mono ?_
  clear h3
  rintro e w3 ⟨A3, c3, rfl, hL3, hb3⟩
  have hB3 := bstep hB2 hb3
  replace hQ := hQ.keep hb3
  clear hb3 hB2 hP
  go_wp2_with fail
  have h4 := lagOf_val (c := c2') (d := d) (cutB_stream HE.out hn) HE2.out hm255 hQ (hy.keep hB3)
  rw [cutB_len hn] at h4
  refine h4.mono ?_
  clear h4
  rintro e w4 ⟨A4, c4, rfl, hL4, hb4⟩
  have hB4 := bstep hB3 hb4
  replace hL3 := hL3.keep hb4
  clear hb4 hB3 hQ
  go_wp2_with fail
  refine (lagOf_val HE.out HE2.out hm255 (hx.keep hB4) (hy.keep hB4)).mono ?_
  rintro e w5 ⟨A5, c5, rfl, hL5, hb5⟩
  have hB5 := bstep hB4 hb5
  replace hL3 := hL3.keep hb5
  replace hL4 := hL4.keep hb5
  clear hb5 hB4
  go_wp2_with fail
  refine (lagAdd_at (lagCells (cutA xs n) ys m) (lagCells (cutB xs n) ys m) (lagCells xs ys m) (2 * m + 1) 0 (lagCells_len _ _ _) (lagCells_len _ _ _) (cuts_law HE.out HE2.out hn hm255) (lagCells_len _ _ _) hL3 hL4 (by omega) (by omega)).mono ?_
  rintro e w6 ⟨A6, c6, rfl, hL6, hb6⟩
  have hB6 := bstep hB5 hb6
  replace hL5 := hL5.keep hb6
  clear hb6 hB5 hL3 hL4
  go_wp2_with fail
  refine (same16_at (lagCells xs ys m) (lagCells xs ys m) true (lagCells_len _ _ _) (lagCells_len _ _ _) (by simp) hL6 hL5 (by omega) (by omega)).mono ?_
  rintro e w7 ⟨rfl, q7, rfl⟩
  go_wp2
  go_ret
  exact ⟨by simp, below_drewN hB6 q7⟩
end Go.Proofs.Ytfmhliiljmcejaa
