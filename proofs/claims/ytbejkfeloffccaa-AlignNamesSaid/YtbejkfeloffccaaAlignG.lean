/-
  Contracts: align.Check, fringeref14.Check, fringeref14.At, align.isWindow, fringeref14.asked.
-/
import Derived.Test.YtbejkfeloffccaaAlignF
namespace Go.Proofs.Ytbejkfeloffccaa
open Go.RowKit
set_option linter.unusedVariables false

theorem recOk_no {l : List (Int × List Int)} {k : Nat} (hlt : k < l.length) (h : okB l[k] = false) : recOk l (k + 1) = false := by
  unfold recOk; rw [getD_lt _ _ hlt, h]; simp
theorem recOk_zero {l : List (Int × List Int)} {k : Nat} (hlt : k < l.length) (h0 : k = 0) (h : okB l[k] = true) : recOk l (k + 1) = true := by
  unfold recOk; rw [getD_lt _ _ hlt, h]; subst h0; simp [recOk]
theorem recOk_yes {l : List (Int × List Int)} {k : Nat} (hlt : k < l.length) (hall : recOk l k = true) (h : okB l[k] = true) (h2 : endB (l[k - 1]'(by omega)) ≤ l[k].1) : recOk l (k + 1) = true := by
  unfold recOk; rw [getD_lt _ _ hlt, getD_lt _ _ (show k - 1 < l.length by omega), h, hall]; simp [h2]
theorem recOk_over {l : List (Int × List Int)} {k : Nat} (hlt : k < l.length) (h0 : 0 < k) (h2 : l[k].1 < endB (l[k - 1]'(by omega))) : recOk l (k + 1) = false := by
  unfold recOk; rw [getD_lt _ _ hlt, getD_lt _ _ (show k - 1 < l.length by omega)]
  have : ¬ (k = 0 ∨ endB (l[k - 1]'(by omega)) ≤ l[k].1) := by omega
  simp [this]

set_option maxHeartbeats 4000000 in
theorem alignCheck_any (A : Option Addr) (c : Nat) (l : List (Int × List Int)) (w : World) (hx : RB w A l) (hl : l.length ≤ 140737488355328) (hall : ∀ b ∈ l, b.2.length ≤ 140737488355328) :
    Calls Try.prog 27 #[.slice A l.length c] w fun e w' => e = .returned (.int .i64 (recErr l)) ∧ Below w.heap.size w w' := by
  have HALL := Lib.hid hall
  clear hall
  by_cases hm : 64 < l.length
  · go_enter Try.func27, Try.ntmps27
    go_wp2
    go_ret
    exact ⟨ret_int (recErr_many hm).symm, Below.refl _ _⟩
  go_enter Try.func27, Try.ntmps27
  go_wp2
  go_loopg [3, 4, 10] l.length (fun gk _ _ i wr => ∃ k : Nat, k + gk = l.length ∧ i = .int .i64 k ∧ Below w.heap.size w wr ∧ Hid (recOk l k = true))
  case atStart => exact ⟨0, by omega, rfl, Below.refl _ _, Lib.hid rfl⟩
  case round =>
    obtain ⟨k, hk, rfl, hb, HOK⟩ := hrel
    have hk' : k ≤ l.length := by omega
    have HK := Lib.hid hk
    clear hk
    by_cases hlt : k < l.length
    · obtain ⟨b, off, A', c', rfl, hlw, hw1, hw2, hr, hcap⟩ := hx.at_ hlt
      have hc1 := (hb.cell (p := ⟨b, _, none⟩) hlw).trans hw1
      have hc2 := (hb.cell (p := ⟨b, _, none⟩) hlw).trans hw2
      have hll : l[k].2.length ≤ 140737488355328 := HALL.out _ (List.getElem_mem hlt)
      have hV := Blk.new wr 47 #[.int .i64 l[k].1, .slice A' l[k].2.length c']
      have hb' := balloc hb (.cells #[.int .i64 l[k].1, .slice A' l[k].2.length c'] 47)
      go_wp2_with fail
      refine (valid_any l[k].1 A' c' l[k].2 _ (hr.keep hb') hll).mono ?_
      rintro _ w2 ⟨rfl, hb2⟩
      have hB2 := bstep hb' hb2
      have hV2 := hV.keep hb2
      have v0 : w2.cell? ⟨wr.heap.size, 0, none⟩ = some (.int .i64 l[k].1) := hV2.cell 0
      have e0 : okB (l[k].1, l[k].2) = okB l[k] := rfl
      rw [e0]
      clear hc1 hc2 hb2 hV hb'
      by_cases hv : okB l[k] = true
      · by_cases h0 : k = 0
        · have d0 : decide (0 < k) = false := decide_eq_false (by omega)
          have d1 : decide ((0 : Int) < (k : Int)) = false := decide_eq_false (by omega)
          have HN : Hid (recOk l (k + 1) = true) := Lib.hid (recOk_zero hlt h0 hv)
          clear h0
          go_wp2
          go_quiet (fail)
          go_wp2
          go_roundg (gk - 1)
          case rel => exact ⟨k + 1, by have := HK.out; omega, by go_num, below_drewN hB2 _, HN⟩
          case measure => have := HK.out; omega
        · have d0 : decide (0 < k) = true := decide_eq_true (by omega)
          have d1 : decide ((0 : Int) < (k : Int)) = true := decide_eq_true (by omega)
          have hlt1 : k - 1 < l.length := by omega
          obtain ⟨b', off', A1, c1, e1, hlw1, hu1, hu2, hr1, hcap1⟩ := hx.at_ hlt1
          obtain ⟨rfl, rfl⟩ : b = b' ∧ off = off' := by injection e1 with e1; injection e1 with e2 e3; exact ⟨e2, e3⟩
          have hpr := okB_bd (recOk_at (j := k - 1) (by omega) HOK.out).1
          rw [getD_lt _ _ hlt1] at hpr
          obtain ⟨p1, p2, p3, p4, _⟩ := hpr
          have f1 : IntKind.i64.wrap ((k : Int) - 1) = (k : Int) - 1 := IntWalk.i64_in _ (by omega)
          have f2 : ((k : Int) - 1).toNat = k - 1 := by omega
          have f3 : 0 ≤ (k : Int) - 1 := by omega
          have f4 : (k : Int) - 1 < l.length := by omega
          have f5 : 1 ≤ (k : Int) := by omega
          have f6 : 1 ≤ k := by omega
          have g1 := (hB2.cell (p := ⟨b, _, none⟩) hlw).trans hu1
          have g2 := (hB2.cell (p := ⟨b, _, none⟩) hlw).trans hu2
          clear e1
          have q1 : -1000000000 ≤ (l[k - 1]'hlt1).1 := by omega
          have q2 : (l[k - 1]'hlt1).1 ≤ 1000000000 := by omega
          have q3 : (l[k - 1]'hlt1).2.length ≤ 1000000000 := by omega
          go_wp2
          go_region_held3 (fun w' => w'.cell? ⟨wr.heap.size, 0, none⟩ = some (.int .i64 l[k].1) ∧ w'.cell? ⟨b, off + (k - 1) * 2, none⟩ = some (.int .i64 (l[k - 1]'hlt1).1) ∧ w'.cell? ⟨b, off + (k - 1) * 2 + 1, none⟩ = some (.slice A1 (l[k - 1]'hlt1).2.length c1))
            (first | go_keep | exact ⟨hV3.cell 0, (hB3.cell (p := ⟨b, _, none⟩) hlw).trans hu1, (hB3.cell (p := ⟨b, _, none⟩) hlw).trans hu2⟩)
            ((go_at_call 46; refine (end_any _ _ _ _ _ q1 q2 q3).mono ?_; rintro e w3 ⟨rfl, hb3⟩; have hB3 : Below w.heap.size w w3 := bstep hB2.drew hb3; have hV3 := hV2.drew.keep hb3))
          by_cases hov : l[k].1 < (l[k - 1]'hlt1).1 + ((l[k - 1]'hlt1).2.length : Int)
          · have HN : Hid (recErr l = 8) := Lib.hid (recErr_bad (by omega) hlt (recOk_over hlt (by omega) hov))
            go_wp2
            go_ret
            exact ⟨ret_int HN.out.symm, hB3⟩
          · have HN : Hid (recOk l (k + 1) = true) := Lib.hid (recOk_yes hlt HOK.out hv (by unfold endB; omega))
            go_wp2
            go_roundg (gk - 1)
            case rel => exact ⟨k + 1, by have := HK.out; omega, by go_num, hB3, HN⟩
            case measure => have := HK.out; omega
      · have hv' : okB l[k] = false := by simpa using hv
        have HN : Hid (recErr l = 8) := Lib.hid (recErr_bad (by omega) hlt (recOk_no hlt hv'))
        clear hv
        go_wp2
        go_ret
        exact ⟨ret_int HN.out.symm, hB2⟩
    · have hkl : k = l.length := by omega
      have HN : Hid (recErr l = 0) := Lib.hid (recErr_ok (by omega) (by rw [← hkl]; exact HOK.out))
      clear hkl
      go_wp2
      go_ret
      exact ⟨ret_int HN.out.symm, hb⟩

set_option maxHeartbeats 4000000 in
theorem refCheck14_any (A : Option Addr) (c : Nat) (l : List (Int × List Int)) (w : World) (hx : RB w A l) (hl : l.length ≤ 140737488355328) (hall : ∀ b ∈ l, b.2.length ≤ 140737488355328) :
    Calls Try.prog 28 #[.slice A l.length c] w fun e w' => e = .returned (.int .i64 (recErr l)) ∧ Below w.heap.size w w' := by
  have HALL := Lib.hid hall
  clear hall
  by_cases hm : 64 < l.length
  · go_enter Try.func28, Try.ntmps28
    go_wp2
    go_ret
    exact ⟨ret_int (recErr_many hm).symm, Below.refl _ _⟩
  go_enter Try.func28, Try.ntmps28
  go_wp2
  go_loopg [3] l.length (fun gk i wr => ∃ k : Nat, k + gk = l.length ∧ i = .int .i64 k ∧ Below w.heap.size w wr ∧ Hid (recOk l k = true))
  case atStart => exact ⟨0, by omega, rfl, Below.refl _ _, Lib.hid rfl⟩
  case round =>
    obtain ⟨k, hk, rfl, hb, HOK⟩ := hrel
    have hk' : k ≤ l.length := by omega
    have HK := Lib.hid hk
    clear hk
    by_cases hlt : k < l.length
    · obtain ⟨b, off, A', c', rfl, hlw, hw1, hw2, hr, hcap⟩ := hx.at_ hlt
      have hc1 := (hb.cell (p := ⟨b, _, none⟩) hlw).trans hw1
      have hc2 := (hb.cell (p := ⟨b, _, none⟩) hlw).trans hw2
      have hll : l[k].2.length ≤ 140737488355328 := HALL.out _ (List.getElem_mem hlt)
      go_wp2_with fail
      refine (Valid_any l[k].1 A' c' l[k].2 _ (hr.keep hb) hll).mono ?_
      rintro _ w2 ⟨rfl, hb2⟩
      have hB2 := bstep hb hb2
      have e0 : okB (l[k].1, l[k].2) = okB l[k] := rfl
      rw [e0]
      clear hc1 hc2 hb2
      have hc1 := (hB2.cell (p := ⟨b, _, none⟩) hlw).trans hw1
      by_cases hv : okB l[k] = true
      · by_cases h0 : k = 0
        · have d0 : decide (0 < k) = false := decide_eq_false (by omega)
          have d1 : decide ((0 : Int) < (k : Int)) = false := decide_eq_false (by omega)
          have HN : Hid (recOk l (k + 1) = true) := Lib.hid (recOk_zero hlt h0 hv)
          clear h0
          go_wp2
          go_quiet (fail)
          go_wp2
          go_roundg (gk - 1)
          case rel => exact ⟨k + 1, by have := HK.out; omega, by go_num, below_drewN hB2 _, HN⟩
          case measure => have := HK.out; omega
        · have d0 : decide (0 < k) = true := decide_eq_true (by omega)
          have d1 : decide ((0 : Int) < (k : Int)) = true := decide_eq_true (by omega)
          have hlt1 : k - 1 < l.length := by omega
          obtain ⟨b', off', A1, c1, e1, hlw1, hu1, hu2, hr1, hcap1⟩ := hx.at_ hlt1
          obtain ⟨rfl, rfl⟩ : b = b' ∧ off = off' := by injection e1 with e1; injection e1 with e2 e3; exact ⟨e2, e3⟩
          have hpr := okB_bd (recOk_at (j := k - 1) (by omega) HOK.out).1
          rw [getD_lt _ _ hlt1] at hpr
          obtain ⟨p1, p2, p3, p4, _⟩ := hpr
          have f1 : IntKind.i64.wrap ((k : Int) - 1) = (k : Int) - 1 := IntWalk.i64_in _ (by omega)
          have f2 : ((k : Int) - 1).toNat = k - 1 := by omega
          have f3 : 0 ≤ (k : Int) - 1 := by omega
          have f4 : (k : Int) - 1 < l.length := by omega
          have f5 : 1 ≤ (k : Int) := by omega
          have f6 : 1 ≤ k := by omega
          have f7 : IntKind.i64.wrap ((l[k - 1]'hlt1).1 + ((l[k - 1]'hlt1).2.length : Int)) = (l[k - 1]'hlt1).1 + ((l[k - 1]'hlt1).2.length : Int) := IntWalk.i64_in _ (by omega)
          have g1 := (hB2.cell (p := ⟨b, _, none⟩) hlw).trans hu1
          have g2 := (hB2.cell (p := ⟨b, _, none⟩) hlw).trans hu2
          clear e1
          go_wp2
          go_quiet (fail)
          by_cases hov : l[k].1 < (l[k - 1]'hlt1).1 + ((l[k - 1]'hlt1).2.length : Int)
          · have HN : Hid (recErr l = 8) := Lib.hid (recErr_bad (by omega) hlt (recOk_over hlt (by omega) hov))
            go_wp2
            go_ret
            exact ⟨ret_int HN.out.symm, below_drewN hB2 _⟩
          · have HN : Hid (recOk l (k + 1) = true) := Lib.hid (recOk_yes hlt HOK.out hv (by unfold endB; omega))
            go_wp2
            go_roundg (gk - 1)
            case rel => exact ⟨k + 1, by have := HK.out; omega, by go_num, below_drewN hB2 _, HN⟩
            case measure => have := HK.out; omega
      · have hv' : okB l[k] = false := by simpa using hv
        have HN : Hid (recErr l = 8) := Lib.hid (recErr_bad (by omega) hlt (recOk_no hlt hv'))
        clear hv
        go_wp2
        go_ret
        exact ⟨ret_int HN.out.symm, hB2⟩
    · have hkl : k = l.length := by omega
      have HN : Hid (recErr l = 0) := Lib.hid (recErr_ok (by omega) (by rw [← hkl]; exact HOK.out))
      clear hkl
      go_wp2
      go_ret
      exact ⟨ret_int HN.out.symm, hb⟩

/-- The sample of a recording at a time, or 0. -/
def sampAt : List (Int × List Int) → Int → Int
  | [], _ => 0
  | b :: l, t => if b.1 ≤ t ∧ t < endB b then b.2.getD (t - b.1).toNat 0 else sampAt l t
theorem sampAt_none {l : List (Int × List Int)} {t : Int} (h : ∀ j (hj : j < l.length), ¬ (l[j].1 ≤ t ∧ t < endB l[j])) : sampAt l t = 0 := by
  induction l with
  | nil => rfl
  | cons b l ih =>
    unfold sampAt
    rw [if_neg (show ¬ (b.1 ≤ t ∧ t < endB b) from h 0 (Nat.zero_lt_succ _))]
    exact ih (fun j hj => h (j + 1) (Nat.succ_lt_succ hj))
theorem sampAt_first {l : List (Int × List Int)} {t : Int} {k : Nat} (hk : k < l.length) (h : ∀ j (hj : j < l.length), j < k → ¬ (l[j].1 ≤ t ∧ t < endB l[j])) (h2 : l[k].1 ≤ t ∧ t < endB l[k]) : sampAt l t = l[k].2.getD (t - l[k].1).toNat 0 := by
  induction l generalizing k with
  | nil => simp at hk
  | cons b l ih =>
    unfold sampAt
    cases k with
    | zero =>
      simp only [List.getElem_cons_zero] at h2 ⊢
      rw [if_pos h2]
    | succ k =>
      rw [if_neg (show ¬ (b.1 ≤ t ∧ t < endB b) from h 0 (Nat.zero_lt_succ _) (by omega))]
      simp only [List.getElem_cons_succ] at h2 ⊢
      exact ih (by simpa using hk) (fun j hj hjk => h (j + 1) (Nat.succ_lt_succ hj) (by omega)) h2
theorem rec_bd {l : List (Int × List Int)} (h : recErr l = 0) (j : Nat) (hj : j < l.length) : 0 ≤ l[j].1 ∧ l[j].1 ≤ 1000000 ∧ 0 < l[j].2.length ∧ l[j].2.length ≤ 256 ∧ streamErr l[j].2 = 0 := okB_bd (recErr_at h hj)
set_option maxHeartbeats 4000000 in
theorem at14_any (A : Option Addr) (c : Nat) (l : List (Int × List Int)) (t : Int) (w : World) (hx : RB w A l) (he : recErr l = 0) (ht : -1000000000 ≤ t ∧ t ≤ 1000000000) :
    Calls Try.prog 33 #[.slice A l.length c, .int .i64 t] w fun e w' => e = .returned (.int .i64 (sampAt l t)) ∧ ∃ n, w' = w.drewN n := by
  have hl5 := (recErr_zero he).1
  have HE := Lib.hid he
  clear he
  go_enter Try.func33, Try.ntmps33
  go_wp2
  go_loopg [5] l.length (fun gk i wr => ∃ k n : Nat, k + gk = l.length ∧ i = .int .i64 k ∧ wr = w.drewN n ∧ Hid (∀ j (hj : j < l.length), j < k → ¬ (l[j].1 ≤ t ∧ t < endB l[j])))
  case atStart => exact ⟨0, 0, by omega, rfl, rfl, Lib.hid (by intro j hj h; omega)⟩
  case round =>
    obtain ⟨k, n, hk, rfl, rfl, hall⟩ := hrel
    have hk' : k ≤ l.length := by omega
    have HK := Lib.hid hk
    clear hk
    by_cases hlt : k < l.length
    · obtain ⟨b, off, A', c', rfl, hlw, hc1, hc2, hr, hcap⟩ := hx.at_ hlt
      obtain ⟨p1, p2, p3, p4, _⟩ := rec_bd HE.out k hlt
      have f7 : IntKind.i64.wrap (l[k].1 + (l[k].2.length : Int)) = l[k].1 + (l[k].2.length : Int) := IntWalk.i64_in _ (by omega)
      have f8 : IntKind.i64.wrap (t - l[k].1) = t - l[k].1 := IntWalk.i64_in _ (by omega)
      rcases (show (l[k].1 ≤ t ∧ t < l[k].1 + (l[k].2.length : Int)) ∨ ¬ l[k].1 ≤ t ∨ (l[k].1 ≤ t ∧ ¬ t < l[k].1 + (l[k].2.length : Int)) by omega) with hin | hin
      · obtain ⟨h1, h2⟩ := hin
        have d1 : decide (l[k].1 ≤ t) = true := decide_eq_true h1
        have d2 : decide (t < l[k].1 + (l[k].2.length : Int)) = true := decide_eq_true h2
        have hjn : (t - l[k].1).toNat < l[k].2.length := by omega
        obtain ⟨b2, off2, rfl, hlw2, hw2⟩ := hr.at2 hjn
        have HS : Hid (sampAt l t = (l[k].2)[(t - l[k].1).toNat]) := Lib.hid (by rw [sampAt_first hlt hall.out ⟨h1, by unfold endB; exact h2⟩, getD_lt _ _ hjn])
        rw [getD_lt _ _ hjn] at hw2
        have f9 : 0 ≤ t - l[k].1 := by omega
        have f10 : t - l[k].1 < l[k].2.length := by omega
        go_wp2
        go_quiet (fail)
        go_wp2
        go_quiet (fail)
        go_wp2
        go_ret
        refine ⟨ret_int HS.out.symm, ?_⟩
        simp only [World.drewN_drewN]
        exact ⟨_, rfl⟩
      · have HN : Hid (∀ j (hj : j < l.length), j < k + 1 → ¬ (l[j].1 ≤ t ∧ t < endB l[j])) := Lib.hid (by
          intro j hj hjk
          rcases Nat.lt_or_ge j k with h3 | h3
          · exact hall.out j hj h3
          · obtain rfl : j = k := by omega
            unfold endB; omega)
        rcases hin with h1 | ⟨h1, h2⟩
        · have d1 : decide (l[k].1 ≤ t) = false := decide_eq_false h1
          go_wp2
          go_quiet (fail)
          go_wp2
          go_roundg (gk - 1)
          case rel => exact ⟨k + 1, _, by have := HK.out; omega, by go_num, rfl, HN⟩
          case measure => have := HK.out; omega
        · have d1 : decide (l[k].1 ≤ t) = true := decide_eq_true h1
          have d2 : decide (t < l[k].1 + (l[k].2.length : Int)) = false := decide_eq_false h2
          go_wp2
          go_quiet (fail)
          go_wp2
          go_roundg (gk - 1)
          case rel => exact ⟨k + 1, _, by have := HK.out; omega, by go_num, rfl, HN⟩
          case measure => have := HK.out; omega
    · have HS : Hid (sampAt l t = 0) := Lib.hid (sampAt_none (fun j hj => hall.out j hj (by omega)))
      go_wp2
      go_ret
      exact ⟨ret_int HS.out.symm, _, rfl⟩
def winB (a m : Int) : Bool := decide (-1000000 ≤ a ∧ a ≤ 2000000 ∧ 0 ≤ m ∧ m ≤ 256)
def winE (a m : Int) : Int := if winB a m then 0 else 2
theorem winB_yes {a m : Int} (h : -1000000 ≤ a ∧ a ≤ 2000000 ∧ 0 ≤ m ∧ m ≤ 256) : winB a m = true := by simpa [winB] using h
theorem winB_no {a m : Int} (h : ¬ (-1000000 ≤ a ∧ a ≤ 2000000 ∧ 0 ≤ m ∧ m ≤ 256)) : winB a m = false := by unfold winB; exact decide_eq_false h
theorem win_bd {a m : Int} (h : winB a m = true) : -1000000 ≤ a ∧ a ≤ 2000000 ∧ 0 ≤ m ∧ m ≤ 256 := by simpa [winB] using h
theorem win_ways (a m : Int) : (-1000000 ≤ a ∧ a ≤ 2000000 ∧ 0 ≤ m ∧ m ≤ 256) ∨ (a < -1000000) ∨ (-1000000 ≤ a ∧ 2000000 < a) ∨ (-1000000 ≤ a ∧ a ≤ 2000000 ∧ m < 0) ∨ (-1000000 ≤ a ∧ a ≤ 2000000 ∧ 0 ≤ m ∧ 256 < m) := by omega
theorem isWindow_any (a m : Int) (w : World) : Calls Try.prog 39 #[.int .i64 a, .int .i64 m] w fun e w' => e = .returned (.bool (winB a m)) ∧ w = w' := by
  rcases win_ways a m with h | h
  · have HB := Lib.hid (winB_yes h)
    go_enter Try.func39, Try.ntmps39
    go_wp2
    go_ret
    exact ⟨ret_bool (by rw [HB.out]; try exact decide_eq_true (by omega)), rfl⟩
  · have HB : Hid (winB a m = false) := Lib.hid (winB_no (by omega))
    rcases h with h | h | h | h
    all_goals
      go_enter Try.func39, Try.ntmps39
      go_wp2
      go_ret
      exact ⟨ret_bool (by rw [HB.out]; try exact decide_eq_false (by omega)), rfl⟩
theorem asked14_any (a m : Int) (w : World) : Calls Try.prog 41 #[.int .i64 a, .int .i64 m] w fun e w' => e = .returned (.int .i64 (winE a m)) ∧ w = w' := by
  rcases win_ways a m with h | h
  · have HB := Lib.hid (winB_yes h)
    go_enter Try.func41, Try.ntmps41
    go_wp2
    go_ret
    exact ⟨ret_int (by unfold winE; rw [HB.out]; rfl), rfl⟩
  · have HB : Hid (winB a m = false) := Lib.hid (winB_no (by omega))
    rcases h with h | h | h | h
    all_goals
      go_enter Try.func41, Try.ntmps41
      go_wp2
      go_ret
      exact ⟨ret_int (by unfold winE; rw [HB.out]; rfl), rfl⟩
end Go.Proofs.Ytbejkfeloffccaa
