/-
  Recordings: lists of blocks, how they lie in memory; contracts of the checks.
-/
import Derived.Test.YtbejkfeloffccaaAlignD
import Derived.Test.YtbejkfeloffccaaClone
import Derived.Deep.RegionHeld3
import Derived.StillTailTactics
namespace Go.Proofs.Ytbejkfeloffccaa
open Go.RowKit
set_option linter.unusedVariables false

/-- The slice value '.slice A l.length c' reads as the list l of blocks. -/
def RB (w : World) (A : Option Addr) (l : List (Int × List Int)) : Prop :=
  0 < l.length → ∃ b off, A = some ⟨b, off, none⟩ ∧ b < w.heap.size ∧ ∀ j (hj : j < l.length), w.cell? ⟨b, off + j * 2, none⟩ = some (.int .i64 l[j].1) ∧ ∃ A' c', w.cell? ⟨b, off + j * 2 + 1, none⟩ = some (.slice A' l[j].2.length c') ∧ RI .i64 w A' l[j].2 ∧ l[j].2.length ≤ c'
theorem RB.keep {w w' : World} {A : Option Addr} {l : List (Int × List Int)} (h : RB w A l) (hb : Below w.heap.size w w') : RB w' A l := by
  intro h0
  obtain ⟨b, off, e, hlt, hc⟩ := h h0
  refine ⟨b, off, e, Nat.lt_of_lt_of_le hlt hb.size, fun j hj => ?_⟩
  obtain ⟨h1, A', c', h2, h3, h4⟩ := hc j hj
  exact ⟨(hb.cell (p := ⟨b, off + j * 2, none⟩) hlt).trans h1, A', c', (hb.cell (p := ⟨b, off + j * 2 + 1, none⟩) hlt).trans h2, h3.keep hb, h4⟩
theorem RB.nil {w : World} {A : Option Addr} : RB w A [] := fun h => absurd h (by simp)
theorem RB.at_ {w : World} {A : Option Addr} {l : List (Int × List Int)} {k : Nat} (h : RB w A l) (hk : k < l.length) :
    ∃ b off A' c', A = some ⟨b, off, none⟩ ∧ b < w.heap.size ∧ w.cell? ⟨b, off + k * 2, none⟩ = some (.int .i64 l[k].1) ∧ w.cell? ⟨b, off + k * 2 + 1, none⟩ = some (.slice A' l[k].2.length c') ∧ RI .i64 w A' l[k].2 ∧ l[k].2.length ≤ c' := by
  obtain ⟨b, off, e, hlt, hc⟩ := h (by omega)
  obtain ⟨h1, A', c', h2, h3, h4⟩ := hc k hk
  exact ⟨b, off, A', c', e, hlt, h1, h2, h3, h4⟩

def okB (b : Int × List Int) : Bool := decide (0 ≤ b.1 ∧ b.1 ≤ 1000000 ∧ 0 < b.2.length ∧ streamErr b.2 = 0)
def endB (b : Int × List Int) : Int := b.1 + b.2.length
theorem okB_bd {b : Int × List Int} (h : okB b = true) : 0 ≤ b.1 ∧ b.1 ≤ 1000000 ∧ 0 < b.2.length ∧ b.2.length ≤ 256 ∧ streamErr b.2 = 0 := by
  simp only [okB, decide_eq_true_eq] at h
  have := (streamErr_zero h.2.2.2).1
  omega
/-- The first k blocks are valid and apart. -/
def recOk (l : List (Int × List Int)) : Nat → Bool
  | 0 => true
  | k + 1 => recOk l k && okB (l.getD k (0, [])) && decide (k = 0 ∨ endB (l.getD (k - 1) (0, [])) ≤ (l.getD k (0, [])).1)
def recErr (l : List (Int × List Int)) : Int := if 64 < l.length then 4 else if recOk l l.length then 0 else 8
theorem recErr_many {l : List (Int × List Int)} (h : 64 < l.length) : recErr l = 4 := by unfold recErr; rw [if_pos h]
theorem recOk_le {l : List (Int × List Int)} {j k : Nat} (hjk : j ≤ k) (h : recOk l k = true) : recOk l j = true := by
  induction k with
  | zero => obtain rfl : j = 0 := by omega
            exact h
  | succ k ih =>
    rcases Nat.lt_or_ge j (k + 1) with h1 | h1
    · simp only [recOk, Bool.and_eq_true] at h
      exact ih (by omega) h.1.1
    · obtain rfl : j = k + 1 := by omega
      exact h
theorem recOk_at {l : List (Int × List Int)} {j k : Nat} (hjk : j < k) (h : recOk l k = true) : okB (l.getD j (0, [])) = true ∧ (j = 0 ∨ endB (l.getD (j - 1) (0, [])) ≤ (l.getD j (0, [])).1) := by
  have h1 := recOk_le (j := j + 1) (by omega) h
  simp only [recOk, Bool.and_eq_true, decide_eq_true_eq] at h1
  exact ⟨h1.1.2, h1.2⟩
theorem recErr_bad {l : List (Int × List Int)} {k : Nat} (h : l.length ≤ 64) (hk : k < l.length) (h2 : recOk l (k + 1) = false) : recErr l = 8 := by
  unfold recErr
  rw [if_neg (by omega), if_neg]
  intro h3
  have := recOk_le (j := k + 1) (by omega) h3
  rw [this] at h2
  cases h2
theorem recErr_ok {l : List (Int × List Int)} (h : l.length ≤ 64) (h2 : recOk l l.length = true) : recErr l = 0 := by
  unfold recErr
  rw [if_neg (by omega), if_pos h2]
theorem recErr_zero {l : List (Int × List Int)} (h : recErr l = 0) : l.length ≤ 64 ∧ recOk l l.length = true := by
  unfold recErr at h
  split at h
  · omega
  · split at h
    · rename_i h1 h2; exact ⟨by omega, h2⟩
    · omega
theorem recErr_at {l : List (Int × List Int)} {j : Nat} (h : recErr l = 0) (hj : j < l.length) : okB l[j] = true := by
  have := (recOk_at hj (recErr_zero h).2).1
  rwa [getD_lt _ _ hj] at this
theorem recErr_next {l : List (Int × List Int)} {j : Nat} (h : recErr l = 0) (hj : j + 1 < l.length) : endB l[j] ≤ l[j + 1].1 := by
  have := (recOk_at hj (recErr_zero h).2).2
  rcases this with h1 | h1
  · omega
  · simp only [Nat.add_sub_cancel] at h1
    rwa [getD_lt _ _ hj, getD_lt _ _ (by omega)] at h1

theorem end_any (a : Int) (A : Option Addr) (n c : Nat) (w : World) (h1 : -1000000000 ≤ a) (h2 : a ≤ 1000000000) (h3 : n ≤ 1000000000) :
    Calls Try.prog 46 #[.agg #[.int .i64 a, .slice A n c]] w fun e w' => e = .returned (.int .i64 (a + n)) ∧ Below w.heap.size w w' := by
  go_enter Try.func46, Try.ntmps46
  go_wp2
  go_ret
  exact ⟨rfl, balloc (Below.refl _ _) _⟩
theorem valid_any (a : Int) (A : Option Addr) (c : Nat) (xs : List Int) (w : World) (hx : RI .i64 w A xs) (hl : xs.length ≤ 140737488355328) :
    Calls Try.prog 43 #[.agg #[.int .i64 a, .slice A xs.length c]] w fun e w' => e = .returned (.bool (okB (a, xs))) ∧ Below w.heap.size w w' := by
  rcases (show (0 ≤ a ∧ a ≤ 1000000 ∧ 0 < xs.length) ∨ a < 0 ∨ (0 ≤ a ∧ 1000000 < a) ∨ (0 ≤ a ∧ a ≤ 1000000 ∧ xs.length = 0) by omega) with h | h
  · obtain ⟨h1, h2, h3⟩ := h
    by_cases he : streamErr xs = 0
    · have e1 : (streamErr xs == 0) = true := by simp [he]
      have HE : Hid (okB (a, xs) = true) := Lib.hid (by simp only [okB, decide_eq_true_eq]; exact ⟨h1, h2, h3, he⟩)
      clear he
      go_enter Try.func43, Try.ntmps43
      go_wp2_with fail
      refine (sampleCheck_any _ _ _ _ (hx.keep (balloc (Below.refl _ _) _)) hl).mono ?_
      rintro _ _ ⟨rfl, rfl⟩
      go_wp2
      go_ret
      exact ⟨ret_bool HE.out.symm, balloc (Below.refl _ _) _⟩
    · have e1 : (streamErr xs == 0) = false := by simp [he]
      have HE : Hid (okB (a, xs) = false) := Lib.hid (by simp only [okB, decide_eq_false_iff_not]; exact fun h => he h.2.2.2)
      clear he
      go_enter Try.func43, Try.ntmps43
      go_wp2_with fail
      refine (sampleCheck_any _ _ _ _ (hx.keep (balloc (Below.refl _ _) _)) hl).mono ?_
      rintro _ _ ⟨rfl, rfl⟩
      go_wp2
      go_ret
      exact ⟨ret_bool HE.out.symm, balloc (Below.refl _ _) _⟩
  · have HE : Hid (okB (a, xs) = false) := Lib.hid (by simp only [okB, decide_eq_false_iff_not]; omega)
    rcases h with h | h | ⟨h1, h2, h3⟩
    · go_enter Try.func43, Try.ntmps43
      go_wp2
      go_ret
      exact ⟨ret_bool HE.out.symm, balloc (Below.refl _ _) _⟩
    · go_enter Try.func43, Try.ntmps43
      go_wp2
      go_ret
      exact ⟨ret_bool HE.out.symm, balloc (Below.refl _ _) _⟩
    · have d3 : decide (0 < xs.length) = false := decide_eq_false (by omega)
      clear h3
      go_enter Try.func43, Try.ntmps43
      go_wp2
      go_ret
      exact ⟨ret_bool HE.out.symm, balloc (Below.refl _ _) _⟩
theorem Valid_any (a : Int) (A : Option Addr) (c : Nat) (xs : List Int) (w : World) (hx : RI .i64 w A xs) (hl : xs.length ≤ 140737488355328) :
    Calls Try.prog 32 #[.agg #[.int .i64 a, .slice A xs.length c]] w fun e w' => e = .returned (.bool (okB (a, xs))) ∧ Below w.heap.size w w' := by
  rcases (show (0 ≤ a ∧ a ≤ 1000000 ∧ 0 < xs.length) ∨ a < 0 ∨ (0 ≤ a ∧ 1000000 < a) ∨ (0 ≤ a ∧ a ≤ 1000000 ∧ xs.length = 0) by omega) with h | h
  · obtain ⟨h1, h2, h3⟩ := h
    by_cases he : streamErr xs = 0
    · have e1 : (streamErr xs == 0) = true := by simp [he]
      have HE : Hid (okB (a, xs) = true) := Lib.hid (by simp only [okB, decide_eq_true_eq]; exact ⟨h1, h2, h3, he⟩)
      clear he
      go_enter Try.func32, Try.ntmps32
      go_wp2_with fail
      refine (refCheck13_any _ _ _ _ (hx.keep (balloc (Below.refl _ _) _)) hl).mono ?_
      rintro _ _ ⟨rfl, rfl⟩
      go_wp2
      go_ret
      exact ⟨ret_bool HE.out.symm, balloc (Below.refl _ _) _⟩
    · have e1 : (streamErr xs == 0) = false := by simp [he]
      have HE : Hid (okB (a, xs) = false) := Lib.hid (by simp only [okB, decide_eq_false_iff_not]; exact fun h => he h.2.2.2)
      clear he
      go_enter Try.func32, Try.ntmps32
      go_wp2_with fail
      refine (refCheck13_any _ _ _ _ (hx.keep (balloc (Below.refl _ _) _)) hl).mono ?_
      rintro _ _ ⟨rfl, rfl⟩
      go_wp2
      go_ret
      exact ⟨ret_bool HE.out.symm, balloc (Below.refl _ _) _⟩
  · have HE : Hid (okB (a, xs) = false) := Lib.hid (by simp only [okB, decide_eq_false_iff_not]; omega)
    rcases h with h | h | ⟨h1, h2, h3⟩
    · go_enter Try.func32, Try.ntmps32
      go_wp2
      go_ret
      exact ⟨ret_bool HE.out.symm, balloc (Below.refl _ _) _⟩
    · go_enter Try.func32, Try.ntmps32
      go_wp2
      go_ret
      exact ⟨ret_bool HE.out.symm, balloc (Below.refl _ _) _⟩
    · have d3 : decide (0 < xs.length) = false := decide_eq_false (by omega)
      clear h3
      go_enter Try.func32, Try.ntmps32
      go_wp2
      go_ret
      exact ⟨ret_bool HE.out.symm, balloc (Below.refl _ _) _⟩
/-- What Great answers. -/
def greatB (l : List (Int × List Int)) : Bool := l.any (fun b => decide (300 < b.2.length)) || (decide (12 < l.length) && decide (l.length ≤ 64) || decide (100 < l.length))
theorem great_no {l : List (Int × List Int)} (h : greatB l = false) : (∀ b ∈ l, b.2.length ≤ 300) ∧ l.length ≤ 100 := by
  unfold greatB at h
  simp only [Bool.or_eq_false_iff, List.any_eq_false, decide_eq_true_eq, Bool.and_eq_false_iff, decide_eq_false_iff_not] at h
  exact ⟨fun b hb => by have := h.1 b hb; omega, by omega⟩
theorem great_any (A : Option Addr) (c : Nat) (l : List (Int × List Int)) (w : World) (hx : RB w A l) (hl : l.length ≤ 9223372036854775807) :
    Calls Try.prog 17 #[.slice A l.length c] w fun e w' => e = .returned (.bool (greatB l)) ∧ w = w' := by
  go_enter Try.func17, Try.ntmps17
  go_wp2
  go_loopg [3] l.length (fun gk i wr => ∃ k : Nat, k + gk = l.length ∧ i = .int .i64 k ∧ w = wr ∧ Hid (∀ j (h : j < l.length), j < k → ¬ 300 < l[j].2.length))
  case atStart => exact ⟨0, by omega, rfl, rfl, Lib.hid (by intro j h h2; omega)⟩
  case round =>
    obtain ⟨k, hk, rfl, rfl, hall⟩ := hrel
    have hk' : k ≤ l.length := by omega
    have HK := Lib.hid hk
    clear hk
    by_cases hlt : k < l.length
    · obtain ⟨b, off, A', c', rfl, hlw, hc1, hc2, _, _⟩ := hx.at_ hlt
      by_cases hg : 300 < l[k].2.length
      · have HG : Hid (greatB l = true) := Lib.hid (by unfold greatB; rw [Bool.or_eq_true]; left; rw [List.any_eq_true]; exact ⟨l[k], List.getElem_mem hlt, by simpa using hg⟩)
        go_wp2
        go_ret
        exact ⟨ret_bool HG.out.symm, rfl⟩
      · go_wp2
        go_roundg (gk - 1)
        case rel => exact ⟨k + 1, by have := HK.out; omega, by go_num, rfl, Lib.hid (by intro j h h2; rcases Nat.lt_or_ge j k with h3 | h3; exact hall.out j h h3; (obtain rfl : j = k := by omega); exact hg)⟩
        case measure => have := HK.out; omega
    · have HG : Hid (greatB l = (decide (12 < l.length) && decide (l.length ≤ 64) || decide (100 < l.length))) := Lib.hid (by
        unfold greatB
        have : l.any (fun b => decide (300 < b.2.length)) = false := by
          rw [List.any_eq_false]
          intro b hb
          obtain ⟨j, hj, rfl⟩ := List.mem_iff_getElem.1 hb
          simpa using hall.out j hj (by omega)
        rw [this, Bool.false_or])
      have hb3 : ∀ a b c : Bool, decide (12 < l.length) = a → decide (l.length ≤ 64) = b → decide (100 < l.length) = c → greatB l = (a && b || c) := fun a b c h1 h2 h3 => by rw [HG.out, h1, h2, h3]
      clear HG
      rcases (show (12 < l.length ∧ l.length ≤ 64) ∨ (12 < l.length ∧ ¬ l.length ≤ 64 ∧ ¬ 100 < l.length) ∨ (12 < l.length ∧ ¬ l.length ≤ 64 ∧ 100 < l.length) ∨ ¬ 12 < l.length by omega) with ⟨h, h2⟩ | ⟨h, h2, h3⟩ | ⟨h, h2, h3⟩ | h
      · have HG := Lib.hid (hb3 true true false (decide_eq_true h) (decide_eq_true h2) (decide_eq_false (by omega)))
        clear hb3
        go_wp2
        go_ret
        exact ⟨ret_bool (by rw [HG.out]; rfl), rfl⟩
      · have HG := Lib.hid (hb3 true false false (decide_eq_true h) (decide_eq_false h2) (decide_eq_false h3))
        clear hb3
        go_wp2
        go_ret
        exact ⟨ret_bool (by rw [HG.out]; first | rfl | simp; omega), rfl⟩
      · have HG := Lib.hid (hb3 true false true (decide_eq_true h) (decide_eq_false h2) (decide_eq_true h3))
        clear hb3
        go_wp2
        go_ret
        exact ⟨ret_bool (by rw [HG.out]; first | rfl | simp; omega), rfl⟩
      · have HG := Lib.hid (hb3 false true false (decide_eq_false h) (decide_eq_true (by omega)) (decide_eq_false (by omega)))
        clear hb3
        have h3 : ¬ 100 < l.length := by omega
        go_wp2
        go_ret
        exact ⟨ret_bool (by rw [HG.out]; first | rfl | simp; omega), rfl⟩
end Go.Proofs.Ytbejkfeloffccaa
