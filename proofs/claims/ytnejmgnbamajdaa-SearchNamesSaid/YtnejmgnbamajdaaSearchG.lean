/-
  The best cell: plain lists, no program in sight.
-/
import Derived.Test.YtnejmgnbamajdaaSearchF
namespace Go.Proofs.Ytnejmgnbamajdaa
set_option linter.unusedVariables false

theorem better_iff (c d : Cl) : betterB c d = true ↔ d.pw < c.pw ∨ (c.pw = d.pw ∧ (absI c.d < absI d.d ∨ (absI c.d = absI d.d ∧ (c.d < d.d ∨ (c.d = d.d ∧ c.r < d.r))))) := by
  unfold betterB
  repeat' split
  all_goals simp only [decide_eq_true_eq]
  all_goals omega
theorem better_no (c d : Cl) : betterB c d = false ↔ ¬ (d.pw < c.pw ∨ (c.pw = d.pw ∧ (absI c.d < absI d.d ∨ (absI c.d = absI d.d ∧ (c.d < d.d ∨ (c.d = d.d ∧ c.r < d.r)))))) := by
  rw [← better_iff]; simp
def bestGo (l : List Cl) (b : Cl) : Cl := l.foldl (fun b c => if betterB c b then c else b) b
def bestOf : List Cl → Cl
  | [] => zeroC
  | c :: l => bestGo l c
def bestTo (l : List Cl) (k : Nat) : Cl := bestOf (l.take k)
theorem bestTo_one {l : List Cl} (h : 0 < l.length) : bestTo l 1 = l[0] := by
  rcases l with _ | ⟨c, l⟩
  · simp at h
  · rfl
theorem bestTo_succ {l : List Cl} {k : Nat} (h0 : 0 < k) (h : k < l.length) : bestTo l (k + 1) = if betterB l[k] (bestTo l k) then l[k] else bestTo l k := by
  unfold bestTo
  rw [List.take_succ_eq_append_getElem h]
  rcases l with _ | ⟨c, l⟩
  · simp at h
  · rcases k with _ | k
    · omega
    · rw [List.take_succ_cons, List.cons_append]
      simp only [bestOf, bestGo, List.foldl_append, List.foldl_cons, List.foldl_nil]
      rfl
theorem bestTo_all (l : List Cl) (k : Nat) (h : l.length ≤ k) : bestTo l k = bestOf l := by unfold bestTo; rw [List.take_of_length_le h]
/-- b is a member, and no member comes before it. -/
def IsBest (l : List Cl) (k : Nat) (b : Cl) : Prop := (∃ j, ∃ h : j < l.length, j < k ∧ l[j] = b) ∧ ∀ j (h : j < l.length), j < k → betterB l[j] b = false
theorem best_is {l : List Cl} {k : Nat} (h0 : 0 < k) (h : k ≤ l.length) : IsBest l k (bestTo l k) := by
  induction k with
  | zero => omega
  | succ k ih =>
    rcases Nat.eq_zero_or_pos k with rfl | hk
    · have e := bestTo_one (l := l) (by omega)
      refine ⟨⟨0, by omega, by omega, e.symm⟩, fun j hj hj2 => ?_⟩
      obtain rfl : j = 0 := by omega
      rw [e, better_no]
      omega
    · obtain ⟨⟨j, hj, hjk, hb⟩, hall⟩ := ih hk (by omega)
      rw [bestTo_succ hk (by omega)]
      split
      · rename_i hc
        refine ⟨⟨k, by omega, by omega, rfl⟩, fun i hi hik => ?_⟩
        rcases Nat.lt_or_ge i k with h1 | h1
        · have h2 := hall i hi h1
          rw [better_iff] at hc
          rw [better_no] at h2 ⊢
          omega
        · obtain rfl : i = k := by omega
          rw [better_no]
          omega
      · rename_i hc
        refine ⟨⟨j, hj, by omega, hb⟩, fun i hi hik => ?_⟩
        rcases Nat.lt_or_ge i k with h1 | h1
        · exact hall i hi h1
        · obtain rfl : i = k := by omega
          simpa using hc
theorem askErr_pw {xs ys : List Int} {d r s : Int} : 0 ≤ (cellS xs ys d r s).pw := by
  unfold cellS
  simp only []
  have h1 : ∀ a : Int, 0 ≤ a * a := fun a => by rw [← Int.natAbs_mul_self]; exact Int.natCast_nonneg _
  have := h1 (cellSum xs ys d r s xs.length).1
  have := h1 (cellSum xs ys d r s xs.length).2
  omega
theorem cellS_d {xs ys : List Int} {d r s : Int} : (cellS xs ys d r s).d = d := rfl
theorem cellS_r {xs ys : List Int} {d r s : Int} : (cellS xs ys d r s).r = r := rfl
/-- Among cells of one grid the best one is one alone. -/
theorem best_one {xs ys : List Int} {s : Int} {d r d' r' : Int} (h1 : betterB (cellS xs ys d r s) (cellS xs ys d' r' s) = false) (h2 : betterB (cellS xs ys d' r' s) (cellS xs ys d r s) = false) : d = d' ∧ r = r' := by
  rw [better_no] at h1 h2
  simp only [cellS_d, cellS_r] at h1 h2
  omega
/-- The order in which the reference looks at the cells. -/
def visD (t : Nat) : Int := if (t / 4) % 2 = 0 then -((t / 8 : Nat) : Int) else ((t / 8 : Nat) : Int)
def visR (t : Nat) : Int := ((t % 4 : Nat) : Int)
theorem vis_key {t t' : Nat} (h : t' < t) : absI (visD t') < absI (visD t) ∨ (absI (visD t') = absI (visD t) ∧ (visD t' < visD t ∨ (visD t' = visD t ∧ (visR t' < visR t ∨ (t < 8 ∧ 4 ≤ t))))) := by
  unfold absI visD visR
  repeat' split
  all_goals omega
theorem vis_all {m : Nat} {d r : Int} (h1 : -(m : Int) ≤ d) (h2 : d ≤ m) (h3 : 0 ≤ r) (h4 : r ≤ 3) : ∃ t, t < 8 * (m + 1) ∧ visD t = d ∧ visR t = r := by
  by_cases h : 0 < d
  · refine ⟨8 * d.toNat + 4 + r.toNat, by omega, ?_, ?_⟩
    · unfold visD; rw [if_neg (by omega)]; omega
    · unfold visR; omega
  · refine ⟨8 * (-d).toNat + r.toNat, by omega, ?_, ?_⟩
    · unfold visD; rw [if_pos (by omega)]; omega
    · unfold visR; omega
theorem vis_in {m t : Nat} (h : t < 8 * (m + 1)) : -(m : Int) ≤ visD t ∧ visD t ≤ m ∧ 0 ≤ visR t ∧ visR t ≤ 3 := by
  unfold visD visR
  split <;> omega
def visC (xs ys : List Int) (s : Int) (t : Nat) : Cl := cellS xs ys (visD t) (visR t) s
/-- What the reference holds when it has looked at t cells. -/
def Looked (xs ys : List Int) (s : Int) (t : Nat) (b : Cl) : Prop :=
  (b = zeroC ∧ ∀ t', t' < t → (visC xs ys s t').pw = 0) ∨ (0 < b.pw ∧ (∃ t', t' < t ∧ visC xs ys s t' = b) ∧ ∀ t', t' < t → betterB (visC xs ys s t') b = false)
theorem looked_zero (xs ys : List Int) (s : Int) : Looked xs ys s 0 zeroC := .inl ⟨rfl, fun t' h => by omega⟩
theorem looked_more {xs ys : List Int} {s : Int} {t : Nat} {b : Cl} (h : Looked xs ys s t b) (hg : b.pw < (visC xs ys s t).pw) : Looked xs ys s (t + 1) (visC xs ys s t) := by
  refine .inr ⟨?_, ⟨t, by omega, rfl⟩, fun t' ht => ?_⟩
  · rcases h with ⟨rfl, _⟩ | ⟨h, _⟩
    · simpa [zeroC] using hg
    · omega
  · rcases Nat.lt_or_ge t' t with h1 | h1
    · rw [better_no]
      rcases h with ⟨rfl, h2⟩ | ⟨h2, _, h3⟩
      · have := h2 t' h1
        simp only [zeroC] at hg
        omega
      · have := h3 t' h1
        rw [better_no] at this
        omega
    · obtain rfl : t' = t := by omega
      rw [better_no]
      omega
theorem looked_same {xs ys : List Int} {s : Int} {t : Nat} {b : Cl} (h : Looked xs ys s t b) (hg : ¬ b.pw < (visC xs ys s t).pw) : Looked xs ys s (t + 1) b := by
  rcases h with ⟨rfl, h2⟩ | ⟨h1, ⟨t0, ht0, rfl⟩, h3⟩
  · refine .inl ⟨rfl, fun t' ht => ?_⟩
    rcases Nat.lt_or_ge t' t with h1 | h1
    · exact h2 t' h1
    · obtain rfl : t' = t := by omega
      simp only [zeroC] at hg
      have : 0 ≤ (visC xs ys s t').pw := askErr_pw
      omega
  · refine .inr ⟨h1, ⟨t0, by omega, rfl⟩, fun t' ht => ?_⟩
    rcases Nat.lt_or_ge t' t with h4 | h4
    · exact h3 t' h4
    · obtain rfl : t' = t := by omega
      have hk := vis_key ht0
      by_cases hs : t' < 8 ∧ 4 ≤ t'
      · have e : visC xs ys s t' = visC xs ys s (t' - 4) := by
          unfold visC
          have e1 : visD t' = visD (t' - 4) := by unfold visD; repeat' split; all_goals omega
          have e2 : visR t' = visR (t' - 4) := by unfold visR; omega
          rw [e1, e2]
        rw [e]
        exact h3 _ (by omega)
      · rw [better_no]
        unfold visC at hg ⊢
        simp only [cellS_d, cellS_r]
        omega
def bestSpec (xs ys : List Int) (m s : Int) : Cl × Int := if askErr xs ys s ≠ 0 then (zeroC, askErr xs ys s) else if 0 ≤ m ∧ m ≤ 32 then (if (bestOf (fullL (gridAt xs ys m s) (gridN m))).pw = 0 then (zeroC, 18) else (bestOf (fullL (gridAt xs ys m s) (gridN m)), 0)) else (zeroC, 2)
theorem best_err {xs ys : List Int} {m s : Int} (h : ¬ askErr xs ys s = 0) : bestSpec xs ys m s = (zeroC, askErr xs ys s) := by simp [bestSpec, h]
theorem best_arg {xs ys : List Int} {m s : Int} (h : askErr xs ys s = 0) (h2 : ¬ (0 ≤ m ∧ m ≤ 32)) : bestSpec xs ys m s = (zeroC, 2) := by simp [bestSpec, h, h2]
theorem best_none {xs ys : List Int} {m s : Int} (h : askErr xs ys s = 0) (h2 : 0 ≤ m ∧ m ≤ 32) (h3 : (bestOf (fullL (gridAt xs ys m s) (gridN m))).pw = 0) : bestSpec xs ys m s = (zeroC, 18) := by simp [bestSpec, h, h2, h3]
theorem best_ok {xs ys : List Int} {m s : Int} (h : askErr xs ys s = 0) (h2 : 0 ≤ m ∧ m ≤ 32) (h3 : ¬ (bestOf (fullL (gridAt xs ys m s) (gridN m))).pw = 0) : bestSpec xs ys m s = (bestOf (fullL (gridAt xs ys m s) (gridN m)), 0) := by simp [bestSpec, h, h2, h3]
/-- The best cell of a grid, by its own words. -/
theorem grid_best (xs ys : List Int) (m : Nat) (s : Int) : ∃ d r, -(m : Int) ≤ d ∧ d ≤ m ∧ 0 ≤ r ∧ r ≤ 3 ∧ bestOf (fullL (gridAt xs ys m s) (gridN m)) = cellS xs ys d r s ∧ ∀ d' r', -(m : Int) ≤ d' → d' ≤ m → 0 ≤ r' → r' ≤ 3 → betterB (cellS xs ys d' r' s) (cellS xs ys d r s) = false := by
  have hl : (fullL (gridAt xs ys m s) (gridN m)).length = gridN m := fullL_len _ _
  have hN : gridN (m : Int) = 4 * (2 * m + 1) := by unfold gridN; omega
  obtain ⟨⟨j, hj, _, hb⟩, hall⟩ := best_is (l := fullL (gridAt xs ys m s) (gridN m)) (k := gridN m) (by omega) (by omega)
  rw [bestTo_all _ _ (by omega)] at hb hall
  rw [fullL_get] at hb
  refine ⟨((j / 4 : Nat) : Int) - m, ((j % 4 : Nat) : Int), by omega, by omega, by omega, by omega, hb.symm, fun d' r' h1 h2 h3 h4 => ?_⟩
  have h5 := hall (4 * (d' + m).toNat + r'.toNat) (by omega) (by omega)
  rw [fullL_get, gridAt_mk (by omega), ← hb] at h5
  have e1 : (((d' + m).toNat : Nat) : Int) - m = d' := by omega
  have e2 : ((r'.toNat : Nat) : Int) = r' := by omega
  rw [e1, e2] at h5
  exact h5
theorem looked_best {xs ys : List Int} {m : Nat} {s : Int} {b : Cl} (h : Looked xs ys s (8 * (m + 1)) b) :
    (b.pw = 0 ∧ (bestOf (fullL (gridAt xs ys m s) (gridN m))).pw = 0) ∨ (¬ b.pw = 0 ∧ bestOf (fullL (gridAt xs ys m s) (gridN m)) = b) := by
  obtain ⟨d, r, h1, h2, h3, h4, he, hall⟩ := grid_best xs ys m s
  obtain ⟨t, ht, hd, hr⟩ := vis_all (m := m) h1 h2 h3 h4
  rcases h with ⟨rfl, h6⟩ | ⟨h6, ⟨t0, ht0, rfl⟩, h7⟩
  · refine .inl ⟨rfl, ?_⟩
    have := h6 t ht
    unfold visC at this
    rw [hd, hr] at this
    rw [he]
    exact this
  · refine .inr ⟨by omega, ?_⟩
    have h8 := h7 t ht
    obtain ⟨v1, v2, v3, v4⟩ := vis_in ht0
    have h9 := hall _ _ v1 v2 v3 v4
    unfold visC at h8 ⊢
    rw [hd, hr] at h8
    obtain ⟨e1, e2⟩ := best_one h8 h9
    rw [he, e1, e2]
end Go.Proofs.Ytnejmgnbamajdaa
