/-
  Plain: two lists of runs merged in the order of their times.
-/
import Derived.Test.YtjhigfhgchpjcaaRuns
namespace Runs
set_option linter.unusedVariables false

structure UInv (p q r s out : List G) : Prop where
  rn : Rn out
  all : ∀ t, mem out t ↔ mem p t ∨ mem q t
  apart : ∀ t, ¬ (mem p t ∧ mem q t)
  hr : ∀ x ∈ r, ∀ y ∈ out, y.1 ≤ x.1
  hs : ∀ x ∈ s, ∀ y ∈ out, y.1 ≤ x.1
  len : out.length ≤ p.length + q.length
  tot : tot out = tot p + tot q
theorem UInv.symm {p q r s out : List G} (h : UInv p q r s out) : UInv q p s r out :=
  ⟨h.rn, fun t => (h.all t).trans or_comm, fun t ⟨h1, h2⟩ => h.apart t ⟨h2, h1⟩, h.hs, h.hr, by have := h.len; omega, by have := h.tot; omega⟩
theorem UInv.start (r s : List G) : UInv [] [] r s [] :=
  ⟨Rn_nil, fun t => by simp [mem_nil], fun t h => mem_nil t h.1, by simp, by simp, by simp, by simp [tot_nil]⟩
theorem UInv.done {p q out : List G} (h : UInv p q [] [] out) : Good p q out := ⟨h.rn, h.all, h.apart, h.len, h.tot⟩
theorem take_next {p r q s out : List G} {x : G} (h : UInv p q (x :: r) s out) (hp : Rn (p ++ x :: r)) (hx : ∀ y ∈ s, x.1 ≤ y.1) (hne : ∀ y ∈ out, y.1 + y.2 < x.1) : UInv (p ++ [x]) q r s (out ++ [x]) := by
  obtain ⟨h1, h2, h3⟩ := Rn_split.1 hp
  have hok := h2.head
  refine ⟨Rn_split.2 ⟨h.rn, Rn_one hok, fun y hy z hz => by rw [mem1 hz]; exact hne y hy⟩, fun t => ?_, ?_, ?_, ?_, ?_, ?_⟩
  · rw [mem_append, mem_append, h.all, or_right_comm]
  · rintro t ⟨h4, h5⟩
    rcases (mem_append _ _ _).1 h4 with h6 | h6
    · exact h.apart t ⟨h6, h5⟩
    · obtain ⟨y, hy, hi⟩ := (h.all t).2 (.inr h5)
      have := hne y hy
      rw [mem_one] at h6
      unfold inG at hi h6
      omega
  · intro z hz y hy
    rcases List.mem_append.1 hy with h6 | h6
    · exact h.hr z (by simp [hz]) y h6
    · rw [mem1 h6]
      have := h2.first z (by simp [hz])
      exact this
  · intro z hz y hy
    rcases List.mem_append.1 hy with h6 | h6
    · exact h.hs z hz y h6
    · rw [mem1 h6]
      exact hx z hz
  · have := h.len; simp; omega
  · rw [tot_append, tot_append, h.tot, tot_one]; omega
theorem take_join {p r q s o : List G} {x l : G} (h : UInv p q (x :: r) s (o ++ [l])) (hp : Rn (p ++ x :: r)) (hx : ∀ y ∈ s, x.1 ≤ y.1) (he : x.1 = l.1 + l.2) : UInv (p ++ [x]) q r s (o ++ [(l.1, l.2 + x.2)]) := by
  obtain ⟨h1, h2, h3⟩ := Rn_split.1 hp
  obtain ⟨g1, g2, g3⟩ := Rn_split.1 h.rn
  rw [Rn_one_iff] at g2
  have hok := h2.head
  have htot := h.tot
  rw [tot_append, tot_one] at htot
  have hol : ∀ y ∈ o, y.1 + y.2 < l.1 := fun y hy => g3 y hy l (by simp)
  have hin : ∀ t, inG (l.1, l.2 + x.2) t ↔ inG l t ∨ inG x t := by
    intro t
    unfold inG okG at *
    simp only []
    omega
  refine ⟨Rn_split.2 ⟨g1, Rn_one (by unfold okG at *; simp only []; omega), fun y hy z hz => by rw [mem1 hz]; exact hol y hy⟩, fun t => ?_, ?_, ?_, ?_, ?_, ?_⟩
  · rw [mem_append, mem_one, hin, mem_append, mem_one, or_right_comm, ← h.all, mem_append, mem_one, or_assoc]
  · rintro t ⟨h4, h5⟩
    rcases (mem_append _ _ _).1 h4 with h6 | h6
    · exact h.apart t ⟨h6, h5⟩
    · have := (h.all t).2 (.inr h5)
      rw [mem_one] at h6
      rw [mem_append, mem_one] at this
      unfold okG at *
      rcases this with ⟨y, hy, hi⟩ | hi
      · have := hol y hy
        unfold inG at hi h6
        omega
      · unfold inG at hi h6
        omega
  · intro z hz y hy
    rcases List.mem_append.1 hy with h6 | h6
    · exact h.hr z (by simp [hz]) y (by simp [h6])
    · rw [mem1 h6]
      exact h.hr z (by simp [hz]) l (by simp)
  · intro z hz y hy
    rcases List.mem_append.1 hy with h6 | h6
    · exact h.hs z hz y (by simp [h6])
    · rw [mem1 h6]
      exact h.hs z hz l (by simp)
  · have := h.len; simp at this ⊢; omega
  · rw [tot_append, tot_append, tot_one, tot_one]; simp only []; omega
theorem take_meet {p r q s o : List G} {x l : G} (h : UInv p q (x :: r) s (o ++ [l])) (hp : Rn (p ++ x :: r)) (he : x.1 < l.1 + l.2) : mem q x.1 := by
  obtain ⟨h1, h2, h3⟩ := Rn_split.1 hp
  have hl := h.hr x (by simp) l (by simp)
  have hm : mem (o ++ [l]) x.1 := (mem_append _ _ _).2 (.inr ((mem_one _ _).2 ⟨hl, he⟩))
  rcases (h.all x.1).1 hm with h4 | h4
  · exfalso
    obtain ⟨y, hy, hi⟩ := h4
    have := h3 y hy x (by simp)
    unfold inG at hi
    omega
  · exact h4
theorem last_end {o : List G} {l x : G} (h : Rn (o ++ [l])) (hx : l.1 + l.2 < x.1) : ∀ y ∈ o ++ [l], y.1 + y.2 < x.1 := by
  obtain ⟨g1, g2, g3⟩ := Rn_split.1 h
  rw [Rn_one_iff] at g2
  intro y hy
  rcases List.mem_append.1 hy with h6 | h6
  · have := g3 y h6 l (by simp)
    unfold okG at g2
    omega
  · rw [mem1 h6]; exact hx
theorem mem_take {l : List G} {n : Nat} {t : Int} (h : mem (l.take n) t) : mem l t := by
  obtain ⟨y, hy, hi⟩ := h
  exact ⟨y, List.mem_of_mem_take hy, hi⟩
theorem Rn_take_drop {l : List G} {i : Nat} (h : Rn l) (hi : i < l.length) : Rn (l.take i ++ l[i] :: l.drop (i + 1)) := by
  rw [← List.drop_eq_getElem_cons hi, List.take_append_drop]
  exact h
/-- Taking the next of the first list, all of it. -/
theorem stepA {a b out : List G} {i j : Nat} (h : UInv (a.take i) (b.take j) (a.drop i) (b.drop j) out) (ha : Rn a) (hb : Rn b) (hi : i < a.length) (hx : ∀ (h : j < b.length), a[i].1 ≤ b[j].1) :
    (out = [] → UInv (a.take (i + 1)) (b.take j) (a.drop (i + 1)) (b.drop j) [a[i]]) ∧
    (∀ o l, out = o ++ [l] → (a[i].1 < l.1 + l.2 → uni a b = ([], false)) ∧ (a[i].1 = l.1 + l.2 → UInv (a.take (i + 1)) (b.take j) (a.drop (i + 1)) (b.drop j) (o ++ [(l.1, l.2 + a[i].2)])) ∧ (l.1 + l.2 < a[i].1 → UInv (a.take (i + 1)) (b.take j) (a.drop (i + 1)) (b.drop j) (out ++ [a[i]]))) := by
  have hR := Rn_take_drop ha hi
  have hx' : ∀ y ∈ b.drop j, a[i].1 ≤ y.1 := by
    intro y hy
    by_cases hj : j < b.length
    · rw [List.drop_eq_getElem_cons hj] at hy
      have hRb := (Rn_split.1 (Rn_take_drop hb hj)).2.1
      exact Int.le_trans (hx hj) (hRb.first y hy)
    · rw [List.drop_of_length_le (by omega)] at hy
      cases hy
  rw [List.drop_eq_getElem_cons hi] at h
  rw [List.take_succ_eq_append_getElem hi]
  refine ⟨?_, ?_⟩
  · rintro rfl
    exact take_next h hR hx' (by simp)
  · rintro o l rfl
    refine ⟨fun he => ?_, fun he => take_join h hR hx' he, fun he => take_next h hR hx' (last_end h.rn he)⟩
    exact uni_no (t := a[i].1) ⟨a[i], List.getElem_mem _, ok_in (ha.1 _ (List.getElem_mem _))⟩ (mem_take (take_meet h hR he))
theorem stepB {a b out : List G} {i j : Nat} (h : UInv (a.take i) (b.take j) (a.drop i) (b.drop j) out) (ha : Rn a) (hb : Rn b) (hj : j < b.length) (hx : ∀ (h : i < a.length), b[j].1 ≤ a[i].1) :
    (out = [] → UInv (a.take i) (b.take (j + 1)) (a.drop i) (b.drop (j + 1)) [b[j]]) ∧
    (∀ o l, out = o ++ [l] → (b[j].1 < l.1 + l.2 → uni a b = ([], false)) ∧ (b[j].1 = l.1 + l.2 → UInv (a.take i) (b.take (j + 1)) (a.drop i) (b.drop (j + 1)) (o ++ [(l.1, l.2 + b[j].2)])) ∧ (l.1 + l.2 < b[j].1 → UInv (a.take i) (b.take (j + 1)) (a.drop i) (b.drop (j + 1)) (out ++ [b[j]]))) := by
  obtain ⟨h1, h2⟩ := stepA h.symm hb ha hj hx
  refine ⟨fun e => (h1 e).symm, fun o l e => ?_⟩
  obtain ⟨h3, h4, h5⟩ := h2 o l e
  exact ⟨fun e => by rw [uni_comm]; exact h3 e, fun e => (h4 e).symm, fun e => (h5 e).symm⟩
theorem uinv_end {a b out : List G} {i j : Nat} (h : UInv (a.take i) (b.take j) (a.drop i) (b.drop j) out) (hi : a.length ≤ i) (hj : b.length ≤ j) : uni a b = (out, true) := by
  rw [List.take_of_length_le hi, List.take_of_length_le hj, List.drop_of_length_le hi, List.drop_of_length_le hj] at h
  exact uni_yes h.done
theorem uinv_start (a b : List G) : UInv (a.take 0) (b.take 0) (a.drop 0) (b.drop 0) [] := by simpa using UInv.start a b
end Runs
