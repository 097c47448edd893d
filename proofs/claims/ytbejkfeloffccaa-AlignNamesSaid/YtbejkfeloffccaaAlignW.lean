/-
  What Put answers: the blocks, the samples, the times that are covered. Plain lists, no program in sight.
-/
import Derived.Test.YtbejkfeloffccaaAlignU
namespace Go.Proofs.Ytbejkfeloffccaa
set_option linter.unusedVariables false

theorem heads_lt {α : Type} {p : α → Bool} {l : List α} {j : Nat} (hj : j < heads p l) (hl : j < l.length) : p l[j] = true := by
  induction l generalizing j with
  | nil => simp at hl
  | cons a l ih =>
    unfold heads at hj
    rw [List.takeWhile_cons] at hj
    cases hp : p a with
    | false => rw [hp] at hj; simp at hj
    | true =>
      rw [hp] at hj
      simp only [if_true, List.length_cons] at hj
      cases j with
      | zero => exact hp
      | succ j => exact ih (by unfold heads; omega) (by simpa using hl)
theorem heads_stop {α : Type} {p : α → Bool} {l : List α} {k : Nat} (e : heads p l = k) (hk : k < l.length) : p l[k] = false := by
  induction l generalizing k with
  | nil => simp at hk
  | cons a l ih =>
    unfold heads at e
    rw [List.takeWhile_cons] at e
    cases hp : p a with
    | false => rw [hp] at e; simp at e; subst e; exact hp
    | true =>
      rw [hp] at e
      simp only [if_true, List.length_cons] at e
      cases k with
      | zero => omega
      | succ k => exact ih (by unfold heads; omega) (by simpa using hk)

def touch (m b : Int × List Int) : Prop := b.1 ≤ endB m ∧ m.1 ≤ endB b
theorem okB_pos {b : Int × List Int} (h : okB b = true) : b.1 < endB b := by have := okB_bd h; unfold endB; omega

section
variable {l : List (Int × List Int)} {b m : Int × List Int}
theorem lo_lt {j : Nat} (hj : j < l.length) (h : j < loOf l b) : endB l[j] < b.1 := by
  have := heads_lt (p := fun x => decide (endB x < b.1)) h hj
  simpa using this
theorem lo_ge (hA : Apart l) {j : Nat} (hj : j < l.length) (h : loOf l b ≤ j) : b.1 ≤ endB l[j] := by
  have h0 : loOf l b < l.length := by omega
  have h1 : b.1 ≤ endB (l[loOf l b]'h0) := by
    have := heads_stop (p := fun x => decide (endB x < b.1)) (l := l) (k := loOf l b) rfl h0
    simpa using this
  rcases Nat.eq_or_lt_of_le h with e | e
  · subst e; exact h1
  · have h2 := hA.lt e hj
    have h3 := okB_pos (hA.1 j hj)
    omega
theorem hi_lt {j : Nat} (hj : j < l.length) (h : loOf l b ≤ j) (h2 : j < hiOf l b) : l[j].1 ≤ endB b := by
  unfold hiOf at h2
  have h3 := heads_lt (p := fun x => decide (x.1 ≤ endB b)) (l := l.drop (loOf l b)) (j := j - loOf l b) (by omega) (by simp; omega)
  have e : (l.drop (loOf l b))[j - loOf l b]'(by simp; omega) = l[j] := by
    simp only [List.getElem_drop]
    congr 1
    omega
  rw [e] at h3
  simpa using h3
theorem hi_ge (hA : Apart l) {j : Nat} (hj : j < l.length) (h : hiOf l b ≤ j) : endB b < l[j].1 := by
  have h0 : hiOf l b < l.length := by omega
  have h5 := hi_le l b
  have h1 := heads_stop (p := fun x => decide (x.1 ≤ endB b)) (l := l.drop (loOf l b)) (k := hiOf l b - loOf l b) (by unfold hiOf; omega) (by simp; omega)
  have e : (l.drop (loOf l b))[hiOf l b - loOf l b]'(by simp; omega) = l[hiOf l b] := by
    simp only [List.getElem_drop]
    congr 1
    omega
  rw [e] at h1
  have h2 : endB b < (l[hiOf l b]'h0).1 := by simpa using h1
  rcases Nat.eq_or_lt_of_le h with e | e
  · subst e; exact h2
  · have h3 := hA.lt e hj
    have h4 := okB_pos (hA.1 _ h0)
    omega
theorem mem_mid (hA : Apart l) : m ∈ midOf l b ↔ m ∈ l ∧ touch m b := by
  unfold midOf
  have h5 := hi_le l b
  constructor
  · intro h
    obtain ⟨i, hi, e⟩ := List.mem_iff_getElem.1 h
    have hi' : i < hiOf l b - loOf l b := by simp at hi; omega
    have e2 : ((l.drop (loOf l b)).take (hiOf l b - loOf l b))[i]'hi = l[loOf l b + i]'(by omega) := by simp
    rw [e2] at e
    subst e
    exact ⟨List.getElem_mem _, lo_ge hA _ (by omega), hi_lt _ (by omega) (by omega)⟩
  · rintro ⟨h, h1, h2⟩
    obtain ⟨j, hj, rfl⟩ := List.mem_iff_getElem.1 h
    have a1 : loOf l b ≤ j := by
      rcases Nat.lt_or_ge j (loOf l b) with h3 | h3
      · have := lo_lt hj h3; omega
      · exact h3
    have a2 : j < hiOf l b := by
      rcases Nat.lt_or_ge j (hiOf l b) with h3 | h3
      · exact h3
      · have := hi_ge hA hj h3; omega
    refine List.mem_iff_getElem.2 ⟨j - loOf l b, by simp; omega, ?_⟩
    simp [show loOf l b + (j - loOf l b) = j by omega]
theorem take_lo (h : m ∈ l.take (loOf l b)) : m ∈ l ∧ endB m < b.1 := by
  obtain ⟨i, hi, e⟩ := List.mem_iff_getElem.1 h
  have hi' : i < loOf l b ∧ i < l.length := by simp at hi; omega
  have e2 : (l.take (loOf l b))[i]'hi = l[i]'hi'.2 := by simp
  rw [e2] at e
  subst e
  exact ⟨List.getElem_mem _, lo_lt _ hi'.1⟩
theorem drop_hi (hA : Apart l) (h : m ∈ l.drop (hiOf l b)) : m ∈ l ∧ endB b < m.1 := by
  obtain ⟨i, hi, e⟩ := List.mem_iff_getElem.1 h
  have hi' : hiOf l b + i < l.length := by simp at hi; omega
  have e2 : (l.drop (hiOf l b))[i]'hi = l[hiOf l b + i]'hi' := by simp
  rw [e2] at e
  subst e
  exact ⟨List.getElem_mem _, hi_ge hA _ (by omega)⟩
def joinB (l : List (Int × List Int)) (b : Int × List Int) : Int × List Int := (jFrom (midOf l b) b, jS (midOf l b) b)
theorem mem_put (hA : Apart l) : m ∈ putL l b ↔ (m ∈ l ∧ ¬ touch m b) ∨ m = joinB l b := by
  have h5 := hi_le l b
  unfold putL
  rw [List.mem_append, List.mem_append, List.mem_singleton]
  constructor
  · rintro ((h | h) | h)
    · have h1 := take_lo h
      exact .inl ⟨h1.1, fun h2 => by have := h2.1; omega⟩
    · exact .inr h
    · have h1 := drop_hi hA h
      exact .inl ⟨h1.1, fun h2 => by have := h2.2; omega⟩
  · rintro (⟨h, h1⟩ | h)
    · obtain ⟨j, hj, rfl⟩ := List.mem_iff_getElem.1 h
      by_cases h2 : j < loOf l b
      · exact .inl (.inl (List.mem_iff_getElem.2 ⟨j, by simp; omega, by simp⟩))
      · by_cases h3 : j < hiOf l b
        · exact absurd ⟨lo_ge hA hj (by omega), hi_lt hj (by omega) h3⟩ h1
        · refine .inr (List.mem_iff_getElem.2 ⟨j - hiOf l b, by simp; omega, ?_⟩)
          simp [show hiOf l b + (j - hiOf l b) = j by omega]
    · exact .inl (.inr h)
theorem apart_mm (hA : Apart l) {m m' : Int × List Int} (h : m ∈ l) (h' : m' ∈ l) : m = m' ∨ endB m ≤ m'.1 ∨ endB m' ≤ m.1 := by
  obtain ⟨i, hi, rfl⟩ := List.mem_iff_getElem.1 h
  obtain ⟨j, hj, rfl⟩ := List.mem_iff_getElem.1 h'
  rcases Nat.lt_trichotomy i j with h1 | h1 | h1
  · exact .inr (.inl (hA.lt h1 hj))
  · subst h1; exact .inl rfl
  · exact .inr (.inr (hA.lt h1 hi))
theorem apart_ok (hA : Apart l) (h : m ∈ l) : okB m = true := by
  obtain ⟨i, hi, rfl⟩ := List.mem_iff_getElem.1 h
  exact hA.1 i hi
theorem sampAt_mem (hA : Apart l) (h : m ∈ l) {t : Int} (h1 : m.1 ≤ t) (h2 : t < endB m) : sampAt l t = sB m t := by
  obtain ⟨i, hi, rfl⟩ := List.mem_iff_getElem.1 h
  exact sampAt_in hA hi h1 h2
theorem sampAt_out {t : Int} (h : ∀ m ∈ l, ¬ (m.1 ≤ t ∧ t < endB m)) : sampAt l t = 0 := sampAt_none fun j hj => h _ (List.getElem_mem hj)
theorem one_in (hA : Apart l) {m m' : Int × List Int} (h : m ∈ l) (h' : m' ∈ l) {t : Int} (h1 : m.1 ≤ t) (h2 : t < endB m) (h3 : m'.1 ≤ t) (h4 : t < endB m') : m = m' := by
  rcases apart_mm hA h h' with e | e | e
  · exact e
  · omega
  · omega
/-- The block that Put makes goes from the least to the greatest time of what touches the new one. -/
structure JoinS (l : List (Int × List Int)) (b : Int × List Int) (F T : Int) : Prop where
  f1 : F ≤ b.1
  f2 : ∀ m ∈ l, touch m b → F ≤ m.1
  f3 : F = b.1 ∨ ∃ m ∈ l, touch m b ∧ F = m.1
  t1 : endB b ≤ T
  t2 : ∀ m ∈ l, touch m b → endB m ≤ T
  t3 : T = endB b ∨ ∃ m ∈ l, touch m b ∧ T = endB m
theorem mid_apart (hA : Apart l) : Apart (midOf l b) := hA.sub _ _
theorem join_spec (hA : Apart l) : JoinS l b (jFrom (midOf l b) b) (jTo (midOf l b) b) := by
  have hM : Apart (midOf l b) := mid_apart hA
  have hin : ∀ m, m ∈ midOf l b ↔ m ∈ l ∧ touch m b := fun m => mem_mid hA
  generalize midOf l b = d at hM hin ⊢
  have hf : ∀ x ∈ d, 0 < d.length ∧ (firstB d).1 ≤ x.1 ∧ endB x ≤ endB (lastB d) := by
    intro x hx
    obtain ⟨i, hi, rfl⟩ := List.mem_iff_getElem.1 hx
    refine ⟨by omega, ?_, ?_⟩
    · unfold firstB
      rw [getD_lt _ _ (show 0 < d.length by omega)]
      rcases Nat.eq_zero_or_pos i with e | e
      · subst e; exact Int.le_refl _
      · have h1 := hM.lt e hi
        have h2 := okB_pos (hM.1 0 (by omega))
        omega
    · unfold lastB
      rw [getD_lt _ _ (show d.length - 1 < d.length by omega)]
      rcases Nat.lt_or_ge i (d.length - 1) with e | e
      · have h1 := hM.lt e (by omega)
        have h2 := okB_pos (hM.1 (d.length - 1) (by omega))
        omega
      · have e2 : i = d.length - 1 := by omega
        subst e2
        exact Int.le_refl _
  have hfm : 0 < d.length → firstB d ∈ d ∧ lastB d ∈ d := by
    intro h0
    unfold firstB lastB
    rw [getD_lt _ _ h0, getD_lt _ _ (show d.length - 1 < d.length by omega)]
    exact ⟨List.getElem_mem _, List.getElem_mem _⟩
  refine ⟨?_, fun m hm ht => ?_, ?_, ?_, fun m hm ht => ?_, ?_⟩
  · unfold jFrom; split <;> omega
  · have h1 := hf m ((hin m).2 ⟨hm, ht⟩)
    unfold jFrom
    split
    · exact h1.2.1
    · rename_i h2
      have := h1.1
      have := h1.2.1
      omega
  · unfold jFrom
    split
    · rename_i h2
      have h3 := (hin _).1 (hfm h2.1).1
      exact .inr ⟨_, h3.1, h3.2, rfl⟩
    · exact .inl rfl
  · unfold jTo; split <;> omega
  · have h1 := hf m ((hin m).2 ⟨hm, ht⟩)
    unfold jTo
    split
    · exact h1.2.2
    · rename_i h2
      have := h1.1
      have := h1.2.2
      omega
  · unfold jTo
    split
    · rename_i h2
      have h3 := (hin _).1 (hfm h2.1).2
      exact .inr ⟨_, h3.1, h3.2, rfl⟩
    · exact .inl rfl
theorem JoinS.cover {F T : Int} (h : JoinS l b F T) {t : Int} (h1 : F ≤ t) (h2 : t < T) : (b.1 ≤ t ∧ t < endB b) ∨ ∃ m ∈ l, touch m b ∧ m.1 ≤ t ∧ t < endB m := by
  by_cases c1 : t < b.1
  · rcases h.f3 with e | ⟨m, hm, ht, e⟩
    · omega
    · exact .inr ⟨m, hm, ht, by omega, by have := ht.1; omega⟩
  · by_cases c2 : t < endB b
    · exact .inl ⟨by omega, c2⟩
    · rcases h.t3 with e | ⟨m, hm, ht, e⟩
      · omega
      · exact .inr ⟨m, hm, ht, by have := ht.2; omega, by omega⟩
def valB (l : List (Int × List Int)) (b : Int × List Int) (t : Int) : Int := if b.1 ≤ t ∧ t < endB b ∧ sB b t ≠ 0 then sB b t else sampAt l t
theorem sampAt_mid (hA : Apart l) {F T : Int} (h : JoinS l b F T) {t : Int} (h1 : F ≤ t) (h2 : t < T) : sampAt (midOf l b) t = sampAt l t := by
  by_cases hex : ∃ m ∈ l, m.1 ≤ t ∧ t < endB m
  · obtain ⟨m, hm, h3, h4⟩ := hex
    have ht : touch m b := by
      rcases h.cover h1 h2 with c | ⟨m', hm', ht, c1, c2⟩
      · exact ⟨by omega, by omega⟩
      · rw [one_in hA hm hm' h3 h4 c1 c2]; exact ht
    rw [sampAt_mem hA hm h3 h4, sampAt_mem (mid_apart hA) ((mem_mid hA).2 ⟨hm, ht⟩) h3 h4]
  · rw [sampAt_out (l := l) fun m hm hc => hex ⟨m, hm, hc⟩, sampAt_out fun m hm hc => hex ⟨m, ((mem_mid hA).1 hm).1, hc⟩]
theorem joinB_eq (hA : Apart l) : joinB l b = (jFrom (midOf l b) b, fullL (fun i => valB l b (jFrom (midOf l b) b + i)) (jTo (midOf l b) b - jFrom (midOf l b) b).toNat) := by
  have hJ := join_spec (b := b) hA
  unfold joinB jS
  congr 1
  refine fullL_congr fun i hi => ?_
  unfold jAt valB
  split
  · rfl
  · exact sampAt_mid hA hJ (by omega) (by omega)
theorem joinB_1 : (joinB l b).1 = jFrom (midOf l b) b := rfl
theorem joinB_end (hA : Apart l) (hb : okB b = true) : endB (joinB l b) = jTo (midOf l b) b := by
  have hJ := join_spec (b := b) hA
  have := okB_pos hb
  have := hJ.f1
  have := hJ.t1
  rw [joinB_eq hA]
  unfold endB
  simp only [fullL_len]
  unfold endB at *
  omega
theorem joinB_at (hA : Apart l) (hb : okB b = true) {t : Int} (h1 : (joinB l b).1 ≤ t) (h2 : t < endB (joinB l b)) : sB (joinB l b) t = valB l b t := by
  rw [joinB_end hA hb] at h2
  rw [joinB_1] at h1
  unfold sB
  rw [joinB_1, joinB_eq hA]
  simp only
  rw [fullL_getD _ _ _ _ (by omega)]
  congr 1
  omega
theorem joinB_touch (hA : Apart l) (hb : okB b = true) : touch (joinB l b) b := by
  have hJ := join_spec (b := b) hA
  have h1 := okB_pos hb
  have h2 := hJ.f1
  have h3 := hJ.t1
  unfold touch
  rw [joinB_end hA hb, joinB_1]
  omega
theorem valB_in {t : Int} (h : b.1 ≤ t ∧ t < endB b ∧ sB b t ≠ 0) : valB l b t = sB b t := if_pos h
theorem valB_out {t : Int} (h : ¬ (b.1 ≤ t ∧ t < endB b ∧ sB b t ≠ 0)) : valB l b t = sampAt l t := if_neg h

theorem pair_apart (h : Apart l) : l.Pairwise (fun x y => endB x ≤ y.1) := List.pairwise_iff_getElem.2 fun i j hi hj hij => h.lt hij hj
theorem apart_pair (h : ∀ m ∈ l, okB m = true) (h2 : l.Pairwise (fun x y => endB x ≤ y.1)) : Apart l :=
  ⟨fun j hj => h _ (List.getElem_mem hj), fun j hj => List.pairwise_iff_getElem.1 h2 j (j + 1) (by omega) hj (by omega)⟩
theorem put_apart (hA : Apart l) (hb : okB b = true) (hj : okB (joinB l b) = true) : Apart (putL l b) := by
  have hJ := join_spec (b := b) hA
  have hE := joinB_end hA hb
  refine apart_pair (fun m hm => ?_) ?_
  · rcases (mem_put hA).1 hm with h | h
    · exact apart_ok hA h.1
    · rw [h]; exact hj
  · have hp := pair_apart hA
    have key1 : ∀ m ∈ l.take (loOf l b), endB m ≤ (joinB l b).1 := by
      intro m hm
      obtain ⟨h1, h2⟩ := take_lo hm
      rw [joinB_1]
      rcases hJ.f3 with e | ⟨m', hm', ht, e⟩
      · omega
      · have p1 := okB_pos (apart_ok hA h1)
        have p2 := okB_pos (apart_ok hA hm')
        rcases apart_mm hA h1 hm' with e2 | e2 | e2
        · subst e2; have := ht.1; omega
        · omega
        · have := ht.1; omega
    have key2 : ∀ m ∈ l.drop (hiOf l b), endB (joinB l b) ≤ m.1 := by
      intro m hm
      obtain ⟨h1, h2⟩ := drop_hi hA hm
      rw [hE]
      rcases hJ.t3 with e | ⟨m', hm', ht, e⟩
      · omega
      · have p1 := okB_pos (apart_ok hA h1)
        have p2 := okB_pos (apart_ok hA hm')
        rcases apart_mm hA h1 hm' with e2 | e2 | e2
        · subst e2; have := ht.2; omega
        · have := ht.2; omega
        · omega
    unfold putL
    refine List.pairwise_append.2 ⟨List.pairwise_append.2 ⟨hp.sublist (List.take_sublist _ _), List.pairwise_singleton _ _, ?_⟩, hp.sublist (List.drop_sublist _ _), ?_⟩
    · intro x hx y hy
      rw [List.mem_singleton] at hy
      subst hy
      exact key1 x hx
    · intro x hx y hy
      rcases List.mem_append.1 hx with h | h
      · have h1 := key1 x h
        have h2 := key2 y hy
        have h3 := okB_pos hj
        omega
      · rw [List.mem_singleton] at h
        subst h
        exact key2 y hy
theorem apart_ext {l l' : List (Int × List Int)} (h : Apart l) (h' : Apart l') (hm : ∀ m, m ∈ l ↔ m ∈ l') : l = l' := by
  have a1 : ∀ m ∈ l, okB m = true := fun m h1 => apart_ok h h1
  have a2 : ∀ m ∈ l', okB m = true := fun m h1 => apart_ok h' h1
  have p1 := pair_apart h
  have p2 := pair_apart h'
  clear h h'
  induction l generalizing l' with
  | nil =>
    cases l' with
    | nil => rfl
    | cons y l' => exact absurd ((hm y).2 (by simp)) (by simp)
  | cons x l ih =>
    cases l' with
    | nil => exact absurd ((hm x).1 (by simp)) (by simp)
    | cons y l' =>
      obtain ⟨q1, q2⟩ := List.pairwise_cons.1 p1
      obtain ⟨r1, r2⟩ := List.pairwise_cons.1 p2
      have hx := okB_pos (a1 x (by simp))
      have hy := okB_pos (a2 y (by simp))
      have e : x = y := by
        rcases List.mem_cons.1 ((hm x).1 (by simp)) with e | e
        · exact e
        · rcases List.mem_cons.1 ((hm y).2 (by simp)) with e2 | e2
          · exact e2.symm
          · have := q1 y e2
            have := r1 x e
            omega
      subst e
      rw [ih (fun m => ?_) (fun m h => a1 m (by simp [h])) (fun m h => a2 m (by simp [h])) q2 r2]
      constructor
      · intro h
        rcases List.mem_cons.1 ((hm m).1 (by simp [h])) with e | e
        · subst e; have := q1 _ h; omega
        · exact e
      · intro h
        rcases List.mem_cons.1 ((hm m).2 (by simp [h])) with e | e
        · subst e; have := r1 _ h; omega
        · exact e
/-- The samples after a block was put. -/
theorem samp_put (hA : Apart l) (hb : okB b = true) (hj : okB (joinB l b) = true) (t : Int) : sampAt (putL l b) t = valB l b t := by
  have hX := put_apart hA hb hj
  have hJ := join_spec (b := b) hA
  have hE := joinB_end hA hb
  by_cases hin : (joinB l b).1 ≤ t ∧ t < endB (joinB l b)
  · rw [sampAt_mem hX ((mem_put hA).2 (.inr rfl)) hin.1 hin.2, joinB_at hA hb hin.1 hin.2]
  · have hnb : ¬ (b.1 ≤ t ∧ t < endB b) := by
      intro h
      have := hJ.f1
      have := hJ.t1
      rw [hE, joinB_1] at hin
      omega
    rw [valB_out fun h => hnb ⟨h.1, h.2.1⟩]
    by_cases hex : ∃ m ∈ l, m.1 ≤ t ∧ t < endB m
    · obtain ⟨m, hm, h3, h4⟩ := hex
      have hnt : ¬ touch m b := by
        intro ht
        have := hJ.f2 m hm ht
        have := hJ.t2 m hm ht
        rw [hE, joinB_1] at hin
        omega
      rw [sampAt_mem hA hm h3 h4, sampAt_mem hX ((mem_put hA).2 (.inl ⟨hm, hnt⟩)) h3 h4]
    · rw [sampAt_out (l := l) fun m hm hc => hex ⟨m, hm, hc⟩, sampAt_out fun m hm hc => ?_]
      rcases (mem_put hA).1 hm with h | h
      · exact hex ⟨m, h.1, hc⟩
      · subst h; exact hin hc
/-- The times that are covered after a block was put. -/
theorem cov_put (hA : Apart l) (hb : okB b = true) (t : Int) : (∃ m ∈ putL l b, m.1 ≤ t ∧ t < endB m) ↔ (∃ m ∈ l, m.1 ≤ t ∧ t < endB m) ∨ (b.1 ≤ t ∧ t < endB b) := by
  have hJ := join_spec (b := b) hA
  have hE := joinB_end hA hb
  constructor
  · rintro ⟨m, hm, h1, h2⟩
    rcases (mem_put hA).1 hm with h | h
    · exact .inl ⟨m, h.1, h1, h2⟩
    · subst h
      rw [hE] at h2
      rw [joinB_1] at h1
      rcases hJ.cover h1 h2 with c | ⟨m', hm', _, c⟩
      · exact .inr c
      · exact .inl ⟨m', hm', c⟩
  · rintro (⟨m, hm, h1, h2⟩ | ⟨h1, h2⟩)
    · by_cases ht : touch m b
      · refine ⟨_, (mem_put hA).2 (.inr rfl), ?_, ?_⟩
        · rw [joinB_1]; have := hJ.f2 m hm ht; omega
        · rw [hE]; have := hJ.t2 m hm ht; omega
      · exact ⟨m, (mem_put hA).2 (.inl ⟨hm, ht⟩), h1, h2⟩
    · refine ⟨_, (mem_put hA).2 (.inr rfl), ?_, ?_⟩
      · rw [joinB_1]; have := hJ.f1; omega
      · rw [hE]; have := hJ.t1; omega
end
end Go.Proofs.Ytbejkfeloffccaa
