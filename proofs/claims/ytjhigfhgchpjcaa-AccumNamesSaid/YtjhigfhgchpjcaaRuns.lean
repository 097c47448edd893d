/-
  Plain: lists of runs of times as sets of times.
-/
import Derived.Test.YtjhigfhgchpjcaaWords
namespace Runs
set_option linter.unusedVariables false

abbrev G := Int × Int
def inG (g : G) (t : Int) : Prop := g.1 ≤ t ∧ t < g.1 + g.2
def mem (l : List G) (t : Int) : Prop := ∃ g ∈ l, inG g t
def okG (g : G) : Prop := 0 ≤ g.1 ∧ 1 ≤ g.2 ∧ g.1 + g.2 ≤ 1000000000
def Rn (l : List G) : Prop := (∀ g ∈ l, okG g) ∧ l.Pairwise (fun x y => x.1 + x.2 < y.1)
def tot (l : List G) : Int := (l.map (·.2)).sum

theorem mem_nil (t : Int) : ¬ mem [] t := by rintro ⟨g, h, _⟩; cases h
theorem mem_cons (g : G) (l : List G) (t : Int) : mem (g :: l) t ↔ inG g t ∨ mem l t := by
  constructor
  · rintro ⟨x, hx, h⟩
    rcases List.mem_cons.1 hx with rfl | hx
    · exact .inl h
    · exact .inr ⟨x, hx, h⟩
  · rintro (h | ⟨x, hx, h⟩)
    · exact ⟨g, by simp, h⟩
    · exact ⟨x, by simp [hx], h⟩
theorem mem_append (l m : List G) (t : Int) : mem (l ++ m) t ↔ mem l t ∨ mem m t := by
  induction l with
  | nil => simp [mem_nil]
  | cons a l ih => rw [List.cons_append, mem_cons, mem_cons, ih, or_assoc]
theorem mem_one (g : G) (t : Int) : mem [g] t ↔ inG g t := by simp [mem_cons, mem_nil]
theorem tot_nil : tot [] = 0 := rfl
theorem tot_cons (g : G) (l : List G) : tot (g :: l) = g.2 + tot l := by simp [tot]
theorem tot_append (l m : List G) : tot (l ++ m) = tot l + tot m := by
  induction l with
  | nil => simp [tot_nil]
  | cons a l ih => rw [List.cons_append, tot_cons, tot_cons, ih]; omega
theorem tot_one (g : G) : tot [g] = g.2 := by simp [tot]
theorem tot_nn {l : List G} (h : ∀ g ∈ l, okG g) : 0 ≤ tot l := by
  induction l with
  | nil => simp [tot_nil]
  | cons a l ih =>
    rw [tot_cons]
    have h1 := h a (by simp)
    have h2 := ih (fun g hg => h g (by simp [hg]))
    unfold okG at h1
    omega
theorem Rn_nil : Rn [] := ⟨by simp, by simp⟩
theorem Rn_one {g : G} (h : okG g) : Rn [g] := ⟨by simpa using h, by simp⟩
theorem Rn.tail {g : G} {l : List G} (h : Rn (g :: l)) : Rn l := ⟨fun x hx => h.1 x (by simp [hx]), (List.pairwise_cons.1 h.2).2⟩
theorem Rn.head {g : G} {l : List G} (h : Rn (g :: l)) : okG g := h.1 g (by simp)
theorem Rn.far {g : G} {l : List G} (h : Rn (g :: l)) : ∀ x ∈ l, g.1 + g.2 < x.1 := (List.pairwise_cons.1 h.2).1
theorem Rn.first {g : G} {l : List G} (h : Rn (g :: l)) : ∀ x ∈ g :: l, g.1 ≤ x.1 := by
  intro x hx
  rcases List.mem_cons.1 hx with rfl | hx
  · omega
  · have h1 := h.far x hx
    have h2 := h.head
    unfold okG at h2
    omega
theorem ok_in {g : G} (h : okG g) : inG g g.1 := by unfold okG at h; unfold inG; omega
theorem uniq {l : List G} : ∀ {l' : List G}, Rn l → Rn l' → (∀ t, mem l t ↔ mem l' t) → l = l' := by
  induction l with
  | nil =>
    intro l' _ h' e
    cases l' with
    | nil => rfl
    | cons g r => exact absurd ((e g.1).2 ((mem_cons _ _ _).2 (.inl (ok_in h'.head)))) (mem_nil _)
  | cons g r ih =>
    intro l' h h' e
    cases l' with
    | nil => exact absurd ((e g.1).1 ((mem_cons _ _ _).2 (.inl (ok_in h.head)))) (mem_nil _)
    | cons k s =>
      have le1 : k.1 ≤ g.1 := by
        obtain ⟨x, hx, hi⟩ := (e g.1).1 ⟨g, by simp, ok_in h.head⟩
        have := h'.first x hx
        unfold inG at hi
        omega
      have le2 : g.1 ≤ k.1 := by
        obtain ⟨x, hx, hi⟩ := (e k.1).2 ⟨k, by simp, ok_in h'.head⟩
        have := h.first x hx
        unfold inG at hi
        omega
      have o1 := h.head
      have o2 := h'.head
      have e1 : g.1 = k.1 := by omega
      have e2 : g.2 = k.2 := by
        unfold okG at o1 o2
        rcases Int.lt_trichotomy g.2 k.2 with h1 | h1 | h1
        · exfalso
          obtain ⟨x, hx, hi⟩ := (e (g.1 + g.2)).2 ⟨k, by simp, by unfold inG; omega⟩
          unfold inG at hi
          rcases List.mem_cons.1 hx with rfl | hx
          · omega
          · have := h.far x hx; omega
        · exact h1
        · exfalso
          obtain ⟨x, hx, hi⟩ := (e (k.1 + k.2)).1 ⟨g, by simp, by unfold inG; omega⟩
          unfold inG at hi
          rcases List.mem_cons.1 hx with rfl | hx
          · omega
          · have := h'.far x hx; omega
      have e3 : g = k := Prod.ext e1 e2
      subst e3
      congr 1
      refine ih h.tail h'.tail (fun t => ?_)
      have hnot : ∀ {m : List G}, Rn (g :: m) → mem m t → ¬ inG g t := by
        intro m hm ⟨x, hx, hi⟩ h2
        have := hm.far x hx
        unfold inG at hi h2
        omega
      constructor
      · intro h1
        rcases (mem_cons _ _ _).1 ((e t).1 ((mem_cons _ _ _).2 (.inr h1))) with h2 | h2
        · exact absurd h2 (hnot h h1)
        · exact h2
      · intro h1
        rcases (mem_cons _ _ _).1 ((e t).2 ((mem_cons _ _ _).2 (.inr h1))) with h2 | h2
        · exact absurd h2 (hnot h' h1)
        · exact h2

/-- l has the times of a and of b, which have none in common. -/
structure Good (a b l : List G) : Prop where
  rn : Rn l
  all : ∀ t, mem l t ↔ mem a t ∨ mem b t
  apart : ∀ t, ¬ (mem a t ∧ mem b t)
  len : l.length ≤ a.length + b.length
  tot : tot l = tot a + tot b

noncomputable def uni (a b : List G) : List G × Bool :=
  open Classical in if h : ∃ l, Good a b l then (Classical.choose h, true) else ([], false)
theorem uni_yes {a b l : List G} (h : Good a b l) : uni a b = (l, true) := by
  unfold uni
  have hx : ∃ l, Good a b l := ⟨l, h⟩
  rw [dif_pos hx]
  have h2 := Classical.choose_spec hx
  rw [uniq h2.rn h.rn (fun t => (h2.all t).trans (h.all t).symm)]
theorem uni_no {a b : List G} {t : Int} (h1 : mem a t) (h2 : mem b t) : uni a b = ([], false) := by
  unfold uni
  rw [dif_neg]
  rintro ⟨l, h⟩
  exact h.apart t ⟨h1, h2⟩
theorem uni_good {a b : List G} (h : (uni a b).2 = true) : Good a b (uni a b).1 := by
  unfold uni at h ⊢
  by_cases hx : ∃ l, Good a b l
  · rw [dif_pos hx]
    exact Classical.choose_spec hx
  · rw [dif_neg hx] at h
    cases h
theorem Good.symm {a b l : List G} (h : Good a b l) : Good b a l :=
  ⟨h.rn, fun t => (h.all t).trans or_comm, fun t ⟨h1, h2⟩ => h.apart t ⟨h2, h1⟩, by have := h.len; omega, by have := h.tot; omega⟩
theorem uni_comm (a b : List G) : uni a b = uni b a := by
  by_cases hx : ∃ l, Good a b l
  · obtain ⟨l, h⟩ := hx
    rw [uni_yes h, uni_yes h.symm]
  · have hy : ¬ ∃ l, Good b a l := fun ⟨l, h⟩ => hx ⟨l, h.symm⟩
    unfold uni
    rw [dif_neg hx, dif_neg hy]

/-! ### one run more, as the reference takes it -/
def meetB (x g : G) : Bool := decide (x.1 < g.1 + g.2) && decide (g.1 < x.1 + x.2)
structure St where
  bef : List G
  g : G
  beh : List G
def stepT (s : St) (x : G) : St :=
  if x.1 + x.2 = s.g.1 then { s with g := (x.1, x.2 + s.g.2) }
  else if s.g.1 + s.g.2 = x.1 then { s with g := (s.g.1, s.g.2 + x.2) }
  else if x.1 < s.g.1 then { s with bef := s.bef ++ [x] }
  else { s with beh := s.beh ++ [x] }
def St.list (s : St) : List G := s.bef ++ [s.g] ++ s.beh
/-- What holds after the runs of d were taken, those of r lie ahead. -/
structure Inv (d : List G) (g0 : G) (s : St) : Prop where
  rn : Rn s.list
  all : ∀ t, mem s.list t ↔ mem d t ∨ inG g0 t
  from1 : ∀ y ∈ s.bef, y ∈ d
  from2 : ∀ y ∈ s.beh, y ∈ d
  apart : ∀ t, ¬ (mem d t ∧ inG g0 t)
  len : s.list.length = s.bef.length + 1 + s.beh.length
  len2 : s.list.length ≤ d.length + 1
  tot : tot s.list = tot d + g0.2
  gin : s.g.1 ≤ g0.1 ∧ g0.1 + g0.2 ≤ s.g.1 + s.g.2
theorem inv_start {g : G} (h : okG g) : Inv [] g ⟨[], g, []⟩ :=
  ⟨by simpa [St.list] using Rn_one h, fun t => by simp [St.list, mem_one, mem_nil], by simp, by simp, fun t h => mem_nil t h.1, by simp [St.list], by simp [St.list], by simp [St.list, tot_one, tot_nil], by simp⟩
theorem Rn_split {a b : List G} : Rn (a ++ b) ↔ Rn a ∧ Rn b ∧ ∀ x ∈ a, ∀ y ∈ b, x.1 + x.2 < y.1 := by
  unfold Rn
  rw [List.pairwise_append]
  constructor
  · rintro ⟨h1, h2, h3, h4⟩
    exact ⟨⟨fun g hg => h1 g (by simp [hg]), h2⟩, ⟨fun g hg => h1 g (by simp [hg]), h3⟩, h4⟩
  · rintro ⟨⟨h1, h2⟩, ⟨h3, h4⟩, h5⟩
    exact ⟨fun g hg => (List.mem_append.1 hg).elim (h1 g) (h3 g), h2, h4, h5⟩
theorem mem1 {x z : G} (h : z ∈ [x]) : z = x := by simpa using h
theorem Rn_one_iff {g : G} : Rn [g] ↔ okG g := ⟨fun h => h.1 g (by simp), Rn_one⟩
theorem inv_split {s : St} : Rn s.list ↔ Rn s.bef ∧ okG s.g ∧ Rn s.beh ∧ (∀ x ∈ s.bef, x.1 + x.2 < s.g.1) ∧ (∀ y ∈ s.beh, s.g.1 + s.g.2 < y.1) ∧ (∀ x ∈ s.bef, ∀ y ∈ s.beh, x.1 + x.2 < y.1) := by
  unfold St.list
  rw [Rn_split, Rn_split, Rn_one_iff]
  constructor
  · rintro ⟨⟨h1, h2, h3⟩, h4, h5⟩
    exact ⟨h1, h2, h4, fun x hx => h3 x hx _ (by simp), fun y hy => h5 _ (by simp) y hy, fun x hx y hy => h5 x (by simp [hx]) y hy⟩
  · rintro ⟨h1, h2, h3, h4, h5, h6⟩
    refine ⟨⟨h1, h2, fun x hx y hy => ?_⟩, h3, fun x hx y hy => ?_⟩
    · obtain rfl : y = s.g := by simpa using hy
      exact h4 x hx
    · rcases List.mem_append.1 hx with h | h
      · exact h6 x h y hy
      · obtain rfl : x = s.g := by simpa using h
        exact h5 y hy
theorem mem_list (s : St) (t : Int) : mem s.list t ↔ mem s.bef t ∨ inG s.g t ∨ mem s.beh t := by
  unfold St.list
  rw [mem_append, mem_append, mem_one, or_assoc]
theorem tot_list (s : St) : tot s.list = tot s.bef + s.g.2 + tot s.beh := by
  unfold St.list
  rw [tot_append, tot_append, tot_one]
theorem list_len (s : St) : s.list.length = s.bef.length + 1 + s.beh.length := by simp [St.list]; omega
theorem inv_step {d : List G} {g0 x : G} {s : St} (h : Inv d g0 s) (hd : Rn (d ++ [x])) (hm : meetB x s.g = false) (h0 : okG g0) : Inv (d ++ [x]) g0 (stepT s x) := by
  obtain ⟨hd1, hx, hdx⟩ := Rn_split.1 hd
  rw [Rn_one_iff] at hx
  obtain ⟨r1, r2, r3, r4, r5, r6⟩ := inv_split.1 h.rn
  have hall := fun t => (mem_list s t).symm.trans (h.all t)
  have htot := h.tot
  rw [tot_list] at htot
  have hlen := h.len2
  rw [list_len] at hlen
  have hdf : ∀ y ∈ d, y.1 + y.2 < x.1 := fun y hy => hdx y hy x (by simp)
  have hno : ¬ (x.1 < s.g.1 + s.g.2 ∧ s.g.1 < x.1 + x.2) := by simpa [meetB] using hm
  have hok := hx
  unfold okG at hok r2 h0
  have hgin := h.gin
  have hap : ∀ t, inG x t → ¬ inG s.g t := by
    intro t h1 h2
    unfold inG at h1 h2
    omega
  have happ : ∀ t, ¬ (mem (d ++ [x]) t ∧ inG g0 t) := by
    rintro t ⟨h1, h2⟩
    rcases (mem_append _ _ _).1 h1 with h3 | h3
    · exact h.apart t ⟨h3, h2⟩
    · refine hap t ((mem_one _ _).1 h3) ?_
      unfold inG at h2 ⊢
      omega
  have hb1 : ∀ y ∈ s.bef, y.1 + y.2 < x.1 := fun y hy => hdf y (h.from1 y hy)
  have hb2 : ∀ y ∈ s.beh, y.1 + y.2 < x.1 := fun y hy => hdf y (h.from2 y hy)
  have hmemx : ∀ t, mem (d ++ [x]) t ↔ mem d t ∨ inG x t := fun t => by rw [mem_append, mem_one]
  have hbeh : x.1 ≤ s.g.1 + s.g.2 → s.beh = [] := by
    intro hle
    cases hbe : s.beh with
    | nil => rfl
    | cons y ys =>
      exfalso
      have hy : y ∈ s.beh := by rw [hbe]; simp
      have e1 := r5 y hy
      have e2 := hb2 y hy
      have e3 := r3.1 y hy
      unfold okG at e3
      omega
  unfold stepT
  by_cases c1 : x.1 + x.2 = s.g.1
  · rw [if_pos c1]
    have hbe := hbeh (by omega)
    refine ⟨inv_split.2 ⟨r1, by unfold okG; simp only []; omega, r3, fun y hy => hb1 y hy, by rw [hbe]; simp, r6⟩, ?_, fun y hy => by simp [h.from1 y hy], fun y hy => by simp [h.from2 y hy], happ, list_len _, by rw [list_len]; simp; omega, by rw [tot_list, tot_append, tot_one]; simp only []; omega, by simp only []; omega⟩
    intro t
    rw [mem_list, hmemx, or_right_comm, ← hall t]
    have : inG (x.1, x.2 + s.g.2) t ↔ inG x t ∨ inG s.g t := by unfold inG; simp only []; omega
    rw [this]
    constructor
    · rintro (h1 | (h1 | h1) | h1)
      · exact .inl (.inl h1)
      · exact .inr h1
      · exact .inl (.inr (.inl h1))
      · exact .inl (.inr (.inr h1))
    · rintro ((h1 | h1 | h1) | h1)
      · exact .inl h1
      · exact .inr (.inl (.inr h1))
      · exact .inr (.inr h1)
      · exact .inr (.inl (.inl h1))
  · rw [if_neg c1]
    by_cases c2 : s.g.1 + s.g.2 = x.1
    · rw [if_pos c2]
      have hbe := hbeh (by omega)
      refine ⟨inv_split.2 ⟨r1, by unfold okG; simp only []; omega, r3, r4, by rw [hbe]; simp, r6⟩, ?_, fun y hy => by simp [h.from1 y hy], fun y hy => by simp [h.from2 y hy], happ, list_len _, by rw [list_len]; simp; omega, by rw [tot_list, tot_append, tot_one]; simp only []; omega, by simp only []; omega⟩
      intro t
      rw [mem_list, hmemx, or_right_comm, ← hall t]
      have : inG (s.g.1, s.g.2 + x.2) t ↔ inG x t ∨ inG s.g t := by unfold inG; simp only []; omega
      rw [this]
      constructor
      · rintro (h1 | (h1 | h1) | h1)
        · exact .inl (.inl h1)
        · exact .inr h1
        · exact .inl (.inr (.inl h1))
        · exact .inl (.inr (.inr h1))
      · rintro ((h1 | h1 | h1) | h1)
        · exact .inl h1
        · exact .inr (.inl (.inr h1))
        · exact .inr (.inr h1)
        · exact .inr (.inl (.inl h1))
    · rw [if_neg c2]
      by_cases c3 : x.1 < s.g.1
      · rw [if_pos c3]
        have hbe := hbeh (by omega)
        refine ⟨inv_split.2 ⟨Rn_split.2 ⟨r1, Rn_one hx, fun y hy z hz => by rw [mem1 hz]; exact hb1 y hy⟩, by unfold okG; simp only []; omega, r3, fun y hy => ?_, r5, by simp only [hbe]; simp⟩, ?_, ?_, fun y hy => by simp [h.from2 y hy], happ, list_len _, by rw [list_len]; simp; omega, by rw [tot_list, tot_append, tot_one, tot_append, tot_one]; simp only []; omega, hgin⟩
        · rcases List.mem_append.1 hy with h1 | h1
          · exact r4 y h1
          · obtain rfl : y = x := by simpa using h1
            simp only []
            omega
        · intro t
          rw [mem_list, hmemx, or_right_comm, ← hall t, mem_append, mem_one]
          constructor
          · rintro ((h1 | h1) | h1 | h1)
            · exact .inl (.inl h1)
            · exact .inr h1
            · exact .inl (.inr (.inl h1))
            · exact .inl (.inr (.inr h1))
          · rintro ((h1 | h1 | h1) | h1)
            · exact .inl (.inl h1)
            · exact .inr (.inl h1)
            · exact .inr (.inr h1)
            · exact .inl (.inr h1)
        · intro y hy
          rcases List.mem_append.1 hy with h1 | h1
          · simp [h.from1 y h1]
          · obtain rfl : y = x := by simpa using h1
            simp
      · rw [if_neg c3]
        refine ⟨inv_split.2 ⟨r1, by unfold okG; simp only []; omega, Rn_split.2 ⟨r3, Rn_one hx, fun y hy z hz => by rw [mem1 hz]; exact hb2 y hy⟩, r4, fun y hy => ?_, fun z hz y hy => ?_⟩, ?_, fun y hy => by simp [h.from1 y hy], ?_, happ, list_len _, by rw [list_len]; simp; omega, by rw [tot_list, tot_append, tot_one, tot_append, tot_one]; simp only []; omega, hgin⟩
        · rcases List.mem_append.1 hy with h1 | h1
          · exact r5 y h1
          · obtain rfl : y = x := by simpa using h1
            simp only []
            omega
        · rcases List.mem_append.1 hy with h1 | h1
          · exact r6 z hz y h1
          · obtain rfl : y = x := by simpa using h1
            exact hb1 z hz
        · intro t
          rw [mem_list, hmemx, or_right_comm, ← hall t, mem_append, mem_one]
          constructor
          · rintro (h1 | h1 | h1 | h1)
            · exact .inl (.inl h1)
            · exact .inl (.inr (.inl h1))
            · exact .inl (.inr (.inr h1))
            · exact .inr h1
          · rintro ((h1 | h1 | h1) | h1)
            · exact .inl h1
            · exact .inr (.inl h1)
            · exact .inr (.inr (.inl h1))
            · exact .inr (.inr (.inr h1))
        · intro y hy
          rcases List.mem_append.1 hy with h1 | h1
          · simp [h.from2 y h1]
          · obtain rfl : y = x := by simpa using h1
            simp
theorem inv_meet {d : List G} {g0 x : G} {s : St} (h : Inv d g0 s) (hd : Rn (d ++ [x])) (hm : meetB x s.g = true) : ∃ t, inG x t ∧ inG g0 t := by
  obtain ⟨hd1, hx, hdx⟩ := Rn_split.1 hd
  rw [Rn_one_iff] at hx
  obtain ⟨r1, r2, r3, r4, r5, r6⟩ := inv_split.1 h.rn
  have hh : x.1 < s.g.1 + s.g.2 ∧ s.g.1 < x.1 + x.2 := by simpa [meetB] using hm
  have hok := hx
  unfold okG at hok r2
  -- a time of both
  have key : ∃ t, inG x t ∧ inG s.g t := by
    rcases Int.le_total x.1 s.g.1 with h1 | h1
    · exact ⟨s.g.1, by unfold inG; omega, by unfold inG; omega⟩
    · exact ⟨x.1, by unfold inG; omega, by unfold inG; omega⟩
  obtain ⟨t, h1, h2⟩ := key
  rcases (h.all t).1 ((mem_list _ _).2 (.inr (.inl h2))) with h3 | h3
  · exfalso
    obtain ⟨y, hy, hi⟩ := h3
    have := hdx y hy x (by simp)
    unfold inG at h1 hi
    omega
  · exact ⟨t, h1, h3⟩

/-- All runs of l taken: the state, or none if one meets. -/
def tog (l : List G) (g : G) : Option St := l.foldl (fun s x => s.bind (fun s => if meetB x s.g then none else some (stepT s x))) (some ⟨[], g, []⟩)
theorem good_tog {l : List G} {g : G} {s : St} (h : Inv l g s) : Good l [g] s.list :=
  ⟨h.rn, fun t => by rw [mem_one]; exact h.all t, fun t => by rw [mem_one]; exact h.apart t, by have := h.len2; simpa using this, by rw [tot_one]; exact h.tot⟩
theorem exists_one {l : List G} {g : G} (hl : Rn l) (hg : okG g) (ha : ∀ t, ¬ (mem l t ∧ inG g t)) : ∃ s, Inv l g s := by
  have key : ∀ n, n ≤ l.length → ∃ s, Inv (l.take n) g s := by
    intro n
    induction n with
    | zero => intro _; exact ⟨_, by simpa using inv_start hg⟩
    | succ n ih =>
      intro hn
      obtain ⟨s, hs⟩ := ih (by omega)
      have hlt : n < l.length := by omega
      have e : l.take (n + 1) = l.take n ++ [l[n]] := by rw [List.take_succ_eq_append_getElem hlt]
      have hR : Rn (l.take n ++ [l[n]]) := by
        rw [← e]
        exact (Rn_split.1 (show Rn (l.take (n + 1) ++ l.drop (n + 1)) by rw [List.take_append_drop]; exact hl)).1
      rw [e]
      by_cases hm : meetB l[n] s.g = true
      · obtain ⟨t, h1, h2⟩ := inv_meet hs hR hm
        exact absurd ⟨⟨l[n], List.getElem_mem _, h1⟩, h2⟩ (ha t)
      · exact ⟨_, inv_step hs hR (by simpa using hm) hg⟩
  obtain ⟨s, hs⟩ := key l.length (by omega)
  rw [List.take_length] at hs
  exact ⟨s, hs⟩
/-- One run more behind those that were taken. -/
theorem good_snoc {a b l m : List G} {g : G} (h1 : Good a b l) (h2 : Good l [g] m) (hb : Rn (b ++ [g])) : Good a (b ++ [g]) m := by
  obtain ⟨_, hg, hbg⟩ := Rn_split.1 hb
  refine ⟨h2.rn, fun t => ?_, fun t => ?_, ?_, ?_⟩
  · rw [h2.all, h1.all, mem_append, or_assoc]
  · rintro ⟨h3, h4⟩
    rcases (mem_append _ _ _).1 h4 with h5 | h5
    · exact h1.apart t ⟨h3, h5⟩
    · exact h2.apart t ⟨(h1.all t).2 (.inl h3), h5⟩
  · have := h1.len; have := h2.len; simp at this ⊢; omega
  · rw [h2.tot, h1.tot, tot_append]; omega
theorem exists_uni {a b : List G} (ha : Rn a) (hb : Rn b) (hab : ∀ t, ¬ (mem a t ∧ mem b t)) : ∃ l, Good a b l := by
  have key : ∀ n, n ≤ b.length → ∃ l, Good a (b.take n) l := by
    intro n
    induction n with
    | zero => intro _; exact ⟨a, by simpa using ⟨ha, fun t => by simp [mem_nil], fun t h => mem_nil t h.2, by simp, by simp [tot_nil]⟩⟩
    | succ n ih =>
      intro hn
      obtain ⟨l, hl⟩ := ih (by omega)
      have hlt : n < b.length := by omega
      have e : b.take (n + 1) = b.take n ++ [b[n]] := by rw [List.take_succ_eq_append_getElem hlt]
      have hR : Rn (b.take n ++ [b[n]]) := by
        rw [← e]
        exact (Rn_split.1 (show Rn (b.take (n + 1) ++ b.drop (n + 1)) by rw [List.take_append_drop]; exact hb)).1
      have hg : okG b[n] := hb.1 _ (List.getElem_mem _)
      obtain ⟨s, hs⟩ := exists_one hl.rn hg (by
        rintro t ⟨h1, h2⟩
        rcases (hl.all t).1 h1 with h3 | h3
        · exact hab t ⟨h3, ⟨b[n], List.getElem_mem _, h2⟩⟩
        · obtain ⟨y, hy, hi⟩ := h3
          have := (Rn_split.1 hR).2.2 y hy b[n] (by simp)
          unfold inG at hi h2
          omega)
      rw [e]
      exact ⟨_, good_snoc hl (good_tog hs) hR⟩
  obtain ⟨l, hl⟩ := key b.length (by omega)
  rw [List.take_length] at hl
  exact ⟨l, hl⟩
theorem uni_true {a b : List G} (ha : Rn a) (hb : Rn b) (hab : ∀ t, ¬ (mem a t ∧ mem b t)) : (uni a b).2 = true := by
  obtain ⟨l, h⟩ := exists_uni ha hb hab
  rw [uni_yes h]
theorem uni_false {a b : List G} (ha : Rn a) (hb : Rn b) (h : (uni a b).2 = false) : ∃ t, mem a t ∧ mem b t := by
  apply Classical.byContradiction
  intro hn
  have := uni_true ha hb (fun t ht => hn ⟨t, ht⟩)
  rw [h] at this
  cases this
end Runs
