/-
  Parts of the proof of WorkerNames: Runs RunsU.
-/
import Derived.Test.YtdekbncpodjgnaaT01
namespace Runs
set_option linter.unusedVariables false
abbrev G := Int × Int
def inG (g : G) (t : Int) : Prop := g.1 ≤ t ∧ t < g.1 + g.2
def mem (l : List G) (t : Int) : Prop := ∃ g ∈ l, inG g t
def okG (g : G) : Prop := 0 ≤ g.1 ∧ 1 ≤ g.2 ∧ g.1 + g.2 ≤ 1000000000
def Rn (l : List G) : Prop := (∀ g ∈ l, okG g) ∧ l.Pairwise (fun x y => x.1 + x.2 < y.1)
def tot (l : List G) : Int := (l.map (·.2)).sum
theorem mem_nil (t : Int) : ¬ mem [] t := by rintro ⟨g, h, _⟩; cases h
theorem mem_cons (g : G) (l : List G) (t : Int) : mem (g :: l) t ↔ inG g t ∨ mem l t := by
 constructor
 ·rintro ⟨x, hx, h⟩
  rcases List.mem_cons.1 hx with rfl | hx
  ·exact .inl h
  ·exact .inr ⟨x, hx, h⟩
 ·rintro (h | ⟨x, hx, h⟩)
  ·exact ⟨g, by simp, h⟩
  ·exact ⟨x, by simp [hx], h⟩
theorem mem_append (l m : List G) (t : Int) : mem (l ++ m) t ↔ mem l t ∨ mem m t := by
 induction l with
 | nil => simp [mem_nil]
 | cons a l ih => rw [List.cons_append, mem_cons, mem_cons, ih, or_assoc]
theorem mem_one (g : G) (t : Int) : mem [g] t ↔ inG g t := by simp [mem_cons, mem_nil]
theorem tot_nil : tot [] = 0 := rfl
theorem tot_cons (g : G) (l : List G) : tot (g :: l) = g.2 + tot l := by simp [tot]
theorem tot_append (l m : List G) : tot (l ++ m) = tot l + tot m := by
 induction l with
 | nil => simp [tot_nil]
 | cons a l ih => rw [List.cons_append, tot_cons, tot_cons, ih]; omega
theorem tot_one (g : G) : tot [g] = g.2 := by simp [tot]
theorem Rn_nil : Rn [] := ⟨by simp, by simp⟩
theorem Rn_one {g : G} (h : okG g) : Rn [g] := ⟨by simpa using h, by simp⟩
theorem Rn.tail {g : G} {l : List G} (h : Rn (g :: l)) : Rn l := ⟨fun x hx => h.1 x (by simp [hx]), (List.pairwise_cons.1 h.2).2⟩
theorem Rn.head {g : G} {l : List G} (h : Rn (g :: l)) : okG g := h.1 g (by simp)
theorem Rn.far {g : G} {l : List G} (h : Rn (g :: l)) : ∀ x ∈ l, g.1 + g.2 < x.1 := (List.pairwise_cons.1 h.2).1
theorem Rn.first {g : G} {l : List G} (h : Rn (g :: l)) : ∀ x ∈ g :: l, g.1 ≤ x.1 := by
 intro x hx
 rcases List.mem_cons.1 hx with rfl | hx
 ·omega
 ·have h1 := h.far x hx
  have h2 := h.head
  unfold okG at h2
  omega
theorem ok_in {g : G} (h : okG g) : inG g g.1 := by unfold okG at h; unfold inG; omega
theorem uniq {l : List G} : ∀ {l' : List G}, Rn l → Rn l' → (∀ t, mem l t ↔ mem l' t) → l = l' := by
 induction l with
 | nil =>
  intro l' _ h' e
  cases l' with
  | nil => rfl
  | cons g r => exact absurd ((e g.1).2 ((mem_cons _ _ _).2 (.inl (ok_in h'.head)))) (mem_nil _)
 | cons g r ih =>
  intro l' h h' e
  cases l' with
  | nil => exact absurd ((e g.1).1 ((mem_cons _ _ _).2 (.inl (ok_in h.head)))) (mem_nil _)
  | cons k s =>
   have le1 : k.1 ≤ g.1 := by
    obtain ⟨x, hx, hi⟩ := (e g.1).1 ⟨g, by simp, ok_in h.head⟩
    have := h'.first x hx
    unfold inG at hi
    omega
   have le2 : g.1 ≤ k.1 := by
    obtain ⟨x, hx, hi⟩ := (e k.1).2 ⟨k, by simp, ok_in h'.head⟩
    have := h.first x hx
    unfold inG at hi
    omega
   have o1 := h.head
   have o2 := h'.head
   have e1 : g.1 = k.1 := by omega
   have e2 : g.2 = k.2 := by
    unfold okG at o1 o2
    rcases Int.lt_trichotomy g.2 k.2 with h1 | h1 | h1
    ·exfalso
     obtain ⟨x, hx, hi⟩ := (e (g.1 + g.2)).2 ⟨k, by simp, by unfold inG; omega⟩
     unfold inG at hi
     rcases List.mem_cons.1 hx with rfl | hx
     ·omega
     ·have := h.far x hx; omega
    ·exact h1
    ·exfalso
     obtain ⟨x, hx, hi⟩ := (e (k.1 + k.2)).1 ⟨g, by simp, by unfold inG; omega⟩
     unfold inG at hi
     rcases List.mem_cons.1 hx with rfl | hx
     ·omega
     ·have := h'.far x hx; omega
   have e3 : g = k := Prod.ext e1 e2
   subst e3
   congr 1
   refine ih h.tail h'.tail (fun t => ?_)
   have hnot : ∀ {m : List G}, Rn (g :: m) → mem m t → ¬ inG g t := by
    intro m hm ⟨x, hx, hi⟩ h2
    have := hm.far x hx
    unfold inG at hi h2
    omega
   constructor
   ·intro h1
    rcases (mem_cons _ _ _).1 ((e t).1 ((mem_cons _ _ _).2 (.inr h1))) with h2 | h2
    ·exact absurd h2 (hnot h h1)
    ·exact h2
   ·intro h1
    rcases (mem_cons _ _ _).1 ((e t).2 ((mem_cons _ _ _).2 (.inr h1))) with h2 | h2
    ·exact absurd h2 (hnot h' h1)
    ·exact h2
structure Good (a b l : List G) : Prop where
 rn : Rn l
 all : ∀ t, mem l t ↔ mem a t ∨ mem b t
 apart : ∀ t, ¬ (mem a t ∧ mem b t)
 len : l.length ≤ a.length + b.length
 tot : tot l = tot a + tot b
noncomputable def uni (a b : List G) : List G × Bool :=
 open Classical in if h : ∃ l, Good a b l then (Classical.choose h, true) else ([], false)
theorem uni_yes {a b l : List G} (h : Good a b l) : uni a b = (l, true) := by
 unfold uni
 have hx : ∃ l, Good a b l := ⟨l, h⟩
 rw [dif_pos hx]
 have h2 := Classical.choose_spec hx
 rw [uniq h2.rn h.rn (fun t => (h2.all t).trans (h.all t).symm)]
theorem uni_no {a b : List G} {t : Int} (h1 : mem a t) (h2 : mem b t) : uni a b = ([], false) := by
 unfold uni
 rw [dif_neg]
 rintro ⟨l, h⟩
 exact h.apart t ⟨h1, h2⟩
theorem uni_good {a b : List G} (h : (uni a b).2 = true) : Good a b (uni a b).1 := by
 unfold uni at h ⊢
 by_cases hx : ∃ l, Good a b l
 ·rw [dif_pos hx]
  exact Classical.choose_spec hx
 ·rw [dif_neg hx] at h
  cases h
theorem Good.symm {a b l : List G} (h : Good a b l) : Good b a l :=
 ⟨h.rn, fun t => (h.all t).trans or_comm, fun t ⟨h1, h2⟩ => h.apart t ⟨h2, h1⟩, by have := h.len; omega, by have := h.tot; omega⟩
theorem uni_comm (a b : List G) : uni a b = uni b a := by
 by_cases hx : ∃ l, Good a b l
 ·obtain ⟨l, h⟩ := hx
  rw [uni_yes h, uni_yes h.symm]
 ·have hy : ¬ ∃ l, Good b a l := fun ⟨l, h⟩ => hx ⟨l, h.symm⟩
  unfold uni
  rw [dif_neg hx, dif_neg hy]
def meetB (x g : G) : Bool := decide (x.1 < g.1 + g.2) && decide (g.1 < x.1 + x.2)
structure St where
 bef : List G
 g : G
 beh : List G
def stepT (s : St) (x : G) : St :=
 if x.1 + x.2 = s.g.1 then { s with g := (x.1, x.2 + s.g.2) }
 else if s.g.1 + s.g.2 = x.1 then { s with g := (s.g.1, s.g.2 + x.2) }
 else if x.1 < s.g.1 then { s with bef := s.bef ++ [x] }
 else { s with beh := s.beh ++ [x] }
def St.list (s : St) : List G := s.bef ++ [s.g] ++ s.beh
structure Inv (d : List G) (g0 : G) (s : St) : Prop where
 rn : Rn s.list
 all : ∀ t, mem s.list t ↔ mem d t ∨ inG g0 t
 from1 : ∀ y ∈ s.bef, y ∈ d
 from2 : ∀ y ∈ s.beh, y ∈ d
 apart : ∀ t, ¬ (mem d t ∧ inG g0 t)
 len : s.list.length = s.bef.length + 1 + s.beh.length
 len2 : s.list.length ≤ d.length + 1
 tot : tot s.list = tot d + g0.2
 gin : s.g.1 ≤ g0.1 ∧ g0.1 + g0.2 ≤ s.g.1 + s.g.2
theorem inv_start {g : G} (h : okG g) : Inv [] g ⟨[], g, []⟩ :=
 ⟨by simpa [St.list] using Rn_one h, fun t => by simp [St.list, mem_one, mem_nil], by simp, by simp, fun t h => mem_nil t h.1, by simp [St.list], by simp [St.list], by simp [St.list, tot_one, tot_nil], by simp⟩
theorem Rn_split {a b : List G} : Rn (a ++ b) ↔ Rn a ∧ Rn b ∧ ∀ x ∈ a, ∀ y ∈ b, x.1 + x.2 < y.1 := by
 unfold Rn
 rw [List.pairwise_append]
 constructor
 ·rintro ⟨h1, h2, h3, h4⟩
  exact ⟨⟨fun g hg => h1 g (by simp [hg]), h2⟩, ⟨fun g hg => h1 g (by simp [hg]), h3⟩, h4⟩
 ·rintro ⟨⟨h1, h2⟩, ⟨h3, h4⟩, h5⟩
  exact ⟨fun g hg => (List.mem_append.1 hg).elim (h1 g) (h3 g), h2, h4, h5⟩
theorem mem1 {x z : G} (h : z ∈ [x]) : z = x := by simpa using h
theorem Rn_one_iff {g : G} : Rn [g] ↔ okG g := ⟨fun h => h.1 g (by simp), Rn_one⟩
theorem inv_split {s : St} : Rn s.list ↔ Rn s.bef ∧ okG s.g ∧ Rn s.beh ∧ (∀ x ∈ s.bef, x.1 + x.2 < s.g.1) ∧ (∀ y ∈ s.beh, s.g.1 + s.g.2 < y.1) ∧ (∀ x ∈ s.bef, ∀ y ∈ s.beh, x.1 + x.2 < y.1) := by
 unfold St.list
 rw [Rn_split, Rn_split, Rn_one_iff]
 constructor
 ·rintro ⟨⟨h1, h2, h3⟩, h4, h5⟩
  exact ⟨h1, h2, h4, fun x hx => h3 x hx _ (by simp), fun y hy => h5 _ (by simp) y hy, fun x hx y hy => h5 x (by simp [hx]) y hy⟩
 ·rintro ⟨h1, h2, h3, h4, h5, h6⟩
  refine ⟨⟨h1, h2, fun x hx y hy => ?_⟩, h3, fun x hx y hy => ?_⟩
  ·obtain rfl : y = s.g := by simpa using hy
   exact h4 x hx
  ·rcases List.mem_append.1 hx with h | h
   ·exact h6 x h y hy
   ·obtain rfl : x = s.g := by simpa using h
    exact h5 y hy
theorem mem_list (s : St) (t : Int) : mem s.list t ↔ mem s.bef t ∨ inG s.g t ∨ mem s.beh t := by
 unfold St.list
 rw [mem_append, mem_append, mem_one, or_assoc]
theorem tot_list (s : St) : tot s.list = tot s.bef + s.g.2 + tot s.beh := by
 unfold St.list
 rw [tot_append, tot_append, tot_one]
theorem list_len (s : St) : s.list.length = s.bef.length + 1 + s.beh.length := by simp [St.list]; omega
theorem inv_step {d : List G} {g0 x : G} {s : St} (h : Inv d g0 s) (hd : Rn (d ++ [x])) (hm : meetB x s.g = false) (h0 : okG g0) : Inv (d ++ [x]) g0 (stepT s x) := by
 obtain ⟨hd1, hx, hdx⟩ := Rn_split.1 hd
 rw [Rn_one_iff] at hx
 obtain ⟨r1, r2, r3, r4, r5, r6⟩ := inv_split.1 h.rn
 have hall := fun t => (mem_list s t).symm.trans (h.all t)
 have htot := h.tot
 rw [tot_list] at htot
 have hlen := h.len2
 rw [list_len] at hlen
 have hdf : ∀ y ∈ d, y.1 + y.2 < x.1 := fun y hy => hdx y hy x (by simp)
 have hno : ¬ (x.1 < s.g.1 + s.g.2 ∧ s.g.1 < x.1 + x.2) := by simpa [meetB] using hm
 have hok := hx
 unfold okG at hok r2 h0
 have hgin := h.gin
 have hap : ∀ t, inG x t → ¬ inG s.g t := by
  intro t h1 h2
  unfold inG at h1 h2
  omega
 have happ : ∀ t, ¬ (mem (d ++ [x]) t ∧ inG g0 t) := by
  rintro t ⟨h1, h2⟩
  rcases (mem_append _ _ _).1 h1 with h3 | h3
  ·exact h.apart t ⟨h3, h2⟩
  ·refine hap t ((mem_one _ _).1 h3) ?_
   unfold inG at h2 ⊢
   omega
 have hb1 : ∀ y ∈ s.bef, y.1 + y.2 < x.1 := fun y hy => hdf y (h.from1 y hy)
 have hb2 : ∀ y ∈ s.beh, y.1 + y.2 < x.1 := fun y hy => hdf y (h.from2 y hy)
 have hmemx : ∀ t, mem (d ++ [x]) t ↔ mem d t ∨ inG x t := fun t => by rw [mem_append, mem_one]
 have hbeh : x.1 ≤ s.g.1 + s.g.2 → s.beh = [] := by
  intro hle
  cases hbe : s.beh with
  | nil => rfl
  | cons y ys =>
   exfalso
   have hy : y ∈ s.beh := by rw [hbe]; simp
   have e1 := r5 y hy
   have e2 := hb2 y hy
   have e3 := r3.1 y hy
   unfold okG at e3
   omega
 unfold stepT
 by_cases c1 : x.1 + x.2 = s.g.1
 ·rw [if_pos c1]
  have hbe := hbeh (by omega)
  refine ⟨inv_split.2 ⟨r1, by unfold okG; simp only []; omega, r3, fun y hy => hb1 y hy, by rw [hbe]; simp, r6⟩, ?_, fun y hy => by simp [h.from1 y hy], fun y hy => by simp [h.from2 y hy], happ, list_len _, by rw [list_len]; simp; omega, by rw [tot_list, tot_append, tot_one]; simp only []; omega, by simp only []; omega⟩
  intro t
  rw [mem_list, hmemx, or_right_comm, ← hall t]
  have : inG (x.1, x.2 + s.g.2) t ↔ inG x t ∨ inG s.g t := by unfold inG; simp only []; omega
  rw [this]
  constructor
  ·rintro (h1 | (h1 | h1) | h1)
   ·exact .inl (.inl h1)
   ·exact .inr h1
   ·exact .inl (.inr (.inl h1))
   ·exact .inl (.inr (.inr h1))
  ·rintro ((h1 | h1 | h1) | h1)
   ·exact .inl h1
   ·exact .inr (.inl (.inr h1))
   ·exact .inr (.inr h1)
   ·exact .inr (.inl (.inl h1))
 ·rw [if_neg c1]
  by_cases c2 : s.g.1 + s.g.2 = x.1
  ·rw [if_pos c2]
   have hbe := hbeh (by omega)
   refine ⟨inv_split.2 ⟨r1, by unfold okG; simp only []; omega, r3, r4, by rw [hbe]; simp, r6⟩, ?_, fun y hy => by simp [h.from1 y hy], fun y hy => by simp [h.from2 y hy], happ, list_len _, by rw [list_len]; simp; omega, by rw [tot_list, tot_append, tot_one]; simp only []; omega, by simp only []; omega⟩
   intro t
   rw [mem_list, hmemx, or_right_comm, ← hall t]
   have : inG (s.g.1, s.g.2 + x.2) t ↔ inG x t ∨ inG s.g t := by unfold inG; simp only []; omega
   rw [this]
   constructor
   ·rintro (h1 | (h1 | h1) | h1)
    ·exact .inl (.inl h1)
    ·exact .inr h1
    ·exact .inl (.inr (.inl h1))
    ·exact .inl (.inr (.inr h1))
   ·rintro ((h1 | h1 | h1) | h1)
    ·exact .inl h1
    ·exact .inr (.inl (.inr h1))
    ·exact .inr (.inr h1)
    ·exact .inr (.inl (.inl h1))
  ·rw [if_neg c2]
   by_cases c3 : x.1 < s.g.1
   ·rw [if_pos c3]
    have hbe := hbeh (by omega)
    refine ⟨inv_split.2 ⟨Rn_split.2 ⟨r1, Rn_one hx, fun y hy z hz => by rw [mem1 hz]; exact hb1 y hy⟩, by unfold okG; simp only []; omega, r3, fun y hy => ?_, r5, by simp only [hbe]; simp⟩, ?_, ?_, fun y hy => by simp [h.from2 y hy], happ, list_len _, by rw [list_len]; simp; omega, by rw [tot_list, tot_append, tot_one, tot_append, tot_one]; simp only []; omega, hgin⟩
    ·rcases List.mem_append.1 hy with h1 | h1
     ·exact r4 y h1
     ·obtain rfl : y = x := by simpa using h1
      simp only []
      omega
    ·intro t
     rw [mem_list, hmemx, or_right_comm, ← hall t, mem_append, mem_one]
     constructor
     ·rintro ((h1 | h1) | h1 | h1)
      ·exact .inl (.inl h1)
      ·exact .inr h1
      ·exact .inl (.inr (.inl h1))
      ·exact .inl (.inr (.inr h1))
     ·rintro ((h1 | h1 | h1) | h1)
      ·exact .inl (.inl h1)
      ·exact .inr (.inl h1)
      ·exact .inr (.inr h1)
      ·exact .inl (.inr h1)
    ·intro y hy
     rcases List.mem_append.1 hy with h1 | h1
     ·simp [h.from1 y h1]
     ·obtain rfl : y = x := by simpa using h1
      simp
   ·rw [if_neg c3]
    refine ⟨inv_split.2 ⟨r1, by unfold okG; simp only []; omega, Rn_split.2 ⟨r3, Rn_one hx, fun y hy z hz => by rw [mem1 hz]; exact hb2 y hy⟩, r4, fun y hy => ?_, fun z hz y hy => ?_⟩, ?_, fun y hy => by simp [h.from1 y hy], ?_, happ, list_len _, by rw [list_len]; simp; omega, by rw [tot_list, tot_append, tot_one, tot_append, tot_one]; simp only []; omega, hgin⟩
    ·rcases List.mem_append.1 hy with h1 | h1
     ·exact r5 y h1
     ·obtain rfl : y = x := by simpa using h1
      simp only []
      omega
    ·rcases List.mem_append.1 hy with h1 | h1
     ·exact r6 z hz y h1
     ·obtain rfl : y = x := by simpa using h1
      exact hb1 z hz
    ·intro t
     rw [mem_list, hmemx, or_right_comm, ← hall t, mem_append, mem_one]
     constructor
     ·rintro (h1 | h1 | h1 | h1)
      ·exact .inl (.inl h1)
      ·exact .inl (.inr (.inl h1))
      ·exact .inl (.inr (.inr h1))
      ·exact .inr h1
     ·rintro ((h1 | h1 | h1) | h1)
      ·exact .inl h1
      ·exact .inr (.inl h1)
      ·exact .inr (.inr (.inl h1))
      ·exact .inr (.inr (.inr h1))
    ·intro y hy
     rcases List.mem_append.1 hy with h1 | h1
     ·simp [h.from2 y h1]
     ·obtain rfl : y = x := by simpa using h1
      simp
theorem inv_meet {d : List G} {g0 x : G} {s : St} (h : Inv d g0 s) (hd : Rn (d ++ [x])) (hm : meetB x s.g = true) : ∃ t, inG x t ∧ inG g0 t := by
 obtain ⟨hd1, hx, hdx⟩ := Rn_split.1 hd
 rw [Rn_one_iff] at hx
 obtain ⟨r1, r2, r3, r4, r5, r6⟩ := inv_split.1 h.rn
 have hh : x.1 < s.g.1 + s.g.2 ∧ s.g.1 < x.1 + x.2 := by simpa [meetB] using hm
 have hok := hx
 unfold okG at hok r2
 -- a time of both
 have key : ∃ t, inG x t ∧ inG s.g t := by
  rcases Int.le_total x.1 s.g.1 with h1 | h1
  ·exact ⟨s.g.1, by unfold inG; omega, by unfold inG; omega⟩
  ·exact ⟨x.1, by unfold inG; omega, by unfold inG; omega⟩
 obtain ⟨t, h1, h2⟩ := key
 rcases (h.all t).1 ((mem_list _ _).2 (.inr (.inl h2))) with h3 | h3
 ·exfalso
  obtain ⟨y, hy, hi⟩ := h3
  have := hdx y hy x (by simp)
  unfold inG at h1 hi
  omega
 ·exact ⟨t, h1, h3⟩
theorem good_tog {l : List G} {g : G} {s : St} (h : Inv l g s) : Good l [g] s.list :=
 ⟨h.rn, fun t => by rw [mem_one]; exact h.all t, fun t => by rw [mem_one]; exact h.apart t, by have := h.len2; simpa using this, by rw [tot_one]; exact h.tot⟩
theorem exists_one {l : List G} {g : G} (hl : Rn l) (hg : okG g) (ha : ∀ t, ¬ (mem l t ∧ inG g t)) : ∃ s, Inv l g s := by
 have key : ∀ n, n ≤ l.length → ∃ s, Inv (l.take n) g s := by
  intro n
  induction n with
  | zero => intro _; exact ⟨_, by simpa using inv_start hg⟩
  | succ n ih =>
   intro hn
   obtain ⟨s, hs⟩ := ih (by omega)
   have hlt : n < l.length := by omega
   have e : l.take (n + 1) = l.take n ++ [l[n]] := by rw [List.take_succ_eq_append_getElem hlt]
   have hR : Rn (l.take n ++ [l[n]]) := by
    rw [← e]
    exact (Rn_split.1 (show Rn (l.take (n + 1) ++ l.drop (n + 1)) by rw [List.take_append_drop]; exact hl)).1
   rw [e]
   by_cases hm : meetB l[n] s.g = true
   ·obtain ⟨t, h1, h2⟩ := inv_meet hs hR hm
    exact absurd ⟨⟨l[n], List.getElem_mem _, h1⟩, h2⟩ (ha t)
   ·exact ⟨_, inv_step hs hR (by simpa using hm) hg⟩
 obtain ⟨s, hs⟩ := key l.length (by omega)
 rw [List.take_length] at hs
 exact ⟨s, hs⟩
theorem good_snoc {a b l m : List G} {g : G} (h1 : Good a b l) (h2 : Good l [g] m) (hb : Rn (b ++ [g])) : Good a (b ++ [g]) m := by
 obtain ⟨_, hg, hbg⟩ := Rn_split.1 hb
 refine ⟨h2.rn, fun t => ?_, fun t => ?_, ?_, ?_⟩
 ·rw [h2.all, h1.all, mem_append, or_assoc]
 ·rintro ⟨h3, h4⟩
  rcases (mem_append _ _ _).1 h4 with h5 | h5
  ·exact h1.apart t ⟨h3, h5⟩
  ·exact h2.apart t ⟨(h1.all t).2 (.inl h3), h5⟩
 ·have := h1.len; have := h2.len; simp at this ⊢; omega
 ·rw [h2.tot, h1.tot, tot_append]; omega
theorem exists_uni {a b : List G} (ha : Rn a) (hb : Rn b) (hab : ∀ t, ¬ (mem a t ∧ mem b t)) : ∃ l, Good a b l := by
 have key : ∀ n, n ≤ b.length → ∃ l, Good a (b.take n) l := by
  intro n
  induction n with
  | zero => intro _; exact ⟨a, by simpa using ⟨ha, fun t => by simp [mem_nil], fun t h => mem_nil t h.2, by simp, by simp [tot_nil]⟩⟩
  | succ n ih =>
   intro hn
   obtain ⟨l, hl⟩ := ih (by omega)
   have hlt : n < b.length := by omega
   have e : b.take (n + 1) = b.take n ++ [b[n]] := by rw [List.take_succ_eq_append_getElem hlt]
   have hR : Rn (b.take n ++ [b[n]]) := by
    rw [← e]
    exact (Rn_split.1 (show Rn (b.take (n + 1) ++ b.drop (n + 1)) by rw [List.take_append_drop]; exact hb)).1
   have hg : okG b[n] := hb.1 _ (List.getElem_mem _)
   obtain ⟨s, hs⟩ := exists_one hl.rn hg (by
    rintro t ⟨h1, h2⟩
    rcases (hl.all t).1 h1 with h3 | h3
    ·exact hab t ⟨h3, ⟨b[n], List.getElem_mem _, h2⟩⟩
    ·obtain ⟨y, hy, hi⟩ := h3
     have := (Rn_split.1 hR).2.2 y hy b[n] (by simp)
     unfold inG at hi h2
     omega)
   rw [e]
   exact ⟨_, good_snoc hl (good_tog hs) hR⟩
 obtain ⟨l, hl⟩ := key b.length (by omega)
 rw [List.take_length] at hl
 exact ⟨l, hl⟩
theorem uni_true {a b : List G} (ha : Rn a) (hb : Rn b) (hab : ∀ t, ¬ (mem a t ∧ mem b t)) : (uni a b).2 = true := by
 obtain ⟨l, h⟩ := exists_uni ha hb hab
 rw [uni_yes h]
theorem uni_false {a b : List G} (ha : Rn a) (hb : Rn b) (h : (uni a b).2 = false) : ∃ t, mem a t ∧ mem b t := by
 apply Classical.byContradiction
 intro hn
 have := uni_true ha hb (fun t ht => hn ⟨t, ht⟩)
 rw [h] at this
 cases this
end Runs
namespace Runs
set_option linter.unusedVariables false
structure UInv (p q r s out : List G) : Prop where
 rn : Rn out
 all : ∀ t, mem out t ↔ mem p t ∨ mem q t
 apart : ∀ t, ¬ (mem p t ∧ mem q t)
 hr : ∀ x ∈ r, ∀ y ∈ out, y.1 ≤ x.1
 hs : ∀ x ∈ s, ∀ y ∈ out, y.1 ≤ x.1
 len : out.length ≤ p.length + q.length
 tot : tot out = tot p + tot q
theorem UInv.symm {p q r s out : List G} (h : UInv p q r s out) : UInv q p s r out :=
 ⟨h.rn, fun t => (h.all t).trans or_comm, fun t ⟨h1, h2⟩ => h.apart t ⟨h2, h1⟩, h.hs, h.hr, by have := h.len; omega, by have := h.tot; omega⟩
theorem UInv.start (r s : List G) : UInv [] [] r s [] :=
 ⟨Rn_nil, fun t => by simp [mem_nil], fun t h => mem_nil t h.1, by simp, by simp, by simp, by simp [tot_nil]⟩
theorem UInv.done {p q out : List G} (h : UInv p q [] [] out) : Good p q out := ⟨h.rn, h.all, h.apart, h.len, h.tot⟩
theorem take_next {p r q s out : List G} {x : G} (h : UInv p q (x :: r) s out) (hp : Rn (p ++ x :: r)) (hx : ∀ y ∈ s, x.1 ≤ y.1) (hne : ∀ y ∈ out, y.1 + y.2 < x.1) : UInv (p ++ [x]) q r s (out ++ [x]) := by
 obtain ⟨h1, h2, h3⟩ := Rn_split.1 hp
 have hok := h2.head
 refine ⟨Rn_split.2 ⟨h.rn, Rn_one hok, fun y hy z hz => by rw [mem1 hz]; exact hne y hy⟩, fun t => ?_, ?_, ?_, ?_, ?_, ?_⟩
 ·rw [mem_append, mem_append, h.all, or_right_comm]
 ·rintro t ⟨h4, h5⟩
  rcases (mem_append _ _ _).1 h4 with h6 | h6
  ·exact h.apart t ⟨h6, h5⟩
  ·obtain ⟨y, hy, hi⟩ := (h.all t).2 (.inr h5)
   have := hne y hy
   rw [mem_one] at h6
   unfold inG at hi h6
   omega
 ·intro z hz y hy
  rcases List.mem_append.1 hy with h6 | h6
  ·exact h.hr z (by simp [hz]) y h6
  ·rw [mem1 h6]
   have := h2.first z (by simp [hz])
   exact this
 ·intro z hz y hy
  rcases List.mem_append.1 hy with h6 | h6
  ·exact h.hs z hz y h6
  ·rw [mem1 h6]
   exact hx z hz
 ·have := h.len; simp; omega
 ·rw [tot_append, tot_append, h.tot, tot_one]; omega
theorem take_join {p r q s o : List G} {x l : G} (h : UInv p q (x :: r) s (o ++ [l])) (hp : Rn (p ++ x :: r)) (hx : ∀ y ∈ s, x.1 ≤ y.1) (he : x.1 = l.1 + l.2) : UInv (p ++ [x]) q r s (o ++ [(l.1, l.2 + x.2)]) := by
 obtain ⟨h1, h2, h3⟩ := Rn_split.1 hp
 obtain ⟨g1, g2, g3⟩ := Rn_split.1 h.rn
 rw [Rn_one_iff] at g2
 have hok := h2.head
 have htot := h.tot
 rw [tot_append, tot_one] at htot
 have hol : ∀ y ∈ o, y.1 + y.2 < l.1 := fun y hy => g3 y hy l (by simp)
 have hin : ∀ t, inG (l.1, l.2 + x.2) t ↔ inG l t ∨ inG x t := by
  intro t
  unfold inG okG at *
  simp only []
  omega
 refine ⟨Rn_split.2 ⟨g1, Rn_one (by unfold okG at *; simp only []; omega), fun y hy z hz => by rw [mem1 hz]; exact hol y hy⟩, fun t => ?_, ?_, ?_, ?_, ?_, ?_⟩
 ·rw [mem_append, mem_one, hin, mem_append, mem_one, or_right_comm, ← h.all, mem_append, mem_one, or_assoc]
 ·rintro t ⟨h4, h5⟩
  rcases (mem_append _ _ _).1 h4 with h6 | h6
  ·exact h.apart t ⟨h6, h5⟩
  ·have := (h.all t).2 (.inr h5)
   rw [mem_one] at h6
   rw [mem_append, mem_one] at this
   unfold okG at *
   rcases this with ⟨y, hy, hi⟩ | hi
   ·have := hol y hy
    unfold inG at hi h6
    omega
   ·unfold inG at hi h6
    omega
 ·intro z hz y hy
  rcases List.mem_append.1 hy with h6 | h6
  ·exact h.hr z (by simp [hz]) y (by simp [h6])
  ·rw [mem1 h6]
   exact h.hr z (by simp [hz]) l (by simp)
 ·intro z hz y hy
  rcases List.mem_append.1 hy with h6 | h6
  ·exact h.hs z hz y (by simp [h6])
  ·rw [mem1 h6]
   exact h.hs z hz l (by simp)
 ·have := h.len; simp at this ⊢; omega
 ·rw [tot_append, tot_append, tot_one, tot_one]; simp only []; omega
theorem take_meet {p r q s o : List G} {x l : G} (h : UInv p q (x :: r) s (o ++ [l])) (hp : Rn (p ++ x :: r)) (he : x.1 < l.1 + l.2) : mem q x.1 := by
 obtain ⟨h1, h2, h3⟩ := Rn_split.1 hp
 have hl := h.hr x (by simp) l (by simp)
 have hm : mem (o ++ [l]) x.1 := (mem_append _ _ _).2 (.inr ((mem_one _ _).2 ⟨hl, he⟩))
 rcases (h.all x.1).1 hm with h4 | h4
 ·exfalso
  obtain ⟨y, hy, hi⟩ := h4
  have := h3 y hy x (by simp)
  unfold inG at hi
  omega
 ·exact h4
theorem last_end {o : List G} {l x : G} (h : Rn (o ++ [l])) (hx : l.1 + l.2 < x.1) : ∀ y ∈ o ++ [l], y.1 + y.2 < x.1 := by
 obtain ⟨g1, g2, g3⟩ := Rn_split.1 h
 rw [Rn_one_iff] at g2
 intro y hy
 rcases List.mem_append.1 hy with h6 | h6
 ·have := g3 y h6 l (by simp)
  unfold okG at g2
  omega
 ·rw [mem1 h6]; exact hx
theorem mem_take {l : List G} {n : Nat} {t : Int} (h : mem (l.take n) t) : mem l t := by
 obtain ⟨y, hy, hi⟩ := h
 exact ⟨y, List.mem_of_mem_take hy, hi⟩
theorem Rn_take_drop {l : List G} {i : Nat} (h : Rn l) (hi : i < l.length) : Rn (l.take i ++ l[i] :: l.drop (i + 1)) := by
 rw [← List.drop_eq_getElem_cons hi, List.take_append_drop]
 exact h
theorem stepA {a b out : List G} {i j : Nat} (h : UInv (a.take i) (b.take j) (a.drop i) (b.drop j) out) (ha : Rn a) (hb : Rn b) (hi : i < a.length) (hx : ∀ (h : j < b.length), a[i].1 ≤ b[j].1) :
 (out = [] → UInv (a.take (i + 1)) (b.take j) (a.drop (i + 1)) (b.drop j) [a[i]]) ∧
 (∀ o l, out = o ++ [l] → (a[i].1 < l.1 + l.2 → uni a b = ([], false)) ∧ (a[i].1 = l.1 + l.2 → UInv (a.take (i + 1)) (b.take j) (a.drop (i + 1)) (b.drop j) (o ++ [(l.1, l.2 + a[i].2)])) ∧ (l.1 + l.2 < a[i].1 → UInv (a.take (i + 1)) (b.take j) (a.drop (i + 1)) (b.drop j) (out ++ [a[i]]))) := by
 have hR := Rn_take_drop ha hi
 have hx' : ∀ y ∈ b.drop j, a[i].1 ≤ y.1 := by
  intro y hy
  by_cases hj : j < b.length
  ·rw [List.drop_eq_getElem_cons hj] at hy
   have hRb := (Rn_split.1 (Rn_take_drop hb hj)).2.1
   exact Int.le_trans (hx hj) (hRb.first y hy)
  ·rw [List.drop_of_length_le (by omega)] at hy
   cases hy
 rw [List.drop_eq_getElem_cons hi] at h
 rw [List.take_succ_eq_append_getElem hi]
 refine ⟨?_, ?_⟩
 ·rintro rfl
  exact take_next h hR hx' (by simp)
 ·rintro o l rfl
  refine ⟨fun he => ?_, fun he => take_join h hR hx' he, fun he => take_next h hR hx' (last_end h.rn he)⟩
  exact uni_no (t := a[i].1) ⟨a[i], List.getElem_mem _, ok_in (ha.1 _ (List.getElem_mem _))⟩ (mem_take (take_meet h hR he))
theorem stepB {a b out : List G} {i j : Nat} (h : UInv (a.take i) (b.take j) (a.drop i) (b.drop j) out) (ha : Rn a) (hb : Rn b) (hj : j < b.length) (hx : ∀ (h : i < a.length), b[j].1 ≤ a[i].1) :
 (out = [] → UInv (a.take i) (b.take (j + 1)) (a.drop i) (b.drop (j + 1)) [b[j]]) ∧
 (∀ o l, out = o ++ [l] → (b[j].1 < l.1 + l.2 → uni a b = ([], false)) ∧ (b[j].1 = l.1 + l.2 → UInv (a.take i) (b.take (j + 1)) (a.drop i) (b.drop (j + 1)) (o ++ [(l.1, l.2 + b[j].2)])) ∧ (l.1 + l.2 < b[j].1 → UInv (a.take i) (b.take (j + 1)) (a.drop i) (b.drop (j + 1)) (out ++ [b[j]]))) := by
 obtain ⟨h1, h2⟩ := stepA h.symm hb ha hj hx
 refine ⟨fun e => (h1 e).symm, fun o l e => ?_⟩
 obtain ⟨h3, h4, h5⟩ := h2 o l e
 exact ⟨fun e => by rw [uni_comm]; exact h3 e, fun e => (h4 e).symm, fun e => (h5 e).symm⟩
theorem uinv_end {a b out : List G} {i j : Nat} (h : UInv (a.take i) (b.take j) (a.drop i) (b.drop j) out) (hi : a.length ≤ i) (hj : b.length ≤ j) : uni a b = (out, true) := by
 rw [List.take_of_length_le hi, List.take_of_length_le hj, List.drop_of_length_le hi, List.drop_of_length_le hj] at h
 exact uni_yes h.done
theorem uinv_start (a b : List G) : UInv (a.take 0) (b.take 0) (a.drop 0) (b.drop 0) [] := by simpa using UInv.start a b
end Runs
