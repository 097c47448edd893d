/-
  Two rows of blocks that grow beside one another (the reference's Put).
-/
import Derived.Test.YtbejkfeloffccaaAlignPA
namespace Go.Proofs.Ytbejkfeloffccaa
open Go.RowKit
set_option linter.unusedVariables false
set_option linter.unusedSimpArgs false

structure PutI (n0 : Nat) (wr : World) (v1 v2 : Value) (lo lb : List (Int × List Int)) : Prop where
  o : ∃ raws, wr.ownsRow n0 47 2 v1 lo.length (raws.flatMap encK) ∧ Elems n0 wr v1.ownBlock raws lo ∧ Elems n0 wr v2.ownBlock raws lo
  b : ∃ raws, wr.ownsRow n0 47 2 v2 lb.length (raws.flatMap encK) ∧ Elems n0 wr v2.ownBlock raws lb ∧ Elems n0 wr v1.ownBlock raws lb
  ap : ∀ g, v1.ownBlock = some g → v2.ownBlock ≠ some g
theorem PutI.nil {n0 : Nat} {wr : World} : PutI n0 wr (.slice none 0 0) (.slice none 0 0) [] [] :=
  ⟨⟨[], World.ownsRow_nil _ _ _ _, Elems.nil, Elems.nil⟩, ⟨[], World.ownsRow_nil _ _ _ _, Elems.nil, Elems.nil⟩, by intro g h; cases h⟩
theorem PutI.swap {n0 : Nat} {wr : World} {v1 v2 : Value} {lo lb : List (Int × List Int)} (h : PutI n0 wr v1 v2 lo lb) : PutI n0 wr v2 v1 lb lo := ⟨h.b, h.o, fun g h1 h2 => h.ap g h2 h1⟩
theorem PutI.keep {n0 : Nat} {wr w' : World} {v1 v2 : Value} {lo lb : List (Int × List Int)} (h : PutI n0 wr v1 v2 lo lb) (hb : Below wr.heap.size wr w') : PutI n0 w' v1 v2 lo lb := by
  obtain ⟨ra, a1, a2, a3⟩ := h.o
  obtain ⟨rb, b1, b2, b3⟩ := h.b
  exact ⟨⟨ra, own_keep a1 hb, a2.keep hb, a3.keep hb⟩, ⟨rb, own_keep b1 hb, b2.keep hb, b3.keep hb⟩, h.ap⟩
theorem PutI.push {n0 : Nat} {wr w1 w4 : World} {v1 v2 : Value} {lo lb : List (Int × List Int)} {raws : List (Int × Value)} {a : Int} {A : Option Addr} {c g4 c4 : Nat} {xs : List Int} {o : Obj}
    (h : PutI n0 wr v1 v2 lo lb) (hE1 : Elems n0 wr v1.ownBlock raws lo) (hE2 : Elems n0 wr v2.ownBlock raws lo) (h0 : n0 ≤ wr.heap.size) (hb : Below wr.heap.size wr w1) (r : RIo wr.heap.size w1 A xs) (hc : xs.length ≤ c)
    (hown4 : w4.ownsRow n0 47 2 (.slice (some ⟨g4, 0, none⟩) (lo.length + 1) c4) (lo.length + 1) (raws.flatMap encK ++ encK (a, .slice A xs.length c)))
    (hgrow : (w1.alloc o).grownBy w4 v1.ownBlock) (hat : v1.ownBlock = some g4 ∨ g4 = w1.heap.size + 1) :
    PutI n0 w4 (.slice (some ⟨g4, 0, none⟩) (lo.length + 1) c4) v2 (lo ++ [(a, xs)]) lb := by
  obtain ⟨ra, hO', _, _⟩ := h.o
  obtain ⟨rb, hOb, hB1, hB2⟩ := h.b
  have ha : Below w1.heap.size w1 (w1.alloc o) := balloc (Below.refl _ _) o
  have hw := bstep hb ha
  have r1 := (r.mono h0).keep ha
  have n1 := r.apart hO' (Nat.le_refl _)
  have n2 := r.apart hOb (Nat.le_refl _)
  have E1 := (hE1.keep hw).snoc (a := a) r1 hc n1
  have E2 := (hE2.keep hw).snoc (a := a) r1 hc n2
  have hat' : (some g4 : Option Nat) = v1.ownBlock ∨ ∃ H, (some g4 : Option Nat) = some H ∧ (w1.alloc o).heap.size ≤ H := by
    rcases hat with e | e
    · exact .inl e.symm
    · exact .inr ⟨g4, rfl, by simp; omega⟩
  have eo : (Value.slice (some ⟨g4, 0, none⟩) (lo.length + 1) c4).ownBlock = some g4 := by simp [Value.ownBlock]
  refine ⟨⟨raws ++ [(a, .slice A xs.length c)], ?_, by rw [eo]; exact E1.grown hgrow hat', E1.turn E2 hgrow⟩, ⟨rb, kept_apart (e' := 0) (s' := 1) (m := 0) (ys := []) (own_keep hOb hw) hgrow h.ap, (hB2.keep hw).turn (hB1.keep hw) hgrow, by rw [eo]; exact (hB2.keep hw).grown hgrow hat'⟩, ?_⟩
  · simp only [List.length_append, List.length_singleton]
    rw [flat_snoc]
    exact hown4
  · intro b hb2
    simp only [Value.ownBlock, Option.some.injEq] at hb2
    subst hb2
    exact apart_one (H := w1.heap.size + 1) (own_keep hOb hw) h.ap hat (by simp)
theorem Elems.app {base : Nat} {w : World} {own : Option Nat} {ra rb : List (Int × Value)} {la lb : List (Int × List Int)} (h1 : Elems base w own ra la) (h2 : Elems base w own rb lb) : Elems base w own (ra ++ rb) (la ++ lb) := by
  refine ⟨by simp [h1.1, h2.1], fun j k1 k2 => ?_⟩
  rcases Nat.lt_or_ge j ra.length with h3 | h3
  · rw [List.getElem_append_left h3, List.getElem_append_left (by rw [← h1.1]; exact h3)]
    exact h1.2 j h3 (by rw [← h1.1]; exact h3)
  · have h4 : la.length ≤ j := by rw [← h1.1]; exact h3
    rw [List.getElem_append_right h3, List.getElem_append_right h4]
    have k3 : j - ra.length < rb.length := by simp at k1; omega
    have k4 : j - la.length < lb.length := by simp at k2; omega
    have e : j - ra.length = j - la.length := by rw [h1.1]
    have := h2.2 (j - la.length) (by rw [← e]; exact k3) k4
    simpa only [e] using this
theorem PutI.done {n0 n : Nat} {w4 w5 : World} {o1 : Option Nat} {v' : Value} {lo lb : List (Int × List Int)} {ra rb : List (Int × Value)} (hn : lo.length + lb.length = n) (hE1 : Elems n0 w4 o1 ra lo) (hE2 : Elems n0 w4 o1 rb lb) (hg : w4.grownBy w5 o1) (ho : v'.ownBlock = o1 ∨ v'.ownBlock = some w4.heap.size)
    (hown : w5.ownsRow n0 47 2 v' n (ra.flatMap encK ++ rb.flatMap encK)) : ∃ A c, v' = .slice A n c ∧ n ≤ c ∧ RBo n0 w5 A (lo ++ lb) := by
  obtain ⟨A, c, rfl, hc⟩ := own_shape' hown
  have E := (hE1.app hE2).grown (own' := (Value.slice A n c).ownBlock) hg (by
    rcases ho with e | e
    · exact .inl e
    · exact .inr ⟨_, e, Nat.le_refl _⟩)
  rw [← List.flatMap_append] at hown
  exact ⟨A, c, rfl, hc, own_RBo hown E (by simp [hE1.1, hE2.1, hn])⟩
theorem RBo.mono {base base' : Nat} {w : World} {A : Option Addr} {l : List (Int × List Int)} (h : RBo base w A l) (hb : base' ≤ base) : RBo base' w A l := by
  intro h0
  obtain ⟨b, off, e, h5, hlt, hc⟩ := h h0
  refine ⟨b, off, e, Nat.le_trans hb h5, hlt, fun j hj => ?_⟩
  obtain ⟨h1, A', c', h2, h3, h4⟩ := hc j hj
  exact ⟨h1, A', c', h2, h3.mono hb, h4⟩
theorem Elems.one {base : Nat} {w : World} {own : Option Nat} {raws : List (Int × Value)} {l : List (Int × List Int)} (h : Elems base w own raws l) : ∀ u ∈ raws.flatMap encK, u.oneCell' = true := by
  intro u hu
  obtain ⟨r, hr, hu2⟩ := List.mem_flatMap.1 hu
  obtain ⟨j, hj, rfl⟩ := List.mem_iff_getElem.1 hr
  obtain ⟨_, A, c, e, _⟩ := h.2 j hj (by rw [← h.1]; exact hj)
  simp only [encK, e, List.mem_cons, List.not_mem_nil, or_false] at hu2
  rcases hu2 with rfl | rfl <;> rfl
theorem own_RIo_len {w : World} {base n : Nat} {e : TypeId} {A : Option Addr} {c : Nat} {l : List Int} (hn : l.length = n) (h : w.ownsRow base e 1 (.slice A n c) n (l.flatMap (encI .i64))) : RIo base w A l := by
  subst hn
  exact own_RIo h
theorem outL_len (l : List (Int × List Int)) (b : Int × List Int) (k : Nat) : (outL l b k).length ≤ l.length := by
  unfold outL
  have h1 := List.length_filter_le (fun x => decide (endB x < b.1)) (l.take k)
  have h2 : (l.take k).length ≤ l.length := by rw [List.length_take]; omega
  omega
theorem behL_len (l : List (Int × List Int)) (b : Int × List Int) (k : Nat) : (behL l b k).length ≤ l.length := by
  unfold behL
  have h1 := List.length_filter_le (fun x => decide (endB b < x.1)) (l.take k)
  have h2 : (l.take k).length ≤ l.length := by rw [List.length_take]; omega
  omega
end Go.Proofs.Ytbejkfeloffccaa
