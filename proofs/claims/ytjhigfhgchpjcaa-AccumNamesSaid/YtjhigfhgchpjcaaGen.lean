/-
  Rows of elements of any kind: read, owned, returned; lists that are filled step by step.
-/
import Derived.Test.YtjhigfhgchpjcaaRets
namespace Go.Proofs.Ytjhigfhgchpjcaa
open Go.RowKit
set_option linter.unusedVariables false

/-! ### lists that are filled step by step -/
def partL {α : Type} (f : Nat → α) (d : α) (n k : Nat) : List α := (List.range n).map (fun i => if i < k then f i else d)
def fullL {α : Type} (f : Nat → α) (n : Nat) : List α := (List.range n).map f
theorem partL_len {α : Type} (f : Nat → α) (d : α) (n k : Nat) : (partL f d n k).length = n := by simp [partL]
theorem fullL_len {α : Type} (f : Nat → α) (n : Nat) : (fullL f n).length = n := by simp [fullL]
theorem partL_start {α : Type} (f : Nat → α) (d : α) (n : Nat) : partL f d n 0 = List.replicate n d := by
  apply List.ext_getElem (by simp [partL])
  intro i h1 h2
  simp [partL]
theorem partL_set {α : Type} (f : Nat → α) (d : α) (n k : Nat) (y : α) (hy : y = f k) : (partL f d n k).set k y = partL f d n (k + 1) := by
  subst hy
  apply List.ext_getElem (by simp [partL])
  intro i h1 h2
  simp only [partL, List.getElem_set, List.getElem_map, List.getElem_range]
  by_cases e : k = i
  · subst e; rw [if_pos rfl, if_pos (by omega)]
  · rw [if_neg e]
    by_cases h : i < k
    · rw [if_pos h, if_pos (by omega)]
    · rw [if_neg h, if_neg (by omega)]
theorem partL_end {α : Type} (f : Nat → α) (d : α) (n k : Nat) (h : n ≤ k) : partL f d n k = fullL f n := by
  apply List.ext_getElem (by simp [partL, fullL])
  intro i h1 h2
  have : i < n := by simpa [partL] using h1
  simp only [partL, fullL, List.getElem_map, List.getElem_range]
  rw [if_pos (by omega)]
theorem fullL_zero {α : Type} (f : Nat → α) : fullL f 0 = [] := rfl
theorem fullL_succ {α : Type} (f : Nat → α) (n : Nat) : fullL f (n + 1) = fullL f n ++ [f n] := by simp [fullL, List.range_succ]
theorem fullL_get {α : Type} (f : Nat → α) (n k : Nat) (h : k < (fullL f n).length) : (fullL f n)[k] = f k := by simp [fullL]
theorem fullL_getD {α : Type} (f : Nat → α) (n k : Nat) (d : α) (h : k < n) : (fullL f n).getD k d = f k := by
  rw [getD_lt _ _ (by rw [fullL_len]; exact h), fullL_get]
theorem fullL_congr {α : Type} {f g : Nat → α} {n : Nat} (h : ∀ i, i < n → f i = g i) : fullL f n = fullL g n := by
  apply List.ext_getElem (by simp [fullL])
  intro i h1 h2
  rw [fullL_get, fullL_get]
  exact h i (by simpa [fullL] using h1)
theorem list_ext_getD {α : Type} {d : α} {xs ys : List α} (hl : xs.length = ys.length) (h : ∀ j, j < xs.length → xs.getD j d = ys.getD j d) : xs = ys := by
  apply List.ext_getElem hl
  intro j h1 h2
  have := h j h1
  simpa [List.getD_eq_getElem?_getD, List.getElem?_eq_getElem h1, List.getElem?_eq_getElem h2] using this
theorem list_ne_getD {α : Type} {d : α} [DecidableEq α] {xs ys : List α} {k : Nat} (h : xs.getD k d ≠ ys.getD k d) : decide (xs = ys) = false := by
  simp only [decide_eq_false_iff_not]
  intro e
  exact h (by rw [e])
theorem fullL_id {α : Type} {d : α} (xs : List α) : fullL (fun i => xs.getD i d) xs.length = xs := by
  apply list_ext_getD (d := d) (by simp [fullL])
  intro j hj
  rw [fullL_getD _ _ _ _ (by simpa [fullL] using hj)]

/-! ### rows -/
/-- The slice value '.slice A l.length c' reads as the list l, each element laid by enc in s cells. -/
def RR {α : Type} (enc : α → List Value) (s : Nat) (w : World) (A : Option Addr) (l : List α) : Prop :=
  0 < l.length → ∃ b off, A = some ⟨b, off, none⟩ ∧ b < w.heap.size ∧ ∀ j (hj : j < l.length) i, i < s → w.cell? ⟨b, off + j * s + i, none⟩ = (enc l[j])[i]?
theorem RR.keep {α : Type} {enc : α → List Value} {s : Nat} {w w' : World} {A : Option Addr} {l : List α} (h : RR enc s w A l) (hb : Below w.heap.size w w') : RR enc s w' A l := by
  intro h0
  obtain ⟨b, off, e, hlt, hc⟩ := h h0
  exact ⟨b, off, e, Nat.lt_of_lt_of_le hlt hb.size, fun j hj i hi => (hb.cell (p := ⟨b, off + j * s + i, none⟩) hlt).trans (hc j hj i hi)⟩
theorem RR.nil {α : Type} {enc : α → List Value} {s : Nat} {w : World} {A : Option Addr} : RR enc s w A [] := fun h => absurd h (by simp)
theorem RR.at_ {α : Type} {enc : α → List Value} {s : Nat} {w : World} {A : Option Addr} {l : List α} {k : Nat} (h : RR enc s w A l) (hk : k < l.length) :
    ∃ b off, A = some ⟨b, off, none⟩ ∧ b < w.heap.size ∧ ∀ i, i < s → w.cell? ⟨b, off + k * s + i, none⟩ = (enc l[k])[i]? := by
  obtain ⟨b, off, e, hlt, hc⟩ := h (by omega)
  exact ⟨b, off, e, hlt, fun i hi => hc k hk i hi⟩
theorem own_RR {α : Type} {enc : α → List Value} {s : Nat} (hs : ∀ x, (enc x).length = s) {w : World} {base : Nat} {e : TypeId} {A : Option Addr} {c : Nat} {l : List α} (h : w.ownsRow base e s (.slice A l.length c) l.length (l.flatMap enc)) : RR enc s w A l := by
  intro h0
  obtain ⟨g, rfl, _, hg⟩ := own_some h h0
  refine ⟨g, 0, rfl, hg, fun j hj i hi => ?_⟩
  rw [Nat.zero_add]
  exact own_at hs h hj hi
theorem blk_RR {α : Type} {enc : α → List Value} {s : Nat} (hs : ∀ x, (enc x).length = s) {w : World} {e : TypeId} {g : Nat} {l : List α} (h : Blk w g e (l.flatMap enc).toArray) : RR enc s w (some ⟨g, 0, none⟩) l := by
  intro h0
  refine ⟨g, 0, rfl, h.lt, fun j hj i hi => ?_⟩
  rw [Nat.zero_add, h.cell]
  have := flat_get enc s hs l j i hi hj
  simpa using this
theorem RR_lit {α : Type} {enc : α → List Value} {s : Nat} (hs : ∀ x, (enc x).length = s) {W : World} {A : Option Addr} {g : Nat} {t : TypeId} (l : List α) (cs : Array Value) (hA : A = some ⟨g, 0, none⟩) (h : Blk W g t cs) (hc : cs = (l.flatMap enc).toArray) : RR enc s W A l := by
  subst hA; subst hc; exact blk_RR hs h
/-- A new row and an error code. -/
def RetR {α : Type} (enc : α → List Value) (s : Nat) (t : TypeId) (w : World) (r : List α × Int) (e : Ending) (w' : World) : Prop :=
  ∃ A c, e = .returned (.tuple #[.slice A r.1.length c, .int .i64 r.2]) ∧ w'.ownsRow w.heap.size t s (.slice A r.1.length c) r.1.length (r.1.flatMap enc) ∧ Below w.heap.size w w'
theorem RetR.nil {α : Type} {enc : α → List Value} {s : Nat} {t : TypeId} {w w' : World} {x : Int} {r : List α × Int} (hr : r = ([], x)) (hb : Below w.heap.size w w') : RetR enc s t w r (.returned (.tuple #[.slice none 0 0, .int .i64 x])) w' := by
  subst hr
  exact ⟨none, 0, rfl, World.ownsRow_nil _ _ _ _, hb⟩
theorem RetR.own {α : Type} {enc : α → List Value} {s : Nat} {t : TypeId} {w w' : World} {v : Value} {n : Nat} {l : List α} {x : Int} {r : List α × Int} (hr : r = (l, x)) (hn : l.length = n) (h : w'.ownsRow w.heap.size t s v n (l.flatMap enc)) (hb : Below w.heap.size w w') :
    RetR enc s t w r (.returned (.tuple #[v, .int .i64 x])) w' := by
  subst hr; subst hn
  obtain ⟨A, c, rfl⟩ := own_shape h
  exact ⟨A, c, rfl, h, hb⟩
theorem RetR.blk {α : Type} {enc : α → List Value} {s : Nat} (hs : ∀ x, (enc x).length = s) {t : TypeId} {w w' : World} {g n : Nat} {l : List α} {x : Int} {r : List α × Int} (hr : r = (l, x)) (hn : l.length = n) (hm : n ≤ maxLen) (h : Blk w' g t (l.flatMap enc).toArray) (hg : w.heap.size ≤ g) (hb : Below w.heap.size w w') :
    RetR enc s t w r (.returned (.tuple #[.slice (some ⟨g, 0, none⟩) n n, .int .i64 x])) w' := by
  subst hr; subst hn
  refine ⟨_, _, rfl, ?_, hb⟩
  have := own_blk (size := s) (n := l.length) h hg (by simp [flat_len enc s hs]) hm
  simpa using this
theorem RetR.read {α : Type} {enc : α → List Value} {s : Nat} {t : TypeId} {w w' : World} {r : List α × Int} {e : Ending} (hs : ∀ x, (enc x).length = s) (h : RetR enc s t w r e w') : ∃ A c, e = .returned (.tuple #[.slice A r.1.length c, .int .i64 r.2]) ∧ RR enc s w' A r.1 ∧ Below w.heap.size w w' := by
  obtain ⟨A, c, h1, h2, h3⟩ := h
  exact ⟨A, c, h1, own_RR hs h2, h3⟩
theorem RetQ.blk {t : TypeId} {w w' : World} {g n : Nat} {l : List (Int × Int)} {x : Int} {r : List (Int × Int) × Int} (hr : r = (l, x)) (hn : l.length = n) (hm : n ≤ maxLen) (h : Blk w' g t (l.flatMap encP).toArray) (hg : w.heap.size ≤ g) (hb : Below w.heap.size w w') :
    RetQ t w r (.returned (.tuple #[.slice (some ⟨g, 0, none⟩) n n, .int .i64 x])) w' := RetR.blk encP_len hr hn hm h hg hb
theorem own_emptyR {w : World} {base s : Nat} (e : TypeId) (h : base ≤ w.heap.size) : (w.alloc (.cells #[] e)).ownsRow base e s (.slice (some ⟨w.heap.size, 0, none⟩) 0 0) 0 [] := by
  have := own_blk (size := s) (n := 0) (Blk.new w e #[]) h (by simp) (by unfold maxLen; omega)
  simpa using this
theorem enc_news {w : World} {cs : Array Value} {l : List Value} (t : TypeId) (h : cs = l.toArray) : ∀ j u, l[j]? = some u → (w.alloc (.cells cs t)).cell? ((⟨w.heap.size, 0, none⟩ : Addr).add j) = some u := by
  subst h
  exact World.news_of_block (cs := l.toArray) (t := t) (fr := (0, 0)) (heap_alloc_new w _)
theorem quiet_add_left {P : Program} {f : FuncId} {args : Array Value} {w : World} {a n : Nat} {v : Value}
    (h : Calls P f args (w.drewN (a + n)) fun e w' => e = .returned v ∧ w.drewN (a + n) = w') :
    Calls P f args (w.drewN (a + n)) fun e w'' => e = .returned v ∧ ∃ m, w'' = w.drewN (a + m) :=
  h.mono fun _ _ ⟨he, hm⟩ => ⟨he, n, hm.symm⟩
theorem bset {w W : World} (h : Below w.heap.size w W) {p : Addr} (hp : w.heap.size ≤ p.block) (u : Value) : Below w.heap.size w (W.setCell p u) := h.setCell hp u
end Go.Proofs.Ytjhigfhgchpjcaa
