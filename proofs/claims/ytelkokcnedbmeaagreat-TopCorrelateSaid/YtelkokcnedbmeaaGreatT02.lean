/-
  Parts of the proof of TopCorrelate: Gen Sums LagOfW Copy.
-/
import Derived.Test.YtelkokcnedbmeaaGreatT01
import Derived.Deep.LoopGhost
import Derived.RegionTactic
import Derived.BigRegion
import Derived.Laws.CopyOwn
namespace Go.Proofs.YtelkokcnedbmeaaGreat
open Go.RowKit
set_option maxRecDepth 20000
set_option linter.unusedVariables false
def partL {α : Type} (f : Nat → α) (d : α) (n k : Nat) : List α := (List.range n).map (fun i => if i < k then f i else d)
def fullL {α : Type} (f : Nat → α) (n : Nat) : List α := (List.range n).map f
theorem partL_len {α : Type} (f : Nat → α) (d : α) (n k : Nat) : (partL f d n k).length = n := by simp [partL]
theorem fullL_len {α : Type} (f : Nat → α) (n : Nat) : (fullL f n).length = n := by simp [fullL]
theorem partL_start {α : Type} (f : Nat → α) (d : α) (n : Nat) : partL f d n 0 = List.replicate n d := by
 apply List.ext_getElem (by simp [partL])
 intro i h1 h2
 simp [partL]
theorem partL_set {α : Type} (f : Nat → α) (d : α) (n k : Nat) (y : α) (hy : y = f k) : (partL f d n k).set k y = partL f d n (k + 1) := by
 subst hy
 apply List.ext_getElem (by simp [partL])
 intro i h1 h2
 simp only [partL, List.getElem_set, List.getElem_map, List.getElem_range]
 by_cases e : k = i
 ·subst e; rw [if_pos rfl, if_pos (by omega)]
 ·rw [if_neg e]
  by_cases h : i < k
  ·rw [if_pos h, if_pos (by omega)]
  ·rw [if_neg h, if_neg (by omega)]
theorem partL_end {α : Type} (f : Nat → α) (d : α) (n k : Nat) (h : n ≤ k) : partL f d n k = fullL f n := by
 apply List.ext_getElem (by simp [partL, fullL])
 intro i h1 h2
 have : i < n := by simpa [partL] using h1
 simp only [partL, fullL, List.getElem_map, List.getElem_range]
 rw [if_pos (by omega)]
theorem fullL_succ {α : Type} (f : Nat → α) (n : Nat) : fullL f (n + 1) = fullL f n ++ [f n] := by simp [fullL, List.range_succ]
theorem fullL_get {α : Type} (f : Nat → α) (n k : Nat) (h : k < (fullL f n).length) : (fullL f n)[k] = f k := by simp [fullL]
theorem fullL_getD {α : Type} (f : Nat → α) (n k : Nat) (d : α) (h : k < n) : (fullL f n).getD k d = f k := by
 rw [getD_lt _ _ (by rw [fullL_len]; exact h), fullL_get]
theorem fullL_congr {α : Type} {f g : Nat → α} {n : Nat} (h : ∀ i, i < n → f i = g i) : fullL f n = fullL g n := by
 apply List.ext_getElem (by simp [fullL])
 intro i h1 h2
 rw [fullL_get, fullL_get]
 exact h i (by simpa [fullL] using h1)
theorem list_ext_getD {α : Type} {d : α} {xs ys : List α} (hl : xs.length = ys.length) (h : ∀ j, j < xs.length → xs.getD j d = ys.getD j d) : xs = ys := by
 apply List.ext_getElem hl
 intro j h1 h2
 have := h j h1
 simpa [List.getD_eq_getElem?_getD, List.getElem?_eq_getElem h1, List.getElem?_eq_getElem h2] using this
theorem fullL_id {α : Type} {d : α} (xs : List α) : fullL (fun i => xs.getD i d) xs.length = xs := by
 apply list_ext_getD (d := d) (by simp [fullL])
 intro j hj
 rw [fullL_getD _ _ _ _ (by simpa [fullL] using hj)]
def RR {α : Type} (enc : α → List Value) (s : Nat) (w : World) (A : Option Addr) (l : List α) : Prop :=
 0 < l.length → ∃ b off, A = some ⟨b, off, none⟩ ∧ b < w.heap.size ∧ ∀ j (hj : j < l.length) i, i < s → w.cell? ⟨b, off + j * s + i, none⟩ = (enc l[j])[i]?
theorem RR.at_ {α : Type} {enc : α → List Value} {s : Nat} {w : World} {A : Option Addr} {l : List α} {k : Nat} (h : RR enc s w A l) (hk : k < l.length) :
 ∃ b off, A = some ⟨b, off, none⟩ ∧ b < w.heap.size ∧ ∀ i, i < s → w.cell? ⟨b, off + k * s + i, none⟩ = (enc l[k])[i]? := by
 obtain ⟨b, off, e, hlt, hc⟩ := h (by omega)
 exact ⟨b, off, e, hlt, fun i hi => hc k hk i hi⟩
theorem own_RR {α : Type} {enc : α → List Value} {s : Nat} (hs : ∀ x, (enc x).length = s) {w : World} {base : Nat} {e : TypeId} {A : Option Addr} {c : Nat} {l : List α} (h : w.ownsRow base e s (.slice A l.length c) l.length (l.flatMap enc)) : RR enc s w A l := by
 intro h0
 obtain ⟨g, rfl, _, hg⟩ := own_some h h0
 refine ⟨g, 0, rfl, hg, fun j hj i hi => ?_⟩
 rw [Nat.zero_add]
 exact own_at hs h hj hi
def RetR {α : Type} (enc : α → List Value) (s : Nat) (t : TypeId) (w : World) (r : List α × Int) (e : Ending) (w' : World) : Prop :=
 ∃ A c, e = .returned (.tuple #[.slice A r.1.length c, .int .i64 r.2]) ∧ w'.ownsRow w.heap.size t s (.slice A r.1.length c) r.1.length (r.1.flatMap enc) ∧ Below w.heap.size w w'
theorem RetR.nil {α : Type} {enc : α → List Value} {s : Nat} {t : TypeId} {w w' : World} {x : Int} {r : List α × Int} (hr : r = ([], x)) (hb : Below w.heap.size w w') : RetR enc s t w r (.returned (.tuple #[.slice none 0 0, .int .i64 x])) w' := by
 subst hr
 exact ⟨none, 0, rfl, World.ownsRow_nil _ _ _ _, hb⟩
theorem RetR.own {α : Type} {enc : α → List Value} {s : Nat} {t : TypeId} {w w' : World} {v : Value} {n : Nat} {l : List α} {x : Int} {r : List α × Int} (hr : r = (l, x)) (hn : l.length = n) (h : w'.ownsRow w.heap.size t s v n (l.flatMap enc)) (hb : Below w.heap.size w w') :
 RetR enc s t w r (.returned (.tuple #[v, .int .i64 x])) w' := by
 subst hr; subst hn
 obtain ⟨A, c, rfl⟩ := own_shape h
 exact ⟨A, c, rfl, h, hb⟩
theorem RetR.blk {α : Type} {enc : α → List Value} {s : Nat} (hs : ∀ x, (enc x).length = s) {t : TypeId} {w w' : World} {g n : Nat} {l : List α} {x : Int} {r : List α × Int} (hr : r = (l, x)) (hn : l.length = n) (hm : n ≤ maxLen) (h : Blk w' g t (l.flatMap enc).toArray) (hg : w.heap.size ≤ g) (hb : Below w.heap.size w w') :
 RetR enc s t w r (.returned (.tuple #[.slice (some ⟨g, 0, none⟩) n n, .int .i64 x])) w' := by
 subst hr; subst hn
 refine ⟨_, _, rfl, ?_, hb⟩
 have := own_blk (size := s) (n := l.length) h hg (by simp [flat_len enc s hs]) hm
 simpa using this
theorem RetQ.blk {t : TypeId} {w w' : World} {g n : Nat} {l : List (Int × Int)} {x : Int} {r : List (Int × Int) × Int} (hr : r = (l, x)) (hn : l.length = n) (hm : n ≤ maxLen) (h : Blk w' g t (l.flatMap encP).toArray) (hg : w.heap.size ≤ g) (hb : Below w.heap.size w w') :
 RetQ t w r (.returned (.tuple #[.slice (some ⟨g, 0, none⟩) n n, .int .i64 x])) w' := RetR.blk encP_len hr hn hm h hg hb
theorem enc_news {w : World} {cs : Array Value} {l : List Value} (t : TypeId) (h : cs = l.toArray) : ∀ j u, l[j]? = some u → (w.alloc (.cells cs t)).cell? ((⟨w.heap.size, 0, none⟩ : Addr).add j) = some u := by
 subst h
 exact World.news_of_block (cs := l.toArray) (t := t) (fr := (0, 0)) (heap_alloc_new w _)
theorem quiet_add_left {P : Program} {f : FuncId} {args : Array Value} {w : World} {a n : Nat} {v : Value}
 (h : Calls P f args (w.drewN (a + n)) fun e w' => e = .returned v ∧ w.drewN (a + n) = w') :
 Calls P f args (w.drewN (a + n)) fun e w'' => e = .returned v ∧ ∃ m, w'' = w.drewN (a + m) :=
 h.mono fun _ _ ⟨he, hm⟩ => ⟨he, n, hm.symm⟩
end Go.Proofs.YtelkokcnedbmeaaGreat
namespace Go.Proofs.YtelkokcnedbmeaaGreat
set_option maxRecDepth 20000
set_option linter.unusedVariables false
def sumR (f : Nat → Int) : Nat → Int
 | 0 => 0
 | n + 1 => sumR f n + f n
theorem sumR_succ (f : Nat → Int) (n : Nat) : sumR f (n + 1) = sumR f n + f n := rfl
theorem sumR_congr {f g : Nat → Int} {n : Nat} (h : ∀ i, i < n → f i = g i) : sumR f n = sumR g n := by
 induction n with
 | zero => rfl
 | succ n ih => rw [sumR_succ, sumR_succ, ih (fun i hi => h i (by omega)), h n (by omega)]
theorem sumR_zero {f : Nat → Int} {n : Nat} (h : ∀ i, i < n → f i = 0) : sumR f n = 0 := by
 induction n with
 | zero => rfl
 | succ n ih => rw [sumR_succ, ih (fun i hi => h i (by omega)), h n (by omega)]; rfl
theorem sumR_add (f g : Nat → Int) (n : Nat) : sumR (fun i => f i + g i) n = sumR f n + sumR g n := by
 induction n with
 | zero => rfl
 | succ n ih => rw [sumR_succ, sumR_succ, sumR_succ, ih]; omega
theorem sumR_mul (c : Int) (f : Nat → Int) (n : Nat) : sumR (fun i => c * f i) n = c * sumR f n := by
 induction n with
 | zero => simp [sumR]
 | succ n ih => rw [sumR_succ, sumR_succ, ih, Int.mul_add]
theorem sumR_le {f g : Nat → Int} {n : Nat} (h : ∀ i, i < n → f i ≤ g i) : sumR f n ≤ sumR g n := by
 induction n with
 | zero => exact Int.le_refl _
 | succ n ih => rw [sumR_succ, sumR_succ]; have := ih (fun i hi => h i (by omega)); have := h n (by omega); omega
theorem sumR_const (c : Int) (n : Nat) : sumR (fun _ => c) n = n * c := by
 induction n with
 | zero => simp [sumR]
 | succ n ih => rw [sumR_succ, ih, Int.natCast_succ, Int.add_mul, Int.one_mul]
theorem sumR_one {f : Nat → Int} {n k : Nat} (hk : k < n) (h : ∀ i, i < n → i ≠ k → f i = 0) : sumR f n = f k := by
 induction n with
 | zero => omega
 | succ n ih =>
  rw [sumR_succ]
  rcases Nat.lt_or_ge k n with h1 | h1
  ·rw [ih h1 (fun i hi hne => h i (by omega) hne), h n (by omega) (by omega)]; omega
  ·obtain rfl : k = n := by omega
   rw [sumR_zero (fun i hi => h i (by omega) (by omega))]; omega
end Go.Proofs.YtelkokcnedbmeaaGreat
namespace Go.Proofs.YtelkokcnedbmeaaGreat
open Go.RowKit
set_option maxRecDepth 20000
set_option linter.unusedVariables false
namespace Lagw
def upd (o : List (Int × Int)) (j : Nat) (v : Int) : List (Int × Int) := o.set j ((o.getD j (0, 0)).1 + v, (o.getD j (0, 0)).2 + 1)
def hits (xs ys : List Int) (m i k : Nat) : Bool := decide (xs.getD i 0 ≠ 0 ∧ ys.getD k 0 ≠ 0 ∧ i ≤ k + m ∧ k ≤ i + m)
def inSt (xs ys : List Int) (m i : Nat) (o : List (Int × Int)) : Nat → List (Int × Int)
 | 0 => o
 | k + 1 => if hits xs ys m i k then upd (inSt xs ys m i o k) (k + m - i) (xs.getD i 0 * ys.getD k 0) else inSt xs ys m i o k
def outSt (xs ys : List Int) (m : Nat) : Nat → List (Int × Int)
 | 0 => List.replicate (2 * m + 1) (0, 0)
 | i + 1 => inSt xs ys m i (outSt xs ys m i) ys.length
def lagCells (xs ys : List Int) (m : Nat) : List (Int × Int) := outSt xs ys m xs.length
def ofSpec (xs ys : List Int) (most : Int) : List (Int × Int) × Int :=
 if streamErr xs ≠ 0 then ([], streamErr xs) else if streamErr ys ≠ 0 then ([], streamErr ys) else if most < 0 ∨ 255 < most then ([], 2) else (lagCells xs ys most.toNat, 0)
theorem upd_len (o : List (Int × Int)) (j : Nat) (v : Int) : (upd o j v).length = o.length := by simp [upd]
theorem inSt_len (xs ys : List Int) (m i : Nat) (o : List (Int × Int)) (k : Nat) : (inSt xs ys m i o k).length = o.length := by
 induction k with
 | zero => rfl
 | succ k ih => unfold inSt; split <;> simp [upd_len, ih]
theorem outSt_len (xs ys : List Int) (m i : Nat) : (outSt xs ys m i).length = 2 * m + 1 := by
 induction i with
 | zero => simp [outSt]
 | succ i ih => simp [outSt, inSt_len, ih]
theorem lagCells_len (xs ys : List Int) (m : Nat) : (lagCells xs ys m).length = 2 * m + 1 := outSt_len _ _ _ _
theorem inSt_yes {xs ys : List Int} {m i k : Nat} {o : List (Int × Int)} (h : hits xs ys m i k = true) : inSt xs ys m i o (k + 1) = upd (inSt xs ys m i o k) (k + m - i) (xs.getD i 0 * ys.getD k 0) := by rw [inSt, if_pos h]
theorem inSt_no {xs ys : List Int} {m i k : Nat} {o : List (Int × Int)} (h : hits xs ys m i k = false) : inSt xs ys m i o (k + 1) = inSt xs ys m i o k := by rw [inSt, if_neg (by simp [h])]
theorem inSt_skip {xs ys : List Int} {m i : Nat} {o : List (Int × Int)} {a b : Nat} (hab : a ≤ b) (h : ∀ k, a ≤ k → k < b → hits xs ys m i k = false) : inSt xs ys m i o b = inSt xs ys m i o a := by
 induction b with
 | zero => obtain rfl : a = 0 := by omega
           rfl
 | succ b ih =>
  rcases Nat.lt_or_ge a (b + 1) with h1 | h1
  ·rw [inSt_no (h b (by omega) (by omega)), ih (by omega) (fun k h2 h3 => h k h2 (by omega))]
  ·obtain rfl : a = b + 1 := by omega
   rfl
def bdP (B : Int) (o : List (Int × Int)) : Prop := ∀ x ∈ o, -(9 * x.2) ≤ x.1 ∧ x.1 ≤ 9 * x.2 ∧ 0 ≤ x.2 ∧ x.2 ≤ B
theorem bdP_mono {B C : Int} {o : List (Int × Int)} (h : bdP B o) (hc : B ≤ C) : bdP C o := fun x hx => by have := h x hx; omega
theorem bdP_at {B : Int} {o : List (Int × Int)} {j : Nat} (h : bdP B o) (hj : j < o.length) : -(9 * (o.getD j (0, 0)).2) ≤ (o.getD j (0, 0)).1 ∧ (o.getD j (0, 0)).1 ≤ 9 * (o.getD j (0, 0)).2 ∧ 0 ≤ (o.getD j (0, 0)).2 ∧ (o.getD j (0, 0)).2 ≤ B := by
 rw [getD_lt _ _ hj]
 exact h _ (List.getElem_mem hj)
theorem bdP_upd {B : Int} {o : List (Int × Int)} {j : Nat} {v : Int} (h : bdP B o) (hB : 0 ≤ B) (h1 : -9 ≤ v) (h2 : v ≤ 9) : bdP (B + 1) (upd o j v) := by
 intro x hx
 unfold upd at hx
 rcases List.mem_or_eq_of_mem_set hx with h3 | rfl
 ·have := h x h3; omega
 ·rcases Nat.lt_or_ge j o.length with hj | hj
  ·have := bdP_at h hj
   simp only []
   omega
  ·have e : o.getD j (0, 0) = (0, 0) := by simp [List.getD_eq_getElem?_getD, List.getElem?_eq_none hj]
   rw [e]
   simp only []
   omega
theorem sample_bd {x : Int} (h : 0 ≤ digitOf x) : x = 0 ∨ x = -3 ∨ x = -1 ∨ x = 1 ∨ x = 3 := by
 unfold digitOf at h
 repeat' split at h
 all_goals omega
theorem streamErr_zero {xs : List Int} (h : streamErr xs = 0) : xs.length ≤ 256 ∧ ∀ x ∈ xs, 0 ≤ digitOf x := by
 unfold streamErr at h
 split at h
 ·omega
 ·split at h
  ·rename_i h1 h2
   exact ⟨by omega, by simpa using h2⟩
  ·omega
theorem stream_at {xs : List Int} (h : streamErr xs = 0) (i : Nat) : xs.getD i 0 = 0 ∨ xs.getD i 0 = -3 ∨ xs.getD i 0 = -1 ∨ xs.getD i 0 = 1 ∨ xs.getD i 0 = 3 := by
 rcases Nat.lt_or_ge i xs.length with h1 | h1
 ·rw [getD_lt _ _ h1]
  exact sample_bd ((streamErr_zero h).2 _ (List.getElem_mem h1))
 ·left; simp [List.getD_eq_getElem?_getD, List.getElem?_eq_none h1]
theorem prod_bd {x y : Int} (hx : x = 0 ∨ x = -3 ∨ x = -1 ∨ x = 1 ∨ x = 3) (hy : y = 0 ∨ y = -3 ∨ y = -1 ∨ y = 1 ∨ y = 3) : -9 ≤ x * y ∧ x * y ≤ 9 := by
 rcases hx with rfl | rfl | rfl | rfl | rfl <;> rcases hy with rfl | rfl | rfl | rfl | rfl <;> decide
theorem inSt_bd {xs ys : List Int} (hx : streamErr xs = 0) (hy : streamErr ys = 0) {m i : Nat} {B : Int} {o : List (Int × Int)} (h : bdP B o) (hB : 0 ≤ B) (k : Nat) : bdP (B + k) (inSt xs ys m i o k) := by
 induction k with
 | zero => simpa [inSt] using h
 | succ k ih =>
  unfold inSt
  split
  ·have := bdP_upd (j := k + m - i) ih (by omega) (prod_bd (stream_at hx i) (stream_at hy k)).1 (prod_bd (stream_at hx i) (stream_at hy k)).2
   exact bdP_mono this (by omega)
  ·exact bdP_mono ih (by omega)
theorem outSt_bd {xs ys : List Int} (hx : streamErr xs = 0) (hy : streamErr ys = 0) (m : Nat) (i : Nat) : bdP (256 * i) (outSt xs ys m i) := by
 induction i with
 | zero =>
  intro x h
  simp [outSt] at h
  subst h
  simp
 | succ i ih =>
  have := inSt_bd hx hy (m := m) (i := i) ih (by omega) ys.length
  have hl := (streamErr_zero hy).1
  exact bdP_mono this (by omega)
theorem ofSpec_x {xs ys : List Int} {most : Int} (h : ¬ streamErr xs = 0) : ofSpec xs ys most = ([], streamErr xs) := by simp [ofSpec, h]
theorem ofSpec_y {xs ys : List Int} {most : Int} (h0 : streamErr xs = 0) (h : ¬ streamErr ys = 0) : ofSpec xs ys most = ([], streamErr ys) := by simp [ofSpec, h0, h]
theorem ofSpec_m {xs ys : List Int} {most : Int} (h0 : streamErr xs = 0) (h : streamErr ys = 0) (hm : most < 0 ∨ 255 < most) : ofSpec xs ys most = ([], 2) := by simp [ofSpec, h0, h, hm]
theorem ofSpec_ok {xs ys : List Int} {m : Nat} (h0 : streamErr xs = 0) (h : streamErr ys = 0) (hm : m ≤ 255) : ofSpec xs ys (m : Int) = (lagCells xs ys m, 0) := by
 have : ¬ ((m : Int) < 0 ∨ 255 < (m : Int)) := by omega
 simp [ofSpec, h0, h, this]
theorem hits_x {xs ys : List Int} {m i k : Nat} (h : xs.getD i 0 = 0) : hits xs ys m i k = false := by
 simp only [hits, decide_eq_false_iff_not]; exact fun h2 => h2.1 h
theorem hits_y {xs ys : List Int} {m i k : Nat} (h : ys.getD k 0 = 0) : hits xs ys m i k = false := by
 simp only [hits, decide_eq_false_iff_not]; exact fun h2 => h2.2.1 h
theorem hits_far {xs ys : List Int} {m i k : Nat} (h : k + m < i ∨ i + m < k) : hits xs ys m i k = false := by
 simp only [hits, decide_eq_false_iff_not]; omega
theorem hits_yes {xs ys : List Int} {m i k : Nat} (h1 : ¬ xs.getD i 0 = 0) (h2 : ¬ ys.getD k 0 = 0) (h3 : i ≤ k + m) (h4 : k ≤ i + m) : hits xs ys m i k = true := by
 simp only [hits, decide_eq_true_eq]; exact ⟨h1, h2, h3, h4⟩
theorem inSt_fin {xs ys : List Int} {m i : Nat} {o : List (Int × Int)} {a : Nat} (h : ys.length ≤ a ∨ i + m < a) : inSt xs ys m i o a = inSt xs ys m i o ys.length := by
 rcases Nat.lt_or_ge a ys.length with h1 | h1
 ·exact (inSt_skip (by omega) (fun k h2 _ => hits_far (.inr (by omega)))).symm
 ·exact inSt_skip h1 (fun k h2 _ => hits_y (by simp [List.getD_eq_getElem?_getD, List.getElem?_eq_none h2]))
def nz (x : Int) : Int := if x = 0 then 0 else 1
def pairSum (f : Nat → Nat → Int) (n m : Nat) (d : Int) : Int := sumR (fun i => sumR (fun k => if (k : Int) - i = d then f i k else 0) m) n
def prodF (xs ys : List Int) (i k : Nat) : Int := xs.getD i 0 * ys.getD k 0
def cntF (xs ys : List Int) (i k : Nat) : Int := nz (xs.getD i 0) * nz (ys.getD k 0)
theorem upd_at {o : List (Int × Int)} {j t : Nat} {v : Int} (hj : j < o.length) (ht : t < o.length) : (upd o j v).getD t (0, 0) = if t = j then ((o.getD t (0, 0)).1 + v, (o.getD t (0, 0)).2 + 1) else o.getD t (0, 0) := by
 unfold upd
 rw [getD_lt _ _ (by simpa using ht), List.getElem_set]
 split
 ·rename_i h; subst h; simp
 ·rename_i h
  rw [if_neg (fun h2 => h h2.symm), getD_lt _ _ ht]
theorem hits_prod {xs ys : List Int} {m i k : Nat} (h : hits xs ys m i k = true) : cntF xs ys i k = 1 ∧ i ≤ k + m ∧ k ≤ i + m := by
 simp only [hits, decide_eq_true_eq] at h
 obtain ⟨h1, h2, h3, h4⟩ := h
 exact ⟨by simp [cntF, nz, -List.getD_eq_getElem?_getD, h1, h2], h3, h4⟩
theorem hits_none {xs ys : List Int} {m i k : Nat} (h : hits xs ys m i k = false) (h3 : i ≤ k + m) (h4 : k ≤ i + m) : prodF xs ys i k = 0 ∧ cntF xs ys i k = 0 := by
 simp only [hits, decide_eq_false_iff_not] at h
 rcases Decidable.em (xs.getD i 0 = 0) with h1 | h1
 ·simp [prodF, cntF, nz, -List.getD_eq_getElem?_getD, h1]
 ·rcases Decidable.em (ys.getD k 0 = 0) with h2 | h2
  ·simp [prodF, cntF, nz, -List.getD_eq_getElem?_getD, h2]
  ·exact absurd ⟨h1, h2, h3, h4⟩ h
theorem inSt_at {xs ys : List Int} {m i : Nat} {o : List (Int × Int)} (ho : o.length = 2 * m + 1) (k t : Nat) (ht : t < 2 * m + 1) :
 (inSt xs ys m i o k).getD t (0, 0) = ((o.getD t (0, 0)).1 + sumR (fun k => if (k : Int) - i = (t : Int) - m then prodF xs ys i k else 0) k, (o.getD t (0, 0)).2 + sumR (fun k => if (k : Int) - i = (t : Int) - m then cntF xs ys i k else 0) k) := by
 induction k with
 | zero => simp [inSt, sumR]
 | succ k ih =>
  rw [sumR_succ, sumR_succ]
  cases h : hits xs ys m i k with
  | true =>
   obtain ⟨h1, h2, h3⟩ := hits_prod h
   have hl : (inSt xs ys m i o k).length = 2 * m + 1 := by rw [inSt_len, ho]
   rw [inSt_yes h, upd_at (by rw [hl]; omega) (by rw [hl]; exact ht), ih]
   by_cases e : t = k + m - i
   ·rw [if_pos e, if_pos (by omega), if_pos (by omega), h1]
    simp only [prodF, Int.add_assoc]
   ·rw [if_neg e, if_neg (by omega), if_neg (by omega)]
    simp
  | false =>
   rw [inSt_no h, ih]
   by_cases e : (k : Int) - i = (t : Int) - m
   ·obtain ⟨h1, h2⟩ := hits_none h (by omega) (by omega)
    rw [if_pos e, if_pos e, h1, h2]
    simp
   ·rw [if_neg e, if_neg e]
    simp
theorem outSt_at {xs ys : List Int} {m : Nat} (i t : Nat) (ht : t < 2 * m + 1) :
 (outSt xs ys m i).getD t (0, 0) = (pairSum (prodF xs ys) i ys.length ((t : Int) - m), pairSum (cntF xs ys) i ys.length ((t : Int) - m)) := by
 induction i with
 | zero =>
  rw [outSt, getD_lt _ _ (by simpa using ht)]
  simp [pairSum, sumR]
 | succ i ih =>
  rw [outSt, inSt_at (outSt_len _ _ _ _) _ _ ht, ih]
  rfl
theorem lagCells_at {xs ys : List Int} {m t : Nat} (ht : t < 2 * m + 1) :
 (lagCells xs ys m).getD t (0, 0) = (pairSum (prodF xs ys) xs.length ys.length ((t : Int) - m), pairSum (cntF xs ys) xs.length ys.length ((t : Int) - m)) := outSt_at _ _ ht
theorem inner_one {f : Nat → Int} {n i : Nat} {d : Int} : sumR (fun k => if (k : Int) - i = d then f k else 0) n = if 0 ≤ (i : Int) + d ∧ (i : Int) + d < n then f ((i : Int) + d).toNat else 0 := by
 by_cases h : 0 ≤ (i : Int) + d ∧ (i : Int) + d < n
 ·rw [if_pos h, sumR_one (k := ((i : Int) + d).toNat) (by omega) (fun k hk hne => if_neg (by omega)), if_pos (by omega)]
 ·rw [if_neg h]
  exact sumR_zero (fun k hk => if_neg (by omega))
theorem info_lag : (Tryz.prog.info? 61).map (fun i => (i.zero, i.size, i.bytes)) = some (some (.agg #[.int .i64 0, .int .i64 0]), 2, 16) := by kernel_rfl
set_option maxRecDepth 100000 in
set_option maxHeartbeats 4000000 in
theorem lagOf_any (A B : Option Addr) (c d : Nat) (xs ys : List Int) (most : Int) (w : World) (hx : RI .i64 w A xs) (hy : RI .i64 w B ys) (hl : xs.length ≤ 140737488355328) (hl2 : ys.length ≤ 140737488355328) :
 Calls Tryz.prog 7 #[.slice A xs.length c, .slice B ys.length d, .int .i64 most] w (RetQ 61 w (ofSpec xs ys most)) := by
 rcases (Decidable.em (streamErr xs = 0)).symm with he | he
 ·have e1 : (streamErr xs != 0) = true := by simp [he]
  have HE := Lib.hid he
  clear he
  go_enter Tryz.func7, Tryz.ntmps7
  go_wp2_with (go_at_call 23; refine (sampleCheck_any _ _ _ _ hx hl).mono ?_; rintro e w' ⟨rfl, rfl⟩)
  go_ret2
  exact RetQ.nil (ofSpec_x HE.out) (Below.refl _ _)
 have e1 : (streamErr xs != 0) = false := by simp [he]
 have HE := Lib.hid he
 have hl5 := (streamErr_zero he).1
 clear he
 rcases (Decidable.em (streamErr ys = 0)).symm with he | he
 ·have e2 : (streamErr ys != 0) = true := by simp [he]
  have HE2 := Lib.hid he
  clear he
  go_enter Tryz.func7, Tryz.ntmps7
  go_wp2_with fail
  refine (sampleCheck_any _ _ _ _ hx hl).mono ?_
  rintro e w' ⟨rfl, rfl⟩
  go_wp2_with fail
  refine (sampleCheck_any _ _ _ _ hy hl2).mono ?_
  rintro e w' ⟨rfl, rfl⟩
  go_wp2
  go_ret2
  exact RetQ.nil (ofSpec_y HE.out HE2.out) (Below.refl _ _)
 have e2 : (streamErr ys != 0) = false := by simp [he]
 have HE2 := Lib.hid he
 have hl6 := (streamErr_zero he).1
 clear he
 rcases (Decidable.em (most < 0)) with hm | hm
 ·go_enter Tryz.func7, Tryz.ntmps7
  go_wp2_with fail
  refine (sampleCheck_any _ _ _ _ hx hl).mono ?_
  rintro e w' ⟨rfl, rfl⟩
  go_wp2_with fail
  refine (sampleCheck_any _ _ _ _ hy hl2).mono ?_
  rintro e w' ⟨rfl, rfl⟩
  go_wp2
  go_ret2
  exact RetQ.nil (ofSpec_m HE.out HE2.out (.inl hm)) (Below.refl _ _)
 rcases (Decidable.em (255 < most)) with hm2 | hm2
 ·go_enter Tryz.func7, Tryz.ntmps7
  go_wp2_with fail
  refine (sampleCheck_any _ _ _ _ hx hl).mono ?_
  rintro e w' ⟨rfl, rfl⟩
  go_wp2_with fail
  refine (sampleCheck_any _ _ _ _ hy hl2).mono ?_
  rintro e w' ⟨rfl, rfl⟩
  go_wp2
  go_ret2
  exact RetQ.nil (ofSpec_m HE.out HE2.out (.inr hm2)) (Below.refl _ _)
 obtain ⟨m, rfl⟩ : ∃ m : Nat, most = (m : Int) := ⟨most.toNat, by omega⟩
 have hm255 : m ≤ 255 := by omega
 have dm1 : decide ((m : Int) < 0) = false := by simp
 have dm2 : decide (255 < (m : Int)) = false := by simpa using hm2
 clear hm hm2
 obtain ⟨i0, hi0, hz0, hz1, hz2⟩ := info_parts info_lag
 have hmk := mk_row (P := Tryz.prog) 28 61 Tryz.underlying28 hi0 hz0 hz1 hz2 encP encP_len (by omega) (0, 0) rfl (2 * m + 1) (by omega) (by omega)
 have ec : ((2 * m + 1 : Nat) : Int) = 2 * (m : Int) + 1 := by omega
 rw [ec] at hmk
 clear ec
 go_enter Tryz.func7, Tryz.ntmps7
 go_wp2_with fail
 refine (sampleCheck_any _ _ _ _ hx hl).mono ?_
 rintro e w' ⟨rfl, rfl⟩
 go_wp2_with fail
 refine (sampleCheck_any _ _ _ _ hy hl2).mono ?_
 rintro e w' ⟨rfl, rfl⟩
 go_wp2
 go_loopg [11, 12, 35] xs.length (fun gk _ _ i wr => ∃ k : Nat, k + gk = xs.length ∧ i = .int .i64 k ∧ Blk wr w.heap.size 61 ((outSt xs ys m k).flatMap encP).toArray ∧ Below w.heap.size w wr)
 case atStart => exact ⟨0, by omega, rfl, Blk.new w 61 _, balloc (Below.refl _ _) _⟩
 case round =>
  obtain ⟨k, hk, rfl, hO, hb⟩ := hrel
  have hk' : k ≤ xs.length := by omega
  have HK := Lib.hid hk
  clear hk
  by_cases hlt : k < xs.length
  ·obtain ⟨b1, off1, rfl, hlw1, hcw⟩ := hx.at2 hlt
   rw [getD_lt _ _ hlt] at hcw
   have hc := (hb.cell (p := ⟨b1, off1 + k, none⟩) hlw1).trans hcw
   by_cases hz : xs[k] = 0
   ·have ez : (xs[k] == 0) = true := by simp [hz]
    have HZ := Lib.hid hz
    clear hz
    go_wp2
    go_roundg (gk - 1)
    case rel => exact ⟨k + 1, by have := HK.out; omega, by go_num, by rw [outSt, inSt_skip (a := 0) (Nat.zero_le _) (fun j _ _ => hits_x (by rw [getD_lt _ _ hlt]; exact HZ.out)), inSt]; exact hO, hb⟩
    case measure => have := HK.out; omega
   ·have ez : (xs[k] == 0) = false := by simp [hz]
    have HZ := Lib.hid hz
    clear hz
    obtain ⟨wo, rfl⟩ : ∃ wo : World, wo = wr := ⟨_, rfl⟩
    obtain ⟨gu, rfl⟩ : ∃ gu : Nat, gu = gk := ⟨_, rfl⟩
    have hyo := hy.keep hb
    go_wp2
    all_goals
     go_loopg [12] (600 - (k - m)) (fun ga s12 wq => ∃ a : Nat, a + ga = 600 ∧ a ≤ 256 ∧ s12 = .int .i64 a ∧ k - m ≤ a ∧ Blk wq w.heap.size 61 ((inSt xs ys m k (outSt xs ys m k) a).flatMap encP).toArray ∧ Below w.heap.size w wq)
     case atStart =>
      refine ⟨k - m, by omega, by omega, by first | rfl | go_num | (congr 1; omega), Nat.le_refl _, ?_, hb⟩
      rw [inSt_skip (a := 0) (Nat.zero_le _) (fun j _ h => hits_far (.inl (by omega))), inSt]
      exact hO
     case round =>
      obtain ⟨a, ha, ha256, rfl, hka, hI, hbq⟩ := hrel
      have HA := Lib.hid ha
      clear ha
      by_cases hin : a < ys.length ∧ a ≤ k + m
      ·obtain ⟨hay, hakm⟩ := hin
       obtain ⟨b2, off2, rfl, hd⟩ := (hy.keep hbq).at_ hay
       rw [getD_lt _ _ hay] at hd
       have hc' := (hbq.cell (p := ⟨b1, off1 + k, none⟩) hlw1).trans hcw
       by_cases hyz : ys[a] = 0
       ·have ey : (ys[a] != 0) = false := by simp [hyz]
        have HY := Lib.hid hyz
        clear hyz
        go_wp2
        all_goals
         go_roundg (gk - 1)
         case rel => exact ⟨a + 1, by have := HA.out; omega, by omega, by go_num, by omega, by rw [inSt_no (hits_y (by rw [getD_lt _ _ hay]; exact HY.out))]; exact hI, hbq⟩
         case measure => have := HA.out; omega
       ·have ey : (ys[a] != 0) = true := by simp [hyz]
        have HY := Lib.hid hyz
        clear hyz
        have hJ : ((a : Int) - k + m).toNat < (inSt xs ys m k (outSt xs ys m k) a).length := by rw [inSt_len, outSt_len]; omega
        obtain ⟨o0, o1⟩ := blkP_at hI hJ
        have p0 := hI.frozen (((a : Int) - k + m).toNat * 2)
        have p1 := hI.frozen (((a : Int) - k + m).toNat * 2 + 1)
        have hg := hI.lt
        have hbd := bdP_at (inSt_bd HE.out HE2.out (outSt_bd HE.out HE2.out m k) (by omega) a) hJ
        have hpr := prod_bd (stream_at HE.out k) (stream_at HE2.out a)
        rw [getD_lt _ _ hlt, getD_lt _ _ hay] at hpr
        have hI2 := (blkP_set hI hJ (((inSt xs ys m k (outSt xs ys m k) a).getD ((a : Int) - k + m).toNat (0, 0)).1 + xs[k] * ys[a], ((inSt xs ys m k (outSt xs ys m k) a).getD ((a : Int) - k + m).toNat (0, 0)).2 + 1)).drew
        have eJ : ((a : Int) - k + m).toNat = a + m - k := by omega
        have hn := inSt_yes (o := outSt xs ys m k) (hits_yes (m := m) (by rw [getD_lt _ _ hlt]; exact HZ.out) (by rw [getD_lt _ _ hay]; exact HY.out) (show k ≤ a + m by omega) hakm)
        unfold upd at hn
        rw [← eJ, getD_lt xs _ hlt, getD_lt ys _ hay] at hn
        rw [← hn] at hI2
        have HN := Lib.hid hn
        have EJ := Lib.hid eJ
        have HI2 := Lib.hid hI2
        clear hn eJ hI2
        obtain ⟨pr, hpe⟩ : ∃ pr, pr = (inSt xs ys m k (outSt xs ys m k) a).getD ((a : Int) - k + m).toNat (0, 0) := ⟨_, rfl⟩
        rw [← hpe] at o0 o1 hbd
        have HPE := Lib.hid hpe
        clear hpe
        go_wp2
        all_goals
         go_region
         all_goals go_wp2
         all_goals
          go_roundg (gk - 1)
          case rel => exact ⟨a + 1, by have := HA.out; omega, by omega, by go_num, by omega, by have h := HI2.out; rw [← HPE.out] at h; exact h, ((hbq.setCell (p := ⟨w.heap.size, ((a : Int) - k + m).toNat * 2, none⟩) (Nat.le_refl _) _).setCell (p := ⟨w.heap.size, ((a : Int) - k + m).toNat * 2 + 1, none⟩) (Nat.le_refl _) _).drew⟩
          case measure => have := HA.out; omega
      ·have hfin : ys.length ≤ a ∨ k + m < a := by omega
       go_wp2
       all_goals
        go_roundg (gu - 1)
        case rel => exact ⟨k + 1, by have := HK.out; omega, by go_num, by rw [outSt, ← inSt_fin hfin]; exact hI, hbq⟩
        case measure => have := HK.out; omega
  ·go_wp2
   go_ret2
   have hkl : k = xs.length := by omega
   rw [hkl] at hO
   exact RetQ.blk (ofSpec_ok HE.out HE2.out hm255) (lagCells_len _ _ _) (by unfold maxLen; omega) hO (Nat.le_refl _) hb
end Lagw
end Go.Proofs.YtelkokcnedbmeaaGreat
namespace Go.Proofs.YtelkokcnedbmeaaGreat
open Go.RowKit
set_option maxRecDepth 20000
set_option linter.unusedVariables false
theorem grown_setRow (w : World) (g : Nat) (cs : Array Value) : w.grownBy (w.setRow g cs) (some g) :=
 ⟨rfl, rfl, rfl, by simp [World.setRow], fun k hk hne => setRow_other w g k cs (fun e => hne (by rw [e]))⟩
theorem wpList_copy_row {P : Program} {w : World} {ops : Array Oper} {rest : List Oper} {o : Oper} {a : Act} {Q : Exit → Act → World → Prop} (hgd : o.guard = none) (d s : Operand) (dT sT : TypeId)
 (ho : o.op = .call { callee := .builtin .copy, args := #[d, s], argTypes := #[dT, sT] }) (elem : TypeId) (hu : P.underlying dT = some (.slice elem)) (hsz : (P.info? elem).map (·.size) = some 1)
 (dp sp : Option Addr) (dLen dCap sLen sCap : Nat) (hd : a.eval d = .slice dp dLen dCap) (hs : a.eval s = .slice sp sLen sCap)
 (g off : Nat) (cur : List Value) (t : TypeId) (hg : Blk w g t cur.toArray) (cs : List Value) (hn : cs.length = Nat.min sLen dLen)
 (hpos : 0 < cs.length → dp = some ⟨g, off, none⟩ ∧ ∃ ad, sp = some ad ∧ ∀ j v, cs[j]? = some v → w.cell? (ad.add j) = some v)
 (hfit : off + cs.length ≤ cur.length) (h1 : ∀ v ∈ cs, v.oneCell' = true)
 (h : ∀ w', Blk w' g t (splice cur off cs).toArray → w.grownBy w' (some g) → wpList P ops Q rest (a.put o.dst (goInt cs.length)) w') :
 wpList P ops Q (o :: rest) a w := by
 by_cases h0 : cs.length = 0
 ·obtain rfl : cs = [] := List.eq_nil_of_length_eq_zero h0
  refine wpList_copy_nothing hgd d s dT sT ho elem hu hsz dp sp dLen dCap sLen sCap hd hs (by simpa using hn.symm) ?_
  exact h w (by simpa [splice] using hg) (World.grownBy.refl _ _)
 ·obtain ⟨rfl, ad, rfl, hsrc⟩ := hpos (by omega)
  refine wpList_copy_own hgd d s dT sT ho elem hu hsz g off dLen dCap ad sLen sCap hd hs cur.toArray t hg cs hn hsrc (by simpa using hfit) h1 ?_
  refine h _ ?_ (grown_setRow _ _ _)
  exact setRow_heap w g cur.toArray _ t (0, 0) hg
end Go.Proofs.YtelkokcnedbmeaaGreat
