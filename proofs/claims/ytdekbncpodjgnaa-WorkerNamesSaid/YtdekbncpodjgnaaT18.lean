/-
  Parts of the proof of WorkerNames: WkW.
-/
import Derived.Test.YtdekbncpodjgnaaT17
namespace Go.Proofs.Ytdekbncpodjgnaa
open Go.RowKit Runs Lagc Reg
set_option linter.unusedVariables false
set_option linter.unusedSimpArgs false
namespace Wk
open Lagw
theorem made_blk {α : Type} {enc : α → List Value} {e : TypeId} {sz B : Nat} {l : List α} {A : Option Addr} {c : Nat} {w : World} (h : Made enc e sz B l A c w) (h0 : 0 < l.length) : ∃ g cur, A = some ⟨g, 0, none⟩ ∧ B ≤ g ∧ Blk w g e cur ∧ cur.toList.take (l.length * sz) = l.flatMap enc ∧ cur.size = c * sz ∧ c ≤ maxLen ∧ l.length ≤ c ∧ (l.flatMap enc).length = l.length * sz := by
 rcases h.2 with rfl | h1
 ·simp at h0
 ·obtain ⟨h2, h3⟩ := h1
  rcases h3 with ⟨h4, h5⟩ | ⟨g, cap, cur, h4, h5, h6, h7, h8, h9, h10⟩
  ·omega
  ·injection h4 with e1 e2 e3
   subst e1 e3
   exact ⟨g, cur, rfl, h5, h6, h10, h9, h8, h7, h2⟩
theorem flat_one {α : Type} {enc : α → List Value} {ev : α → Value} (he : ∀ x, enc x = [ev x]) (l : List α) : l.flatMap enc = l.map ev := by
 induction l with
 | nil => rfl
 | cons x l ih => simp [he, ih]
theorem made_cell {α : Type} {enc : α → List Value} {ev : α → Value} (he : ∀ x, enc x = [ev x]) {e : TypeId} {B g : Nat} {l : List α} {c : Nat} {w : World} (h : Made enc e 1 B l (some ⟨g, 0, none⟩) c w) {k : Nat} (hk : k < l.length) :
 w.cell? ⟨g, k, none⟩ = some (ev l[k]) ∧ w.frozen? ⟨g, k, none⟩ = false ∧ g < w.heap.size ∧ B ≤ g := by
 obtain ⟨g', cur, e1, h5, h6, h7, _⟩ := made_blk h (by omega)
 obtain rfl : g = g' := by simpa using e1
 refine ⟨?_, h6.frozen k, h6.lt, h5⟩
 rw [h6.cell]
 have h8 : (cur.toList.take (l.length * 1))[k]? = (l.map ev)[k]? := by rw [h7, flat_one he]
 rw [List.getElem?_take_of_lt (by omega)] at h8
 rw [← Array.getElem?_toList, h8]
 simp [hk]
theorem made_set {α : Type} {enc : α → List Value} {ev : α → Value} (he : ∀ x, enc x = [ev x]) {e : TypeId} {B g : Nat} {l : List α} {c : Nat} {w : World} (h : Made enc e 1 B l (some ⟨g, 0, none⟩) c w) {k : Nat} (hk : k < l.length) (x : α) :
 Made enc e 1 B (l.set k x) (some ⟨g, 0, none⟩) c (w.setCell ⟨g, k, none⟩ (ev x)) := by
 obtain ⟨g', cur, e1, h5, h6, h7, h8, h9, h10, h11⟩ := made_blk h (by omega)
 obtain rfl : g = g' := by simpa using e1
 have hp := h6.put k (ev x)
 refine ⟨by rw [List.length_set]; exact h10, .inr ⟨by rw [flat_one he, List.length_map, Nat.mul_one], .inr ⟨g, c, _, rfl, h5, hp, by rw [List.length_set]; exact h10, h9, by simp [h8], ?_⟩⟩⟩
 rw [List.length_set, flat_one he, Array.toList_setIfInBounds, List.take_set, h7, flat_one he, List.map_set]
theorem made_type {α : Type} {enc : α → List Value} {e t : TypeId} {sz B g g' : Nat} {l : List α} {c : Nat} {w : World} {cs : Array Value} (h : Made enc e sz B l (some ⟨g, 0, none⟩) c w) (h0 : 0 < l.length) (hk : Blk w g' t cs) (hne : e ≠ t) : g ≠ g' := by
 obtain ⟨g1, cur, e1, h5, h6, _⟩ := made_blk h h0
 obtain rfl : g = g1 := by simpa using e1
 rintro rfl
 unfold Blk at h6 hk
 rw [h6] at hk
 injection hk with hk
 injection hk with _ h7
 exact hne h7
theorem CW.setT {B : Nat} {w : World} {S N G D : Option Addr} {g c1 c2 c3 c4 c5 : Nat} {r : Work} (h : CW B w S N G D (some ⟨g, 0, none⟩) c1 c2 c3 c4 c5 r) {k : Nat} (hk : k < r.t.length) (x : Int) :
 CW B (w.setCell ⟨g, k, none⟩ (.int .i64 x)) S N G D (some ⟨g, 0, none⟩) c1 c2 c3 c4 c5 ⟨r.a, r.d, r.t.set k x⟩ := by
 obtain ⟨g1, cur, e1, h5, h6, _⟩ := made_blk h.t (by omega)
 obtain rfl : g = g1 := by simpa using e1
 exact ⟨h.s.far (p := ⟨g, k, none⟩) h6 (by decide) _, h.n.far (p := ⟨g, k, none⟩) h6 (by decide) _, h.g.far (p := ⟨g, k, none⟩) h6 (by decide) _, h.d.far (p := ⟨g, k, none⟩) h6 (by decide) _, made_set (ev := fun x => .int .i64 x) (fun _ => rfl) h.t hk x⟩
theorem CW.setD {B : Nat} {w : World} {S N G T : Option Addr} {g c1 c2 c3 c4 c5 : Nat} {r : Work} (h : CW B w S N G (some ⟨g, 0, none⟩) T c1 c2 c3 c4 c5 r) {k : Nat} (hk : k < r.d.length) (x : Bool) :
 CW B (w.setCell ⟨g, k, none⟩ (.bool x)) S N G (some ⟨g, 0, none⟩) T c1 c2 c3 c4 c5 ⟨r.a, r.d.set k x, r.t⟩ := by
 obtain ⟨g1, cur, e1, h5, h6, _⟩ := made_blk h.d (by omega)
 obtain rfl : g = g1 := by simpa using e1
 exact ⟨h.s.far (p := ⟨g, k, none⟩) h6 (by decide) _, h.n.far (p := ⟨g, k, none⟩) h6 (by decide) _, h.g.far (p := ⟨g, k, none⟩) h6 (by decide) _, made_set (ev := fun x => .bool x) (fun _ => rfl) h.d hk x, h.t.far (p := ⟨g, k, none⟩) h6 (by decide) _⟩
def slicesB (cs : Array Value) : Prop := ∀ (i : Nat) (v : Value), cs[i]? = some v → ∃ a n c, v = Value.slice a n c
theorem slices5 (A0 A1 A2 A3 A4 : Option Addr) (n0 n1 n2 n3 n4 c0 c1 c2 c3 c4 : Nat) : slicesB #[.slice A0 n0 c0, .slice A1 n1 c1, .slice A2 n2 c2, .slice A3 n3 c3, .slice A4 n4 c4] := by
 intro i v h
 match i, h with
 | 0, h => simp at h; exact ⟨_, _, _, h.symm⟩
 | 1, h => simp at h; exact ⟨_, _, _, h.symm⟩
 | 2, h => simp at h; exact ⟨_, _, _, h.symm⟩
 | 3, h => simp at h; exact ⟨_, _, _, h.symm⟩
 | 4, h => simp at h; exact ⟨_, _, _, h.symm⟩
 | n + 5, h => simp at h
theorem _root_.Go.Proofs.Ytdekbncpodjgnaa.RI.apart {k : IntKind} {w : World} {A : Option Addr} {l : List Int} (h : RI k w A l) {g : Nat} {t : TypeId} {cs : Array Value} (hk : Blk w g t cs) (hs : slicesB cs) (i : Nat) (u : Value) : RI k (w.setCell ⟨g, i, none⟩ u) A l := by
 intro h0
 obtain ⟨b, off, e, hlt, hc⟩ := h h0
 have hne : b ≠ g := by
  rintro rfl
  have h1 := hc 0 h0
  rw [hk.cell] at h1
  obtain ⟨_, _, _, h2⟩ := hs _ _ h1
  cases h2
 refine ⟨b, off, e, by simpa [World.setCell] using hlt, fun j hj => ?_⟩
 rw [World.cell?_of_block (a := ⟨b, off + j, none⟩) (Below.heap_setCell w ⟨g, i, none⟩ u b hne)]
 exact hc j hj
theorem _root_.Go.Proofs.Ytdekbncpodjgnaa.RL.apart {w : World} {A : Option Addr} {l : List (Int × Int)} (h : RL w A l) {g : Nat} {t : TypeId} {cs : Array Value} (hk : Blk w g t cs) (hs : slicesB cs) (i : Nat) (u : Value) : RL (w.setCell ⟨g, i, none⟩ u) A l := by
 intro h0
 obtain ⟨b, off, e, hlt, hc⟩ := h h0
 have hne : b ≠ g := by
  rintro rfl
  have h1 := (hc 0 h0).1
  rw [hk.cell] at h1
  obtain ⟨_, _, _, h2⟩ := hs _ _ h1
  cases h2
 refine ⟨b, off, e, by simpa [World.setCell] using hlt, fun j hj => ?_⟩
 have hb := fun o => World.cell?_of_block (a := ⟨b, o, none⟩) (Below.heap_setCell w ⟨g, i, none⟩ u b hne)
 rw [hb, hb]
 exact hc j hj
theorem RBo.apart {w : World} {A : Option Addr} {l : List Bool} (h : RBo w A l) {g : Nat} {t : TypeId} {cs : Array Value} (hk : Blk w g t cs) (hs : slicesB cs) (i : Nat) (u : Value) : RBo (w.setCell ⟨g, i, none⟩ u) A l := by
 intro h0
 obtain ⟨b, off, e, hlt, hc⟩ := h h0
 have hne : b ≠ g := by
  rintro rfl
  have h1 := hc 0 h0
  rw [hk.cell] at h1
  obtain ⟨_, _, _, h2⟩ := hs _ _ h1
  cases h2
 refine ⟨b, off, e, by simpa [World.setCell] using hlt, fun j hj => ?_⟩
 rw [World.cell?_of_block (a := ⟨b, off + j, none⟩) (Below.heap_setCell w ⟨g, i, none⟩ u b hne)]
 exact hc j hj
theorem RW.apart {w : World} {S N G D T : Option Addr} {r : Work} (h : RW w S N G D T r) {g : Nat} {t : TypeId} {cs : Array Value} (hk : Blk w g t cs) (hs : slicesB cs) (i : Nat) (u : Value) : RW (w.setCell ⟨g, i, none⟩ u) S N G D T r :=
 ⟨⟨h.a.s.apart hk hs i u, h.a.n.apart hk hs i u, h.a.g.apart hk hs i u⟩, h.d.apart hk hs i u, h.t.apart hk hs i u⟩
theorem RW.put5 {w : World} {S N G D T : Option Addr} {r : Work} (h : RW w S N G D T r) {g : Nat} {t : TypeId} {A0 A1 A2 A3 A4 B0 B1 B2 B3 B4 : Option Addr} {n0 n1 n2 n3 n4 c0 c1 c2 c3 c4 m0 m1 m2 m3 m4 d0 d1 d2 d3 d4 : Nat} (hk : Blk w g t #[.slice A0 n0 c0, .slice A1 n1 c1, .slice A2 n2 c2, .slice A3 n3 c3, .slice A4 n4 c4]) :
 RW (((((w.setCell ⟨g, 0, none⟩ (.slice B0 m0 d0)).setCell ⟨g, 1, none⟩ (.slice B1 m1 d1)).setCell ⟨g, 2, none⟩ (.slice B2 m2 d2)).setCell ⟨g, 3, none⟩ (.slice B3 m3 d3)).setCell ⟨g, 4, none⟩ (.slice B4 m4 d4)) S N G D T r ∧
 Blk (((((w.setCell ⟨g, 0, none⟩ (.slice B0 m0 d0)).setCell ⟨g, 1, none⟩ (.slice B1 m1 d1)).setCell ⟨g, 2, none⟩ (.slice B2 m2 d2)).setCell ⟨g, 3, none⟩ (.slice B3 m3 d3)).setCell ⟨g, 4, none⟩ (.slice B4 m4 d4)) g t #[.slice B0 m0 d0, .slice B1 m1 d1, .slice B2 m2 d2, .slice B3 m3 d3, .slice B4 m4 d4] := by
 have k1 := hk.put 0 (.slice B0 m0 d0)
 have k2 := k1.put 1 (.slice B1 m1 d1)
 have k3 := k2.put 2 (.slice B2 m2 d2)
 have k4 := k3.put 3 (.slice B3 m3 d3)
 have k5 := k4.put 4 (.slice B4 m4 d4)
 exact ⟨((((h.apart hk (slices5 _ _ _ _ _ _ _ _ _ _ _ _ _ _ _) _ _).apart k1 (slices5 _ _ _ _ _ _ _ _ _ _ _ _ _ _ _) _ _).apart k2 (slices5 _ _ _ _ _ _ _ _ _ _ _ _ _ _ _) _ _).apart k3 (slices5 _ _ _ _ _ _ _ _ _ _ _ _ _ _ _) _ _).apart k4 (slices5 _ _ _ _ _ _ _ _ _ _ _ _ _ _ _) _ _, k5⟩
theorem work_fin {w w6 : World} {g : Nat} {t : TypeId} {S N G D T : Option Addr} {c1 c2 c3 c4 c5 : Nat} {r : Work} {x : Int} (h : RW w6 S N G D T r) (hk : Blk w6 g t #[.slice none 0 0, .slice none 0 0, .slice none 0 0, .slice none 0 0, .slice none 0 0]) (hb : Below w.heap.size w w6) (hg : w.heap.size ≤ g) :
 RetW w (r, x) (.returned (.tuple #[.agg #[.slice S r.a.s.length c1, .slice N r.a.n.length c2, .slice G r.a.g.length c3, .slice D r.d.length c4, .slice T r.t.length c5], .int .i64 x]))
  (((((w6.setCell ⟨g, 0, none⟩ (.slice S r.a.s.length c1)).setCell ⟨g, 1, none⟩ (.slice N r.a.n.length c2)).setCell ⟨g, 2, none⟩ (.slice G r.a.g.length c3)).setCell ⟨g, 3, none⟩ (.slice D r.d.length c4)).setCell ⟨g, 4, none⟩ (.slice T r.t.length c5)) :=
 ⟨S, N, G, D, T, c1, c2, c3, c4, c5, rfl, (h.put5 hk).1, ((((hb.setCell (p := ⟨g, 0, none⟩) hg _).setCell (p := ⟨g, 1, none⟩) hg _).setCell (p := ⟨g, 2, none⟩) hg _).setCell (p := ⟨g, 3, none⟩) hg _).setCell (p := ⟨g, 4, none⟩) hg _⟩
noncomputable def stW (xs ys : List Int) (M S : Nat) (r : (List Bool × List Int) × Int) : Work × Int := if r.2 ≠ 0 then (.none, r.2) else (⟨sumA xs ys M S r.1.1, r.1.1, r.1.2⟩, 0)
theorem stW_ok {xs ys : List Int} {M S : Nat} {r : (List Bool × List Int) × Int} {d : List Bool} {t : List Int} (h : r = ((d, t), 0)) : stW xs ys M S r = (⟨sumA xs ys M S d, d, t⟩, 0) := by subst h; simp [stW]
theorem stW_no {xs ys : List Int} {M S : Nat} {r : (List Bool × List Int) × Int} {x : Int} (h : r = (([], []), x)) (hx : x ≠ 0) : stW xs ys M S r = (.none, x) := by subst h; simp [stW, hx]
theorem step_ev {d : List Bool} {t : List Int} {k u b : Int} (h : isEvB d.length t.length k u b = false) : stepS d t ⟨k, u, b⟩ = (([], []), 2) := by
 unfold isEvB at h
 unfold stepS
 simp only
 by_cases h4 : k = 4
 ·subst h4
  rw [if_neg (by decide), if_neg (by decide), if_pos rfl] at h
  rw [if_pos rfl, if_pos (by
   simp only [Bool.and_eq_false_iff, beq_eq_false_iff_ne] at h
   omega)]
 rw [if_neg h4]
 by_cases h5 : k < 1 ∨ 3 < k ∨ u < 0 ∨ (t.length : Int) ≤ u
 ·rw [if_pos h5]
 rw [if_neg h5]
 have hu : decide (0 ≤ u) = true ∧ decide (u < (t.length : Int)) = true := by simp only [decide_eq_true_eq]; omega
 rw [hu.1, hu.2] at h
 by_cases h1 : k = 1
 ·rw [if_pos h1] at h ⊢
  rw [if_pos (by
   simp only [Bool.and_self, Bool.true_and, Bool.and_eq_false_iff, decide_eq_false_iff_not] at h
   omega)]
 ·rw [if_neg h1] at h ⊢
  rw [if_pos (show k = 2 ∨ k = 3 by omega)] at h
  rw [if_pos (by simpa using h)]
theorem ev_take {D T : Nat} {u b : Int} (h : isEvB D T 1 u b = true) : 0 ≤ u ∧ u < T ∧ 0 ≤ b ∧ b < D := by
 unfold isEvB at h
 rw [if_pos rfl] at h
 simp only [Bool.and_eq_true, decide_eq_true_eq] at h
 omega
theorem ev_done {D T : Nat} {k u b : Int} (hk : k = 2 ∨ k = 3) (h : isEvB D T k u b = true) : 0 ≤ u ∧ u < T ∧ b = 0 := by
 unfold isEvB at h
 rw [if_neg (by omega), if_pos hk] at h
 simp only [Bool.and_eq_true, decide_eq_true_eq, beq_iff_eq] at h
 omega
theorem ev_restart {D T : Nat} {u b : Int} (h : isEvB D T 4 u b = true) : u = 0 ∧ b = 0 := by
 unfold isEvB at h
 rw [if_neg (by decide), if_neg (by decide), if_pos rfl] at h
 simpa using h
theorem ev_kind {D T : Nat} {k u b : Int} (h : isEvB D T k u b = true) : k = 1 ∨ k = 2 ∨ k = 3 ∨ k = 4 := by
 unfold isEvB at h
 by_cases h1 : k = 1
 ·exact .inl h1
 by_cases h2 : k = 2 ∨ k = 3
 ·omega
 by_cases h4 : k = 4
 ·omega
 rw [if_neg h1, if_neg h2, if_neg h4] at h
 cases h
theorem step_take {d : List Bool} {t : List Int} {U b : Nat} (hu : U < t.length) (hb : b < d.length) : stepS d t ⟨1, U, b⟩ = if t.getD U 0 ≠ -1 ∨ d.getD b true = true then (([], []), 36) else ((d, t.set U (b : Int)), 0) := by
 unfold stepS
 simp only
 rw [if_neg (by decide), if_neg (by omega), if_pos trivial, if_neg (by omega)]
 simp only [Int.toNat_natCast]
theorem step_done {d : List Bool} {t : List Int} {k : Int} {U : Nat} (hk : k = 2 ∨ k = 3) (hu : U < t.length) : stepS d t ⟨k, U, 0⟩ = if t.getD U 0 = -1 then (([], []), 36) else ((if k = 2 then d.set (t.getD U 0).toNat true else d, t.set U (-1)), 0) := by
 unfold stepS
 simp only
 rw [if_neg (by omega), if_neg (by omega), if_neg (by omega), if_neg (by decide)]
 simp only [Int.toNat_natCast]
theorem step_restart {d : List Bool} {t : List Int} : stepS d t ⟨4, 0, 0⟩ = ((d, List.replicate t.length (-1)), 0) := by
 unfold stepS
 simp
end Wk
end Go.Proofs.Ytdekbncpodjgnaa
