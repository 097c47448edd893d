/-
  Rows of slices that are filled one by one; grids: slices of new rows of numbers.
-/
import Derived.Test.YtnhjeelcgfobnaaPAppend
import Derived.Test.YtnhjeelcgfobnaaPFouG
namespace Go.Proofs.Ytnhjeelcgfobnaa
open Go.RowKit
set_option linter.unusedVariables false
set_option linter.unusedSimpArgs false
namespace Lol

theorem info_ints64 : (Try.prog.info? 31).map (fun i => (i.zero, i.size, i.bytes)) = some (some (.slice none 0 0), 1, 24) := by kernel_rfl
/-- The first slices of a row, and nil ones. -/
def rowC (raws : List Value) (n : Nat) : Array Value := (raws ++ List.replicate (n - raws.length) (Value.slice none 0 0)).toArray
theorem mk_slices (n : Nat) (hn : n ≤ 1000) (w : World) : (Instr.makeSlice 22 (.int .i64 (n : Int)) (.int .i64 (n : Int))).run Try.prog w = .ok (.slice (some ⟨w.heap.size, 0, none⟩) n n) (w.alloc (.cells (rowC [] n) 31)) := by
  obtain ⟨i0, hi0, hz0, hz1, hz2⟩ := info_parts info_ints64
  have h := mk_row (P := Try.prog) 22 31 Try.underlying22 hi0 hz0 hz1 hz2 (fun v : Value => [v]) (fun _ => rfl) (by omega) (.slice none 0 0) rfl n (by omega) (by omega) w
  have e : ((List.replicate n (Value.slice none 0 0)).flatMap fun v : Value => [v]).toArray = rowC [] n := by
    unfold rowC
    simp
  rw [e] at h
  exact h
theorem rowC_set {raws : List Value} {n : Nat} (h : raws.length < n) (v : Value) : (rowC raws n).setIfInBounds raws.length v = rowC (raws ++ [v]) n := by
  unfold rowC
  rw [List.setIfInBounds_toArray]
  congr 1
  apply List.ext_getElem (by simp; omega)
  intro i h1 h2
  rw [List.getElem_set]
  rcases Nat.lt_trichotomy i raws.length with h3 | h3 | h3
  · rw [if_neg (by omega), List.getElem_append_left h3, List.getElem_append_left (by simp; omega), List.getElem_append_left h3]
  · subst h3
    rw [if_pos rfl, List.getElem_append_left (by simp)]
    simp
  · rw [if_neg (by omega), List.getElem_append_right (by omega), List.getElem_append_right (by simp; omega)]
    simp
theorem rowC_at {raws : List Value} {n : Nat} (h : raws.length < n) : (rowC raws n)[raws.length]? = some (.slice none 0 0) := by
  unfold rowC
  rw [List.getElem?_toArray, List.getElem?_append_right (Nat.le_refl _), Nat.sub_self, List.getElem?_replicate, if_pos (by omega)]
theorem rowC_last {raws : List Value} {v : Value} {n k : Nat} (hk : raws.length = k) : (rowC (raws ++ [v]) n)[k]? = some v := by
  subst hk
  unfold rowC
  rw [List.getElem?_toArray, List.getElem?_append_left (by simp), List.getElem?_append_right (Nat.le_refl _), Nat.sub_self]
  rfl
theorem rowC_full {raws : List Value} {n : Nat} (h : raws.length = n) : rowC raws n = raws.toArray := by
  unfold rowC
  simp [h]
theorem Els_far {k : IntKind} {base : Nat} {w : World} {own : Option Nat} {raws : List Value} {L : List (List Int)} (h : Els k base w own raws L) {p : Addr} (hp : p.block < base) (u : Value) : Els k base (w.setCell p u) own raws L := by
  refine ⟨h.1, fun j h1 h2 => ?_⟩
  obtain ⟨A, c, e2, h3, h4, h5⟩ := h.2 j h1 h2
  exact ⟨A, c, e2, h3.far hp u, h4, h5⟩
/-- Slices of whole new rows of numbers, in blocks from base on and below top. -/
def Grid (base top : Nat) (w : World) (raws : List Value) (L : List (List Int)) : Prop :=
  raws.length = L.length ∧ ∀ j (h : j < raws.length) (h' : j < L.length), ∃ g, raws[j] = .slice (some ⟨g, 0, none⟩) L[j].length L[j].length ∧ base ≤ g ∧ g < top ∧ Blk w g 2 (L[j].flatMap (encI .i64)).toArray
theorem Grid.nil {base top : Nat} {w : World} : Grid base top w [] [] := ⟨rfl, fun j h => absurd h (by simp)⟩
theorem Grid.keep {base top : Nat} {w w' : World} {raws : List Value} {L : List (List Int)} (h : Grid base top w raws L) (hb : Below w.heap.size w w') : Grid base top w' raws L := by
  refine ⟨h.1, fun j h1 h2 => ?_⟩
  obtain ⟨g, e, h3, h4, h5⟩ := h.2 j h1 h2
  exact ⟨g, e, h3, h4, h5.keep hb⟩
theorem Grid.mono {base top top' : Nat} {w : World} {raws : List Value} {L : List (List Int)} (h : Grid base top w raws L) (ht : top ≤ top') : Grid base top' w raws L := by
  refine ⟨h.1, fun j h1 h2 => ?_⟩
  obtain ⟨g, e, h3, h4, h5⟩ := h.2 j h1 h2
  exact ⟨g, e, h3, Nat.lt_of_lt_of_le h4 ht, h5⟩
theorem Grid.far {base top : Nat} {w : World} {raws : List Value} {L : List (List Int)} (h : Grid base top w raws L) {p : Addr} (hp : p.block < base ∨ top ≤ p.block) (u : Value) : Grid base top (w.setCell p u) raws L := by
  refine ⟨h.1, fun j h1 h2 => ?_⟩
  obtain ⟨g, e, h3, h4, h5⟩ := h.2 j h1 h2
  exact ⟨g, e, h3, h4, h5.far (by omega) u⟩
theorem Grid.snoc {base top top' : Nat} {w : World} {raws : List Value} {L : List (List Int)} (h : Grid base top w raws L) {g n : Nat} {xs : List Int} (hn : xs.length = n) (hk : Blk w g 2 (xs.flatMap (encI .i64)).toArray) (hg : base ≤ g) (ht : g < top') (htt : top ≤ top') :
    Grid base top' w (raws ++ [.slice (some ⟨g, 0, none⟩) n n]) (L ++ [xs]) := by
  subst hn
  refine ⟨by simp [h.1], fun j h1 h2 => ?_⟩
  rcases Nat.lt_or_ge j raws.length with h3 | h3
  · rw [List.getElem_append_left h3]
    have h4 : j < L.length := by rw [← h.1]; exact h3
    obtain ⟨g', e, h5, h6, h7⟩ := h.2 j h3 h4
    exact ⟨g', by rw [List.getElem_append_left h4]; exact e, h5, by omega, by rw [List.getElem_append_left h4]; exact h7⟩
  · have e1 : j = raws.length := by simp at h1; omega
    have e2 : j = L.length := by rw [← h.1]; exact e1
    have e3 : (L ++ [xs])[j] = xs := by
      rw [List.getElem_append_right (by omega)]
      simp [e2]
    rw [List.getElem_append_right (by omega), e3]
    simp only [e1, Nat.sub_self, List.getElem_cons_zero]
    exact ⟨g, rfl, hg, ht, hk⟩
theorem Grid.els {base top : Nat} {w : World} {raws : List Value} {L : List (List Int)} (h : Grid base top w raws L) : Els .i64 base w none raws L := by
  refine ⟨h.1, fun j h1 h2 => ?_⟩
  obtain ⟨g, e, h3, h4, h5⟩ := h.2 j h1 h2
  exact ⟨_, _, e, blk_RIo h5 h3, Nat.le_refl _, fun _ _ _ _ => by simp⟩
/-- A new grid, and an error. -/
def RetG (w : World) (r : List (List Int) × Int) (e : Ending) (w' : World) : Prop :=
  ∃ A c, e = .returned (.tuple #[.slice A r.1.length c, .int .i64 r.2]) ∧ (r.1 = [] ∨ ∃ g raws, A = some ⟨g, 0, none⟩ ∧ w.heap.size ≤ g ∧ Blk w' g 31 raws.toArray ∧ Grid (g + 1) w'.heap.size w' raws r.1) ∧ Below w.heap.size w w'
theorem RetG.no {w w' : World} {x : Int} {r : List (List Int) × Int} (hr : r = ([], x)) (hb : Below w.heap.size w w') : RetG w r (.returned (.tuple #[.slice none 0 0, .int .i64 x])) w' := by
  subst hr; exact ⟨none, 0, rfl, .inl rfl, hb⟩
theorem RetG.grid {w w' : World} {g n c : Nat} {raws : List Value} {L : List (List Int)} {x : Int} {r : List (List Int) × Int} (hr : r = (L, x)) (hn : L.length = n) (hg : w.heap.size ≤ g) (hk : Blk w' g 31 raws.toArray) (hG : Grid (g + 1) w'.heap.size w' raws L) (hb : Below w.heap.size w w') : RetG w r (.returned (.tuple #[.slice (some ⟨g, 0, none⟩) n c, .int .i64 x])) w' := by
  subst hr; subst hn; exact ⟨_, c, rfl, .inr ⟨g, raws, rfl, hg, hk, hG⟩, hb⟩
theorem RetG.ll {w : World} {r : List (List Int) × Int} {e : Ending} {w' : World} (h : RetG w r e w') : RetLL .i64 w r e w' := by
  obtain ⟨A, c, he, h1, hb⟩ := h
  refine ⟨A, c, he, ?_, hb⟩
  rcases h1 with h1 | ⟨g, raws, rfl, _, hk, hG⟩
  · rw [h1]; exact RLL.nil
  · exact blk_RLL hk hG.els
end Lol
end Go.Proofs.Ytnhjeelcgfobnaa
