/-
  Rows of elements of several cells: a list of elements, each laid as a list of cells of one length.
-/
import Derived.Test.YtjhigfhgchpjcaaWords
import Derived.Laws.MakeOwn
import Derived.Deep.AppendLies
namespace Go.Proofs.Ytjhigfhgchpjcaa
open Go.RowKit
set_option linter.unusedVariables false

section flat
variable {α : Type} (enc : α → List Value) (s : Nat) (hs : ∀ x, (enc x).length = s)
include hs
theorem flat_len (l : List α) : (l.flatMap enc).length = l.length * s := by
  induction l with
  | nil => simp
  | cons a l ih => simp [List.flatMap_cons, hs, ih, Nat.succ_mul, Nat.add_comm]
theorem flat_get (l : List α) (j i : Nat) (hi : i < s) (hj : j < l.length) : (l.flatMap enc)[j * s + i]? = (enc l[j])[i]? := by
  induction l generalizing j with
  | nil => simp at hj
  | cons a l ih =>
    rw [List.flatMap_cons]
    cases j with
    | zero => rw [Nat.zero_mul, Nat.zero_add, List.getElem?_append_left (by rw [hs]; exact hi)]; rfl
    | succ j =>
      rw [List.getElem?_append_right (by rw [hs, Nat.succ_mul]; omega), hs]
      have e : (j + 1) * s + i - s = j * s + i := by rw [Nat.succ_mul]; omega
      rw [e, ih j (by simpa using hj)]
      simp
theorem flat_set (l : List α) (j i : Nat) (hi : i < s) (hj : j < l.length) (u : Value) (x : α) (hx : (enc l[j]).set i u = enc x) : (l.flatMap enc).set (j * s + i) u = (l.set j x).flatMap enc := by
  induction l generalizing j with
  | nil => simp at hj
  | cons a l ih =>
    rw [List.flatMap_cons]
    cases j with
    | zero =>
      rw [Nat.zero_mul, Nat.zero_add, List.set_append_left _ _ (by rw [hs]; exact hi)]
      simp at hx
      simp [hx]
    | succ j =>
      rw [List.set_append_right _ _ (by rw [hs, Nat.succ_mul]; omega), hs]
      have e : (j + 1) * s + i - s = j * s + i := by rw [Nat.succ_mul]; omega
      rw [e, ih j (by simpa using hj) (by simpa using hx)]
      simp
end flat

/-- The cells of a row of zeros, made at once. -/
theorem made_flat {α : Type} (enc : α → List Value) (s : Nat) (hs : ∀ x, (enc x).length = s) (hp : 0 < s) (x0 : α) (n : Nat) : madeCells (enc x0).toArray (n * s) = ((List.replicate n x0).flatMap enc).toArray := by
  apply Array.ext
  · simp [size_madeCells, flat_len enc s hs]
  · intro k h1 h2
    have hk : k < n * s := by simpa [size_madeCells] using h1
    have hj : k / s < (List.replicate n x0).length := by simp; exact Nat.div_lt_of_lt_mul (by rw [Nat.mul_comm]; exact hk)
    have hi : k % s < s := Nat.mod_lt _ hp
    have e := flat_get enc s hs (List.replicate n x0) (k / s) (k % s) hi hj
    rw [Nat.div_add_mod'] at e
    have hlen : k % s < (enc x0).length := by rw [hs]; exact hi
    simp only [List.getElem_replicate] at e
    rw [List.getElem?_eq_getElem hlen] at e
    have e2 := List.getElem?_eq_some_iff.1 e
    obtain ⟨h3, h4⟩ := e2
    simp only [List.getElem_toArray]
    rw [h4]
    simp [madeCells, hs]
    rw [List.getElem?_eq_getElem hlen]
    rfl

theorem mk_row {P : Program} (t e : TypeId) {i : TypeInfo} {z : Value} {size bytes : Nat} (ht : P.underlying t = some (.slice e)) (hi : P.info? e = some i) (hz : i.zero = some z) (h1 : i.size = size) (h2 : i.bytes = bytes)
    {α : Type} (enc : α → List Value) (hs : ∀ x, (enc x).length = size) (hp : 0 < size) (x0 : α) (hx : z.cells = (enc x0).toArray) (n : Nat) (hb : bytes * n ≤ 281474976710656) (hn : n ≤ 9223372036854775807) (w : World) :
    (Instr.makeSlice t (.int .i64 (n : Int)) (.int .i64 (n : Int))).run P w = .ok (.slice (some ⟨w.heap.size, 0, none⟩) n n) (w.alloc (.cells ((List.replicate n x0).flatMap enc).toArray e)) := by
  subst h1; subst h2
  have hb' : (i.bytes : Int) * (n : Int) ≤ 281474976710656 := by
    have h : ((i.bytes * n : Nat) : Int) ≤ 281474976710656 := by omega
    rwa [Int.natCast_mul] at h
  have h := run_make (P := P) w t e i z ht hi hz .i64 .i64 (n : Int) (n : Int) (by omega) (by omega) hb' (by omega)
  simp only [Int.toNat_natCast] at h
  rw [h, hx, made_flat enc i.size hs hp]

/-- What is owned has the form of a slice. -/
theorem own_shape {w : World} {base : Nat} {e : TypeId} {size : Nat} {v : Value} {n : Nat} {xs : List Value} (h : w.ownsRow base e size v n xs) : ∃ A c, v = .slice A n c := by
  rcases h.2 with ⟨rfl, rfl⟩ | ⟨g, cap, _, rfl, _⟩
  · exact ⟨_, _, rfl⟩
  · exact ⟨_, _, rfl⟩
theorem own_keep {w w' : World} {base : Nat} {e : TypeId} {size : Nat} {v : Value} {n : Nat} {xs : List Value} (h : w.ownsRow base e size v n xs) (hb : Below w.heap.size w w') : w'.ownsRow base e size v n xs := by
  refine ⟨h.1, ?_⟩
  rcases h.2 with h2 | ⟨g, cap, cur, rfl, h3, h4, h5⟩
  · exact .inl h2
  · refine .inr ⟨g, cap, cur, rfl, h3, ?_, h5⟩
    have hg : g < w.heap.size := Blk.lt (t := e) (cs := cur) h4
    exact (hb.block g hg).trans h4
theorem own_blk {w : World} {base : Nat} {e : TypeId} {size : Nat} {cs : Array Value} {g n : Nat} (h : Blk w g e cs) (hb : base ≤ g) (hs : cs.size = n * size) (hn : n ≤ maxLen) : w.ownsRow base e size (.slice (some ⟨g, 0, none⟩) n n) n cs.toList :=
  ⟨by simpa using hs, .inr ⟨g, n, cs, rfl, hb, h, Nat.le_refl _, hn, hs, by rw [List.take_of_length_le (by simp; omega)]⟩⟩
/-- The block that is owned is not an older one. -/
theorem own_ne {w : World} {base : Nat} {e : TypeId} {size : Nat} {v : Value} {n : Nat} {xs : List Value} (h : w.ownsRow base e size v n xs) {b : Nat} (hb : b < base) : v.ownBlock ≠ some b := by
  intro e1
  have := (h.lt b e1).1
  omega
theorem own_below {w w' : World} {base B : Nat} {e : TypeId} {size : Nat} {v : Value} {n : Nat} {xs : List Value} {w0 : World} (hb : Below B w0 w) (h : w.ownsRow base e size v n xs) (hg : w.grownBy w' v.ownBlock) (h1 : B ≤ base) (h2 : B ≤ w.heap.size) : Below B w0 w' :=
  hb.grown hg h2 (fun k hk => Nat.le_trans h1 (h.lt k hk).1)

/-- The cells of a row that is owned, element by element. -/
theorem own_at {α : Type} {enc : α → List Value} {s : Nat} (hs : ∀ x, (enc x).length = s) {w : World} {base : Nat} {e : TypeId} {g c : Nat} {l : List α} (h : w.ownsRow base e s (.slice (some ⟨g, 0, none⟩) l.length c) l.length (l.flatMap enc)) {j i : Nat} (hj : j < l.length) (hi : i < s) :
    w.cell? ⟨g, j * s + i, none⟩ = (enc l[j])[i]? := by
  rw [h.cellAt (j * s + i) ?_, flat_get enc s hs l j i hi hj]
  calc j * s + i < j * s + s := by omega
    _ = (j + 1) * s := by rw [Nat.succ_mul]
    _ ≤ l.length * s := Nat.mul_le_mul_right _ (by omega)
theorem own_some {w : World} {base : Nat} {e : TypeId} {size : Nat} {A : Option Addr} {c : Nat} {n : Nat} {xs : List Value} (h : w.ownsRow base e size (.slice A n c) n xs) (hn : 0 < n) : ∃ g, A = some ⟨g, 0, none⟩ ∧ base ≤ g ∧ g < w.heap.size := by
  rcases h.2 with ⟨h1, h2⟩ | ⟨g, cap, cur, h1, h2, h3, _⟩
  · omega
  · injection h1 with h1
    subst h1
    exact ⟨g, rfl, h2, Blk.lt (t := e) (cs := cur) h3⟩

/-! ### rows of pairs of numbers -/
/-- The slice value '.slice A l.length c' reads as the list l of pairs (two int fields), in w. -/
def RL (w : World) (A : Option Addr) (l : List (Int × Int)) : Prop :=
  0 < l.length → ∃ b off, A = some ⟨b, off, none⟩ ∧ b < w.heap.size ∧ ∀ j, j < l.length → w.cell? ⟨b, off + j * 2, none⟩ = some (.int .i64 (l.getD j (0, 0)).1) ∧ w.cell? ⟨b, off + j * 2 + 1, none⟩ = some (.int .i64 (l.getD j (0, 0)).2)
theorem RL.keep {w w' : World} {A : Option Addr} {l : List (Int × Int)} (h : RL w A l) (hb : Below w.heap.size w w') : RL w' A l := by
  intro h0
  obtain ⟨b, off, e, hlt, hc⟩ := h h0
  exact ⟨b, off, e, Nat.lt_of_lt_of_le hlt hb.size, fun j hj => ⟨(hb.cell (p := ⟨b, off + j * 2, none⟩) hlt).trans (hc j hj).1, (hb.cell (p := ⟨b, off + j * 2 + 1, none⟩) hlt).trans (hc j hj).2⟩⟩
theorem RL.nil {w : World} {A : Option Addr} : RL w A [] := fun h => absurd h (by simp)
theorem RL.at_ {w : World} {A : Option Addr} {l : List (Int × Int)} {i : Nat} (h : RL w A l) (hi : i < l.length) :
    ∃ b off, A = some ⟨b, off, none⟩ ∧ b < w.heap.size ∧ w.cell? ⟨b, off + i * 2, none⟩ = some (.int .i64 (l.getD i (0, 0)).1) ∧ w.cell? ⟨b, off + i * 2 + 1, none⟩ = some (.int .i64 (l.getD i (0, 0)).2) := by
  obtain ⟨b, off, e, hlt, hc⟩ := h (by omega)
  exact ⟨b, off, e, hlt, (hc i hi).1, (hc i hi).2⟩


def encP (x : Int × Int) : List Value := [.int .i64 x.1, .int .i64 x.2]
theorem encP_len (x : Int × Int) : (encP x).length = 2 := rfl
theorem own_RL {w : World} {base : Nat} {e : TypeId} {A : Option Addr} {c : Nat} {l : List (Int × Int)} (h : w.ownsRow base e 2 (.slice A l.length c) l.length (l.flatMap encP)) : RL w A l := by
  intro h0
  obtain ⟨g, rfl, _, hg⟩ := own_some h h0
  refine ⟨g, 0, rfl, hg, fun j hj => ?_⟩
  have h1 := own_at encP_len h hj (i := 0) (by omega)
  have h2 := own_at encP_len h hj (i := 1) (by omega)
  rw [Nat.zero_add, getD_lt _ _ hj]
  exact ⟨by simpa [encP] using h1, by simpa [encP] using h2⟩
theorem blk_RL {w : World} {e : TypeId} {g : Nat} {l : List (Int × Int)} (h : Blk w g e (l.flatMap encP).toArray) : RL w (some ⟨g, 0, none⟩) l := by
  intro h0
  refine ⟨g, 0, rfl, h.lt, fun j hj => ?_⟩
  rw [Nat.zero_add, h.cell, h.cell, getD_lt _ _ hj]
  have h1 := flat_get encP 2 encP_len l j 0 (by omega) hj
  have h2 := flat_get encP 2 encP_len l j 1 (by omega) hj
  exact ⟨by simpa [encP] using h1, by simpa [encP] using h2⟩
theorem blkP_at {w : World} {e : TypeId} {g : Nat} {l : List (Int × Int)} (h : Blk w g e (l.flatMap encP).toArray) {j : Nat} (hj : j < l.length) :
    w.cell? ⟨g, j * 2, none⟩ = some (.int .i64 (l.getD j (0, 0)).1) ∧ w.cell? ⟨g, j * 2 + 1, none⟩ = some (.int .i64 (l.getD j (0, 0)).2) := by
  rw [h.cell, h.cell, getD_lt _ _ hj]
  have h1 := flat_get encP 2 encP_len l j 0 (by omega) hj
  have h2 := flat_get encP 2 encP_len l j 1 (by omega) hj
  exact ⟨by simpa [encP] using h1, by simpa [encP] using h2⟩
theorem blkP_set {w : World} {e : TypeId} {g : Nat} {l : List (Int × Int)} (h : Blk w g e (l.flatMap encP).toArray) {j : Nat} (hj : j < l.length) (x : Int × Int) :
    Blk ((w.setCell ⟨g, j * 2, none⟩ (.int .i64 x.1)).setCell ⟨g, j * 2 + 1, none⟩ (.int .i64 x.2)) g e ((l.set j x).flatMap encP).toArray := by
  have h1 := (h.put (j * 2) (.int .i64 x.1)).put (j * 2 + 1) (.int .i64 x.2)
  have e1 := flat_set encP 2 encP_len l j 0 (by omega) hj (.int .i64 x.1) (x.1, l[j].2) rfl
  have e2 := flat_set encP 2 encP_len (l.set j (x.1, l[j].2)) j 1 (by omega) (by simpa using hj) (.int .i64 x.2) x (by simp [encP])
  rw [List.setIfInBounds_toArray, List.setIfInBounds_toArray] at h1
  rw [Nat.add_zero] at e1
  rw [e1, e2] at h1
  simpa using h1

theorem encP_one (x : Int × Int) : ∀ u ∈ encP x, u.oneCell' = true := by simp [encP, Value.oneCell']
theorem encP_news (w : World) (x : Int × Int) (t : TypeId) : ∀ j u, (encP x)[j]? = some u → (w.alloc (.cells #[.int .i64 x.1, .int .i64 x.2] t)).cell? ((⟨w.heap.size, 0, none⟩ : Addr).add j) = some u :=
  World.news_of_block (cs := (encP x).toArray) (t := t) (fr := (0, 0)) (heap_alloc_new w _)
theorem flat_snoc {α : Type} (enc : α → List Value) (l : List α) (x : α) : (l ++ [x]).flatMap enc = l.flatMap enc ++ enc x := by simp

/-! ### rows of numbers -/
def encI (k : IntKind) (x : Int) : List Value := [.int k x]
theorem encI_len (k : IntKind) (x : Int) : (encI k x).length = 1 := rfl
theorem flatI (k : IntKind) (l : List Int) : l.flatMap (encI k) = l.map (.int k) := by
  induction l with
  | nil => rfl
  | cons a l ih => rw [List.flatMap_cons, ih]; rfl
theorem encI_one (k : IntKind) (x : Int) : ∀ u ∈ encI k x, u.oneCell' = true := by simp [encI, Value.oneCell']
theorem encI_news (w : World) (k : IntKind) (x : Int) (t : TypeId) : ∀ j u, (encI k x)[j]? = some u → (w.alloc (.cells #[.int k x] t)).cell? ((⟨w.heap.size, 0, none⟩ : Addr).add j) = some u :=
  World.news_of_block (cs := (encI k x).toArray) (t := t) (fr := (0, 0)) (heap_alloc_new w _)
theorem own_RI {k : IntKind} {w : World} {base : Nat} {e : TypeId} {A : Option Addr} {c : Nat} {l : List Int} (h : w.ownsRow base e 1 (.slice A l.length c) l.length (l.flatMap (encI k))) : RI k w A l := by
  intro h0
  obtain ⟨g, rfl, _, hg⟩ := own_some h h0
  refine ⟨g, 0, rfl, hg, fun j hj => ?_⟩
  have := own_at (encI_len k) h hj (i := 0) (by omega)
  rw [Nat.zero_add, getD_lt _ _ hj]
  simpa [encI] using this
theorem blk_RI {k : IntKind} {w : World} {e : TypeId} {g : Nat} {l : List Int} (h : Blk w g e (l.flatMap (encI k)).toArray) : RI k w (some ⟨g, 0, none⟩) l := by
  intro h0
  refine ⟨g, 0, rfl, h.lt, fun j hj => ?_⟩
  rw [Nat.zero_add, h.cell, getD_lt _ _ hj]
  have := flat_get (encI k) 1 (encI_len k) l j 0 (by omega) hj
  simpa [encI] using this
end Go.Proofs.Ytjhigfhgchpjcaa
