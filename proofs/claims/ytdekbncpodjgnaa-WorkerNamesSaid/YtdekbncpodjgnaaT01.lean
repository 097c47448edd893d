/-
  Parts of the proof of WorkerNames: Words RowsW Sample Rets Gen Sums.
-/
import Derived.WalkKit
import Derived.WalkSpells
import Derived.WalkLawsBesides
import Derived.Below
import Derived.Lib.Hide
import Derived.Laws.OwnMore
import Derived.Laws.Rows
import Derived.Deep.Draws
import Derived.Laws.MakeOwn
import Derived.Deep.AppendLies
import Derived.ProofKit
import Derived.OpenShut
import Derived.ChangeOld
import Derived.Deep.Slices
import Derived.Deep.SlicePairs
import Derived.Test.YtdekbncpodjgnaaProg
import Derived.Deep.QuietTactic
import Derived.BigQuiet
namespace Go.Proofs.Ytdekbncpodjgnaa
open Go.RowKit
def RI (k : IntKind) (w : World) (A : Option Addr) (xs : List Int) : Prop :=
 0 < xs.length → ∃ b off, A = some ⟨b, off, none⟩ ∧ b < w.heap.size ∧ ∀ j, j < xs.length → w.cell? ⟨b, off + j, none⟩ = some (.int k (xs.getD j 0))
theorem RI.keep {k : IntKind} {w w' : World} {A : Option Addr} {xs : List Int} (h : RI k w A xs) (hb : Below w.heap.size w w') : RI k w' A xs := by
 intro h0
 obtain ⟨b, off, e, hlt, hc⟩ := h h0
 exact ⟨b, off, e, Nat.lt_of_lt_of_le hlt hb.size, fun j hj => (hb.cell (p := ⟨b, off + j, none⟩) hlt).trans (hc j hj)⟩
theorem RI.nil {k : IntKind} {w : World} {A : Option Addr} : RI k w A [] := fun h => absurd h (by simp)
theorem RI.at_ {k : IntKind} {w : World} {A : Option Addr} {xs : List Int} {i : Nat} (h : RI k w A xs) (hi : i < xs.length) :
 ∃ b off, A = some ⟨b, off, none⟩ ∧ w.cell? ⟨b, off + i, none⟩ = some (.int k (xs.getD i 0)) := by
 obtain ⟨b, off, e, _, hc⟩ := h (by omega)
 exact ⟨b, off, e, hc i hi⟩
theorem ret_int {k : IntKind} {a b : Int} (h : a = b) : Ending.returned (.int k a) = .returned (.int k b) := by rw [h]
theorem ret_bool {a b : Bool} (h : a = b) : Ending.returned (.bool a) = .returned (.bool b) := by rw [h]
theorem getD_lt {α : Type} (xs : List α) (d : α) {k : Nat} (h : k < xs.length) : xs.getD k d = xs[k] := by
 simp [List.getD_eq_getElem?_getD, List.getElem?_eq_getElem h]
theorem bstep {w W w' : World} (h : Below w.heap.size w W) (hb : Below W.heap.size W w') : Below w.heap.size w w' := h.trans (hb.mono h.size)
theorem balloc {w W : World} (h : Below w.heap.size w W) (o : Obj) : Below w.heap.size w (W.alloc o) := h.alloc h.size o
def Blk (w : World) (g : Nat) (t : TypeId) (cs : Array Value) : Prop := w.heap[g]? = some (.cells cs t (0, 0))
theorem Blk.lt {w : World} {g : Nat} {t : TypeId} {cs : Array Value} (h : Blk w g t cs) : g < w.heap.size := by
 unfold Blk at h
 rcases Nat.lt_or_ge g w.heap.size with h1 | h1
 ·exact h1
 ·rw [Array.getElem?_eq_none h1] at h; cases h
theorem Blk.cell {w : World} {g : Nat} {t : TypeId} {cs : Array Value} (h : Blk w g t cs) (i : Nat) : w.cell? ⟨g, i, none⟩ = cs[i]? := cell_of_row w g i cs t (0, 0) h
theorem Blk.frozen {w : World} {g : Nat} {t : TypeId} {cs : Array Value} (h : Blk w g t cs) (i : Nat) : w.frozen? ⟨g, i, none⟩ = false := by
 unfold Blk at h; simp [World.frozen?, h]
theorem Blk.new (w : World) (t : TypeId) (cs : Array Value) : Blk (w.alloc (.cells cs t)) w.heap.size t cs := heap_alloc_new w _
theorem Blk.alloc {w : World} {g : Nat} {t : TypeId} {cs : Array Value} (h : Blk w g t cs) (o : Obj) : Blk (w.alloc o) g t cs := (Below.heap_alloc w o g h.lt).trans h
theorem Blk.drewN {w : World} {g : Nat} {t : TypeId} {cs : Array Value} (h : Blk w g t cs) (n : Nat) : Blk (w.drewN n) g t cs := h
theorem Blk.drew {w : World} {g : Nat} {t : TypeId} {cs : Array Value} (h : Blk w g t cs) : Blk w.drew g t cs := h
theorem Blk.put {w : World} {g : Nat} {t : TypeId} {cs : Array Value} (h : Blk w g t cs) (i : Nat) (u : Value) : Blk (w.setCell ⟨g, i, none⟩ u) g t (cs.setIfInBounds i u) := by
 unfold Blk at h ⊢; simp [World.setCell, Array.getElem?_modify, h]
theorem Blk.far {w : World} {g : Nat} {t : TypeId} {cs : Array Value} (h : Blk w g t cs) {p : Addr} (hp : g ≠ p.block) (u : Value) : Blk (w.setCell p u) g t cs := (Below.heap_setCell w p u g hp).trans h
theorem Blk.below {w w' : World} {B g : Nat} {t : TypeId} {cs : Array Value} (h : Blk w g t cs) (hb : Below B w w') (hg : g < B) : Blk w' g t cs := (hb.block g hg).trans h
theorem Blk.keep {w w' : World} {g : Nat} {t : TypeId} {cs : Array Value} (h : Blk w g t cs) (hb : Below w.heap.size w w') : Blk w' g t cs := h.below hb h.lt
theorem Blk.grown {w w' : World} {g : Nat} {t : TypeId} {cs : Array Value} {row : Option Nat} (h : Blk w g t cs) (hb : w.grownBy w' row) (hg : some g ≠ row) : Blk w' g t cs := (hb.block g h.lt hg).trans h
end Go.Proofs.Ytdekbncpodjgnaa
namespace Go.Proofs.Ytdekbncpodjgnaa
open Go.RowKit
set_option linter.unusedVariables false
section flat
variable {α : Type} (enc : α → List Value) (s : Nat) (hs : ∀ x, (enc x).length = s)
include hs
theorem flat_len (l : List α) : (l.flatMap enc).length = l.length * s := by
 induction l with
 | nil => simp
 | cons a l ih => simp [List.flatMap_cons, hs, ih, Nat.succ_mul, Nat.add_comm]
theorem flat_get (l : List α) (j i : Nat) (hi : i < s) (hj : j < l.length) : (l.flatMap enc)[j * s + i]? = (enc l[j])[i]? := by
 induction l generalizing j with
 | nil => simp at hj
 | cons a l ih =>
  rw [List.flatMap_cons]
  cases j with
  | zero => rw [Nat.zero_mul, Nat.zero_add, List.getElem?_append_left (by rw [hs]; exact hi)]; rfl
  | succ j =>
   rw [List.getElem?_append_right (by rw [hs, Nat.succ_mul]; omega), hs]
   have e : (j + 1) * s + i - s = j * s + i := by rw [Nat.succ_mul]; omega
   rw [e, ih j (by simpa using hj)]
   simp
theorem flat_set (l : List α) (j i : Nat) (hi : i < s) (hj : j < l.length) (u : Value) (x : α) (hx : (enc l[j]).set i u = enc x) : (l.flatMap enc).set (j * s + i) u = (l.set j x).flatMap enc := by
 induction l generalizing j with
 | nil => simp at hj
 | cons a l ih =>
  rw [List.flatMap_cons]
  cases j with
  | zero =>
   rw [Nat.zero_mul, Nat.zero_add, List.set_append_left _ _ (by rw [hs]; exact hi)]
   simp at hx
   simp [hx]
  | succ j =>
   rw [List.set_append_right _ _ (by rw [hs, Nat.succ_mul]; omega), hs]
   have e : (j + 1) * s + i - s = j * s + i := by rw [Nat.succ_mul]; omega
   rw [e, ih j (by simpa using hj) (by simpa using hx)]
   simp
end flat
theorem made_flat {α : Type} (enc : α → List Value) (s : Nat) (hs : ∀ x, (enc x).length = s) (hp : 0 < s) (x0 : α) (n : Nat) : madeCells (enc x0).toArray (n * s) = ((List.replicate n x0).flatMap enc).toArray := by
 apply Array.ext
 ·simp [size_madeCells, flat_len enc s hs]
 ·intro k h1 h2
  have hk : k < n * s := by simpa [size_madeCells] using h1
  have hj : k / s < (List.replicate n x0).length := by simp; exact Nat.div_lt_of_lt_mul (by rw [Nat.mul_comm]; exact hk)
  have hi : k % s < s := Nat.mod_lt _ hp
  have e := flat_get enc s hs (List.replicate n x0) (k / s) (k % s) hi hj
  rw [Nat.div_add_mod'] at e
  have hlen : k % s < (enc x0).length := by rw [hs]; exact hi
  simp only [List.getElem_replicate] at e
  rw [List.getElem?_eq_getElem hlen] at e
  have e2 := List.getElem?_eq_some_iff.1 e
  obtain ⟨h3, h4⟩ := e2
  simp only [List.getElem_toArray]
  rw [h4]
  simp [madeCells, hs]
  rw [List.getElem?_eq_getElem hlen]
  rfl
theorem mk_row {P : Program} (t e : TypeId) {i : TypeInfo} {z : Value} {size bytes : Nat} (ht : P.underlying t = some (.slice e)) (hi : P.info? e = some i) (hz : i.zero = some z) (h1 : i.size = size) (h2 : i.bytes = bytes)
 {α : Type} (enc : α → List Value) (hs : ∀ x, (enc x).length = size) (hp : 0 < size) (x0 : α) (hx : z.cells = (enc x0).toArray) (n : Nat) (hb : bytes * n ≤ 281474976710656) (hn : n ≤ 9223372036854775807) (w : World) :
 (Instr.makeSlice t (.int .i64 (n : Int)) (.int .i64 (n : Int))).run P w = .ok (.slice (some ⟨w.heap.size, 0, none⟩) n n) (w.alloc (.cells ((List.replicate n x0).flatMap enc).toArray e)) := by
 subst h1; subst h2
 have hb' : (i.bytes : Int) * (n : Int) ≤ 281474976710656 := by
  have h : ((i.bytes * n : Nat) : Int) ≤ 281474976710656 := by omega
  rwa [Int.natCast_mul] at h
 have h := run_make (P := P) w t e i z ht hi hz .i64 .i64 (n : Int) (n : Int) (by omega) (by omega) hb' (by omega)
 simp only [Int.toNat_natCast] at h
 rw [h, hx, made_flat enc i.size hs hp]
theorem own_shape {w : World} {base : Nat} {e : TypeId} {size : Nat} {v : Value} {n : Nat} {xs : List Value} (h : w.ownsRow base e size v n xs) : ∃ A c, v = .slice A n c := by
 rcases h.2 with ⟨rfl, rfl⟩ | ⟨g, cap, _, rfl, _⟩
 ·exact ⟨_, _, rfl⟩
 ·exact ⟨_, _, rfl⟩
theorem own_keep {w w' : World} {base : Nat} {e : TypeId} {size : Nat} {v : Value} {n : Nat} {xs : List Value} (h : w.ownsRow base e size v n xs) (hb : Below w.heap.size w w') : w'.ownsRow base e size v n xs := by
 refine ⟨h.1, ?_⟩
 rcases h.2 with h2 | ⟨g, cap, cur, rfl, h3, h4, h5⟩
 ·exact .inl h2
 ·refine .inr ⟨g, cap, cur, rfl, h3, ?_, h5⟩
  have hg : g < w.heap.size := Blk.lt (t := e) (cs := cur) h4
  exact (hb.block g hg).trans h4
theorem own_blk {w : World} {base : Nat} {e : TypeId} {size : Nat} {cs : Array Value} {g n : Nat} (h : Blk w g e cs) (hb : base ≤ g) (hs : cs.size = n * size) (hn : n ≤ maxLen) : w.ownsRow base e size (.slice (some ⟨g, 0, none⟩) n n) n cs.toList :=
 ⟨by simpa using hs, .inr ⟨g, n, cs, rfl, hb, h, Nat.le_refl _, hn, hs, by rw [List.take_of_length_le (by simp; omega)]⟩⟩
theorem own_below {w w' : World} {base B : Nat} {e : TypeId} {size : Nat} {v : Value} {n : Nat} {xs : List Value} {w0 : World} (hb : Below B w0 w) (h : w.ownsRow base e size v n xs) (hg : w.grownBy w' v.ownBlock) (h1 : B ≤ base) (h2 : B ≤ w.heap.size) : Below B w0 w' :=
 hb.grown hg h2 (fun k hk => Nat.le_trans h1 (h.lt k hk).1)
theorem own_at {α : Type} {enc : α → List Value} {s : Nat} (hs : ∀ x, (enc x).length = s) {w : World} {base : Nat} {e : TypeId} {g c : Nat} {l : List α} (h : w.ownsRow base e s (.slice (some ⟨g, 0, none⟩) l.length c) l.length (l.flatMap enc)) {j i : Nat} (hj : j < l.length) (hi : i < s) :
 w.cell? ⟨g, j * s + i, none⟩ = (enc l[j])[i]? := by
 rw [h.cellAt (j * s + i) ?_, flat_get enc s hs l j i hi hj]
 calc j * s + i < j * s + s := by omega
  _ = (j + 1) * s := by rw [Nat.succ_mul]
  _ ≤ l.length * s := Nat.mul_le_mul_right _ (by omega)
theorem own_some {w : World} {base : Nat} {e : TypeId} {size : Nat} {A : Option Addr} {c : Nat} {n : Nat} {xs : List Value} (h : w.ownsRow base e size (.slice A n c) n xs) (hn : 0 < n) : ∃ g, A = some ⟨g, 0, none⟩ ∧ base ≤ g ∧ g < w.heap.size := by
 rcases h.2 with ⟨h1, h2⟩ | ⟨g, cap, cur, h1, h2, h3, _⟩
 ·omega
 ·injection h1 with h1
  subst h1
  exact ⟨g, rfl, h2, Blk.lt (t := e) (cs := cur) h3⟩
def RL (w : World) (A : Option Addr) (l : List (Int × Int)) : Prop :=
 0 < l.length → ∃ b off, A = some ⟨b, off, none⟩ ∧ b < w.heap.size ∧ ∀ j, j < l.length → w.cell? ⟨b, off + j * 2, none⟩ = some (.int .i64 (l.getD j (0, 0)).1) ∧ w.cell? ⟨b, off + j * 2 + 1, none⟩ = some (.int .i64 (l.getD j (0, 0)).2)
theorem RL.keep {w w' : World} {A : Option Addr} {l : List (Int × Int)} (h : RL w A l) (hb : Below w.heap.size w w') : RL w' A l := by
 intro h0
 obtain ⟨b, off, e, hlt, hc⟩ := h h0
 exact ⟨b, off, e, Nat.lt_of_lt_of_le hlt hb.size, fun j hj => ⟨(hb.cell (p := ⟨b, off + j * 2, none⟩) hlt).trans (hc j hj).1, (hb.cell (p := ⟨b, off + j * 2 + 1, none⟩) hlt).trans (hc j hj).2⟩⟩
theorem RL.nil {w : World} {A : Option Addr} : RL w A [] := fun h => absurd h (by simp)
theorem RL.at_ {w : World} {A : Option Addr} {l : List (Int × Int)} {i : Nat} (h : RL w A l) (hi : i < l.length) :
 ∃ b off, A = some ⟨b, off, none⟩ ∧ b < w.heap.size ∧ w.cell? ⟨b, off + i * 2, none⟩ = some (.int .i64 (l.getD i (0, 0)).1) ∧ w.cell? ⟨b, off + i * 2 + 1, none⟩ = some (.int .i64 (l.getD i (0, 0)).2) := by
 obtain ⟨b, off, e, hlt, hc⟩ := h (by omega)
 exact ⟨b, off, e, hlt, (hc i hi).1, (hc i hi).2⟩
def encP (x : Int × Int) : List Value := [.int .i64 x.1, .int .i64 x.2]
theorem encP_len (x : Int × Int) : (encP x).length = 2 := rfl
theorem own_RL {w : World} {base : Nat} {e : TypeId} {A : Option Addr} {c : Nat} {l : List (Int × Int)} (h : w.ownsRow base e 2 (.slice A l.length c) l.length (l.flatMap encP)) : RL w A l := by
 intro h0
 obtain ⟨g, rfl, _, hg⟩ := own_some h h0
 refine ⟨g, 0, rfl, hg, fun j hj => ?_⟩
 have h1 := own_at encP_len h hj (i := 0) (by omega)
 have h2 := own_at encP_len h hj (i := 1) (by omega)
 rw [Nat.zero_add, getD_lt _ _ hj]
 exact ⟨by simpa [encP] using h1, by simpa [encP] using h2⟩
theorem blk_RL {w : World} {e : TypeId} {g : Nat} {l : List (Int × Int)} (h : Blk w g e (l.flatMap encP).toArray) : RL w (some ⟨g, 0, none⟩) l := by
 intro h0
 refine ⟨g, 0, rfl, h.lt, fun j hj => ?_⟩
 rw [Nat.zero_add, h.cell, h.cell, getD_lt _ _ hj]
 have h1 := flat_get encP 2 encP_len l j 0 (by omega) hj
 have h2 := flat_get encP 2 encP_len l j 1 (by omega) hj
 exact ⟨by simpa [encP] using h1, by simpa [encP] using h2⟩
theorem blkP_at {w : World} {e : TypeId} {g : Nat} {l : List (Int × Int)} (h : Blk w g e (l.flatMap encP).toArray) {j : Nat} (hj : j < l.length) :
 w.cell? ⟨g, j * 2, none⟩ = some (.int .i64 (l.getD j (0, 0)).1) ∧ w.cell? ⟨g, j * 2 + 1, none⟩ = some (.int .i64 (l.getD j (0, 0)).2) := by
 rw [h.cell, h.cell, getD_lt _ _ hj]
 have h1 := flat_get encP 2 encP_len l j 0 (by omega) hj
 have h2 := flat_get encP 2 encP_len l j 1 (by omega) hj
 exact ⟨by simpa [encP] using h1, by simpa [encP] using h2⟩
theorem blkP_set {w : World} {e : TypeId} {g : Nat} {l : List (Int × Int)} (h : Blk w g e (l.flatMap encP).toArray) {j : Nat} (hj : j < l.length) (x : Int × Int) :
 Blk ((w.setCell ⟨g, j * 2, none⟩ (.int .i64 x.1)).setCell ⟨g, j * 2 + 1, none⟩ (.int .i64 x.2)) g e ((l.set j x).flatMap encP).toArray := by
 have h1 := (h.put (j * 2) (.int .i64 x.1)).put (j * 2 + 1) (.int .i64 x.2)
 have e1 := flat_set encP 2 encP_len l j 0 (by omega) hj (.int .i64 x.1) (x.1, l[j].2) rfl
 have e2 := flat_set encP 2 encP_len (l.set j (x.1, l[j].2)) j 1 (by omega) (by simpa using hj) (.int .i64 x.2) x (by simp [encP])
 rw [List.setIfInBounds_toArray, List.setIfInBounds_toArray] at h1
 rw [Nat.add_zero] at e1
 rw [e1, e2] at h1
 simpa using h1
theorem encP_one (x : Int × Int) : ∀ u ∈ encP x, u.oneCell' = true := by simp [encP, Value.oneCell']
theorem encP_news (w : World) (x : Int × Int) (t : TypeId) : ∀ j u, (encP x)[j]? = some u → (w.alloc (.cells #[.int .i64 x.1, .int .i64 x.2] t)).cell? ((⟨w.heap.size, 0, none⟩ : Addr).add j) = some u :=
 World.news_of_block (cs := (encP x).toArray) (t := t) (fr := (0, 0)) (heap_alloc_new w _)
theorem flat_snoc {α : Type} (enc : α → List Value) (l : List α) (x : α) : (l ++ [x]).flatMap enc = l.flatMap enc ++ enc x := by simp
def encI (k : IntKind) (x : Int) : List Value := [.int k x]
theorem encI_len (k : IntKind) (x : Int) : (encI k x).length = 1 := rfl
theorem flatI (k : IntKind) (l : List Int) : l.flatMap (encI k) = l.map (.int k) := by
 induction l with
 | nil => rfl
 | cons a l ih => rw [List.flatMap_cons, ih]; rfl
theorem encI_one (k : IntKind) (x : Int) : ∀ u ∈ encI k x, u.oneCell' = true := by simp [encI, Value.oneCell']
theorem own_RI {k : IntKind} {w : World} {base : Nat} {e : TypeId} {A : Option Addr} {c : Nat} {l : List Int} (h : w.ownsRow base e 1 (.slice A l.length c) l.length (l.flatMap (encI k))) : RI k w A l := by
 intro h0
 obtain ⟨g, rfl, _, hg⟩ := own_some h h0
 refine ⟨g, 0, rfl, hg, fun j hj => ?_⟩
 have := own_at (encI_len k) h hj (i := 0) (by omega)
 rw [Nat.zero_add, getD_lt _ _ hj]
 simpa [encI] using this
theorem blk_RI {k : IntKind} {w : World} {e : TypeId} {g : Nat} {l : List Int} (h : Blk w g e (l.flatMap (encI k)).toArray) : RI k w (some ⟨g, 0, none⟩) l := by
 intro h0
 refine ⟨g, 0, rfl, h.lt, fun j hj => ?_⟩
 rw [Nat.zero_add, h.cell, getD_lt _ _ hj]
 have := flat_get (encI k) 1 (encI_len k) l j 0 (by omega) hj
 simpa [encI] using this
end Go.Proofs.Ytdekbncpodjgnaa
namespace Go.Proofs.Ytdekbncpodjgnaa
open Go.RowKit
set_option linter.unusedVariables false
def digitOf (x : Int) : Int := if x = 0 then 0 else if x = -3 then 1 else if x = -1 then 2 else if x = 1 then 3 else if x = 3 then 4 else -1
theorem digit_any (x : Int) (w : World) :
 Calls Try.prog 59 #[.int .i64 x] w fun e w' => e = .returned (.int .i64 (digitOf x)) ∧ w = w' := by
 go_enter Try.func59, Try.ntmps59
 go_wp2
 all_goals go_ret
 all_goals (refine ⟨ret_int ?_, rfl⟩; simp_all [digitOf])
def streamErr (xs : List Int) : Int := if 256 < xs.length then 4 else if xs.all (fun x => decide (0 ≤ digitOf x)) then 0 else 8
theorem streamErr_ok {xs : List Int} (h1 : xs.length ≤ 256) (h2 : ∀ x ∈ xs, 0 ≤ digitOf x) : streamErr xs = 0 := by
 unfold streamErr
 rw [if_neg (by omega), if_pos (by simpa using h2)]
theorem streamErr_bad {xs : List Int} {k : Nat} (h1 : xs.length ≤ 256) (hk : k < xs.length) (h2 : digitOf xs[k] < 0) : streamErr xs = 8 := by
 unfold streamErr
 rw [if_neg (by omega), if_neg]
 simp only [List.all_eq_true, decide_eq_true_eq]
 intro h
 have := h _ (List.getElem_mem hk)
 omega
theorem take_all_snoc {p : Int → Prop} {xs : List Int} {k : Nat} (hk : k < xs.length) (h : ∀ x ∈ xs.take k, p x) (h2 : p xs[k]) : ∀ x ∈ xs.take (k + 1), p x := by
 intro x hx
 rw [List.take_succ_eq_append_getElem hk] at hx
 simp only [List.mem_append, List.mem_singleton] at hx
 rcases hx with hx | rfl
 ·exact h x hx
 ·exact h2
theorem sampleCheck_any (A : Option Addr) (c : Nat) (xs : List Int) (w : World) (hx : RI .i64 w A xs) (hl : xs.length ≤ 140737488355328) :
 Calls Try.prog 46 #[.slice A xs.length c] w fun e w' => e = .returned (.int .i64 (streamErr xs)) ∧ w = w' := by
 go_enter Try.func46, Try.ntmps46
 go_wp2
 ·go_ret
  exact ⟨ret_int (by simp [streamErr]; omega), rfl⟩
 go_loop [4, 10] (fun _ i => ∃ k : Nat, k ≤ xs.length ∧ i = .int .i64 k ∧ Hid (∀ x ∈ xs.take k, 0 ≤ digitOf x)) (fun _ i => xs.length - (intOf i).toNat)
 case atStart => exact ⟨0, Nat.zero_le _, rfl, Lib.hid (by simp)⟩
 case round =>
  obtain ⟨k, hk, rfl, hall⟩ := hrel
  by_cases hlt : k < xs.length
  ·obtain ⟨b, off, rfl, hc⟩ := hx.at_ hlt
   go_wp2_with (go_at_call 59; refine (digit_any _ _).mono ?_; rintro e w' ⟨rfl, rfl⟩)
   ·go_ret
    exact ⟨ret_int (streamErr_bad (by omega) hlt (by assumption)).symm, rfl⟩
   ·go_round
    case rel => exact ⟨k + 1, by omega, by go_num, Lib.hid (take_all_snoc hlt hall.out (by assumption))⟩
    case measure => simp [intOf]; omega
  ·go_wp2
   go_ret
   exact ⟨ret_int (streamErr_ok (by omega) (by have := hall.out; rwa [List.take_of_length_le (by omega)] at this)).symm, rfl⟩
theorem list_ne_of_getD {xs ys : List Int} {k : Nat} (h : xs.getD k 0 ≠ ys.getD k 0) : decide (xs = ys) = false := by
 simp only [decide_eq_false_iff_not]
 intro e
 exact h (by rw [e])
theorem list_eq_of_getD {xs ys : List Int} (hl : xs.length = ys.length) (h : ∀ j, j < xs.length → xs.getD j 0 = ys.getD j 0) : xs = ys := by
 apply List.ext_getElem hl
 intro j h1 h2
 have := h j h1
 simpa [List.getD_eq_getElem?_getD, List.getElem?_eq_getElem h1, List.getElem?_eq_getElem h2] using this
theorem all_lt_succ {p : Nat → Prop} {k : Nat} (h : ∀ j, j < k → p j) (hk : p k) : ∀ j, j < k + 1 → p j := by
 intro j hj
 rcases Nat.lt_or_ge j k with h1 | h1
 ·exact h j h1
 ·obtain rfl : j = k := by omega
  exact hk
theorem same13_any (A B : Option Addr) (c d : Nat) (xs ys : List Int) (w : World) (hx : RI .i64 w A xs) (hy : RI .i64 w B ys) (hl : xs.length ≤ 140737488355328) (hl2 : ys.length ≤ 140737488355328) :
 Calls Try.prog 20 #[.slice A xs.length c, .slice B ys.length d] w fun e w' => e = .returned (.bool (decide (xs = ys))) ∧ ∃ n, w' = w.drewN n := by
 by_cases hlen : xs.length = ys.length
 ·have h2 : ((xs.length : Int) != ys.length) = false := by simp; omega
  have hle : xs.length ≤ ys.length := by omega
  have HL := Lib.hid hlen
  clear hlen
  go_enter Try.func20, Try.ntmps20
  go_wp2
  go_loopw [5] (fun i wr => ∃ k n : Nat, k ≤ xs.length ∧ i = .int .i64 k ∧ wr = w.drewN n ∧ Hid (∀ j, j < k → xs.getD j 0 = ys.getD j 0)) (fun i _ => xs.length - (intOf i).toNat)
  case atStart => exact ⟨0, 0, Nat.zero_le _, rfl, rfl, Lib.hid (by simp)⟩
  case round =>
   obtain ⟨k, n, hk, rfl, rfl, hall⟩ := hrel
   by_cases hlt : k < xs.length
   ·obtain ⟨b, off, rfl, hc⟩ := hx.at_ hlt
    have hlt2 := Nat.lt_of_lt_of_le hlt hle
    obtain ⟨b2, off2, rfl, hc2⟩ := hy.at_ hlt2
    go_wp2
    go_quiet (fail)
    go_wp2
    ·have hv : (xs[k] != ys[k]) = true := by assumption
     go_ret
     refine ⟨ret_bool (list_ne_of_getD (k := k) ?_).symm, n + nq, by first | rfl | rw [World.drewN_drewN]⟩
     simpa [List.getD_eq_getElem?_getD, hlt, hlt2] using hv
    ·have hv : (xs[k] != ys[k]) = false := by assumption
     go_roundw
     case rel => exact ⟨k + 1, _, by omega, by go_num, rfl, Lib.hid (all_lt_succ hall.out (by simpa [List.getD_eq_getElem?_getD, hlt, hlt2] using hv))⟩
     case measure => simp [intOf]; omega
   ·go_wp2
    go_ret
    refine ⟨ret_bool ?_, _, rfl⟩
    symm
    rw [decide_eq_true_eq]
    exact list_eq_of_getD HL.out (fun j hj => hall.out j (by omega))
 ·have h2 : ((xs.length : Int) != ys.length) = true := by simp; omega
  go_enter Try.func20, Try.ntmps20
  go_wp2
  go_ret
  exact ⟨ret_bool (by symm; simp; intro h; exact hlen (by rw [h])), 0, rfl⟩
end Go.Proofs.Ytdekbncpodjgnaa
namespace Go.Proofs.Ytdekbncpodjgnaa
open Go.RowKit
set_option linter.unusedVariables false
def RetQ (t : TypeId) (w : World) (r : List (Int × Int) × Int) (e : Ending) (w' : World) : Prop :=
 ∃ A c, e = .returned (.tuple #[.slice A r.1.length c, .int .i64 r.2]) ∧ w'.ownsRow w.heap.size t 2 (.slice A r.1.length c) r.1.length (r.1.flatMap encP) ∧ Below w.heap.size w w'
theorem RetQ.nil {t : TypeId} {w w' : World} {x : Int} {r : List (Int × Int) × Int} (hr : r = ([], x)) (hb : Below w.heap.size w w') : RetQ t w r (.returned (.tuple #[.slice none 0 0, .int .i64 x])) w' := by
 subst hr
 exact ⟨none, 0, rfl, World.ownsRow_nil _ _ _ _, hb⟩
theorem blkI_at {k : IntKind} {w : World} {e : TypeId} {g : Nat} {l : List Int} (h : Blk w g e (l.flatMap (encI k)).toArray) {j : Nat} (hj : j < l.length) :
 w.cell? ⟨g, j, none⟩ = some (.int k (l.getD j 0)) := by
 rw [h.cell, getD_lt _ _ hj]
 have h1 := flat_get (encI k) 1 (encI_len k) l j 0 (by omega) hj
 simpa [encI] using h1
theorem blkI_set {k : IntKind} {w : World} {e : TypeId} {g : Nat} {l : List Int} (h : Blk w g e (l.flatMap (encI k)).toArray) {j : Nat} (hj : j < l.length) (x : Int) :
 Blk (w.setCell ⟨g, j, none⟩ (.int k x)) g e ((l.set j x).flatMap (encI k)).toArray := by
 have h1 := h.put j (.int k x)
 have e1 := flat_set (encI k) 1 (encI_len k) l j 0 (by omega) hj (.int k x) x rfl
 rw [Nat.mul_one, Nat.add_zero] at e1
 rw [List.setIfInBounds_toArray, e1] at h1
 exact h1
theorem RI.at2 {k : IntKind} {w : World} {A : Option Addr} {xs : List Int} {i : Nat} (h : RI k w A xs) (hi : i < xs.length) :
 ∃ b off, A = some ⟨b, off, none⟩ ∧ b < w.heap.size ∧ w.cell? ⟨b, off + i, none⟩ = some (.int k (xs.getD i 0)) := by
 obtain ⟨b, off, e, h1, hc⟩ := h (by omega)
 exact ⟨b, off, e, h1, hc i hi⟩
theorem own_shape' {w : World} {base : Nat} {e : TypeId} {size : Nat} {v : Value} {n : Nat} {xs : List Value} (h : w.ownsRow base e size v n xs) : ∃ A c, v = .slice A n c ∧ n ≤ c := by
 rcases h.2 with ⟨rfl, rfl⟩ | ⟨g, cap, _, rfl, _, _, h1, _⟩
 ·exact ⟨_, _, rfl, Nat.le_refl _⟩
 ·exact ⟨_, _, rfl, h1⟩
theorem Blk.newAt {w : World} {g : Nat} (t : TypeId) (cs : Array Value) (h : w.heap.size = g) : Blk (w.alloc (.cells cs t)) g t cs := by subst h; exact Blk.new w t cs
theorem RI_lit' {W : World} {A : Option Addr} {g : Nat} {t : TypeId} {k : IntKind} (xs : List Int) (cs : Array Value) (hA : A = some ⟨g, 0, none⟩) (h : Blk W g t cs) (hc : cs = (xs.map (.int k)).toArray) : RI k W A xs := by
 subst hA; subst hc
 apply blk_RI (e := t)
 rw [flatI]
 exact h
theorem own_RL_at {w : World} {base : Nat} {e : TypeId} {A : Option Addr} {c n : Nat} {l : List (Int × Int)} (hn : l.length = n) (h : w.ownsRow base e 2 (.slice A n c) n (l.flatMap encP)) : RL w A l := by
 subst hn; exact own_RL h
theorem RL_lit {W : World} {g : Nat} {t : TypeId} (l : List (Int × Int)) (cs : Array Value) (h : Blk W g t cs) (hc : cs = (l.flatMap encP).toArray) : RL W (some ⟨g, 0, none⟩) l := by
 subst hc; exact blk_RL h
end Go.Proofs.Ytdekbncpodjgnaa
namespace Go.Proofs.Ytdekbncpodjgnaa
open Go.RowKit
set_option linter.unusedVariables false
def partL {α : Type} (f : Nat → α) (d : α) (n k : Nat) : List α := (List.range n).map (fun i => if i < k then f i else d)
def fullL {α : Type} (f : Nat → α) (n : Nat) : List α := (List.range n).map f
theorem partL_len {α : Type} (f : Nat → α) (d : α) (n k : Nat) : (partL f d n k).length = n := by simp [partL]
theorem fullL_len {α : Type} (f : Nat → α) (n : Nat) : (fullL f n).length = n := by simp [fullL]
theorem partL_start {α : Type} (f : Nat → α) (d : α) (n : Nat) : partL f d n 0 = List.replicate n d := by
 apply List.ext_getElem (by simp [partL])
 intro i h1 h2
 simp [partL]
theorem partL_set {α : Type} (f : Nat → α) (d : α) (n k : Nat) (y : α) (hy : y = f k) : (partL f d n k).set k y = partL f d n (k + 1) := by
 subst hy
 apply List.ext_getElem (by simp [partL])
 intro i h1 h2
 simp only [partL, List.getElem_set, List.getElem_map, List.getElem_range]
 by_cases e : k = i
 ·subst e; rw [if_pos rfl, if_pos (by omega)]
 ·rw [if_neg e]
  by_cases h : i < k
  ·rw [if_pos h, if_pos (by omega)]
  ·rw [if_neg h, if_neg (by omega)]
theorem partL_end {α : Type} (f : Nat → α) (d : α) (n k : Nat) (h : n ≤ k) : partL f d n k = fullL f n := by
 apply List.ext_getElem (by simp [partL, fullL])
 intro i h1 h2
 have : i < n := by simpa [partL] using h1
 simp only [partL, fullL, List.getElem_map, List.getElem_range]
 rw [if_pos (by omega)]
theorem fullL_succ {α : Type} (f : Nat → α) (n : Nat) : fullL f (n + 1) = fullL f n ++ [f n] := by simp [fullL, List.range_succ]
theorem fullL_get {α : Type} (f : Nat → α) (n k : Nat) (h : k < (fullL f n).length) : (fullL f n)[k] = f k := by simp [fullL]
theorem fullL_getD {α : Type} (f : Nat → α) (n k : Nat) (d : α) (h : k < n) : (fullL f n).getD k d = f k := by
 rw [getD_lt _ _ (by rw [fullL_len]; exact h), fullL_get]
theorem fullL_congr {α : Type} {f g : Nat → α} {n : Nat} (h : ∀ i, i < n → f i = g i) : fullL f n = fullL g n := by
 apply List.ext_getElem (by simp [fullL])
 intro i h1 h2
 rw [fullL_get, fullL_get]
 exact h i (by simpa [fullL] using h1)
def RR {α : Type} (enc : α → List Value) (s : Nat) (w : World) (A : Option Addr) (l : List α) : Prop :=
 0 < l.length → ∃ b off, A = some ⟨b, off, none⟩ ∧ b < w.heap.size ∧ ∀ j (hj : j < l.length) i, i < s → w.cell? ⟨b, off + j * s + i, none⟩ = (enc l[j])[i]?
theorem own_RR {α : Type} {enc : α → List Value} {s : Nat} (hs : ∀ x, (enc x).length = s) {w : World} {base : Nat} {e : TypeId} {A : Option Addr} {c : Nat} {l : List α} (h : w.ownsRow base e s (.slice A l.length c) l.length (l.flatMap enc)) : RR enc s w A l := by
 intro h0
 obtain ⟨g, rfl, _, hg⟩ := own_some h h0
 refine ⟨g, 0, rfl, hg, fun j hj i hi => ?_⟩
 rw [Nat.zero_add]
 exact own_at hs h hj hi
theorem blk_RR {α : Type} {enc : α → List Value} {s : Nat} (hs : ∀ x, (enc x).length = s) {w : World} {e : TypeId} {g : Nat} {l : List α} (h : Blk w g e (l.flatMap enc).toArray) : RR enc s w (some ⟨g, 0, none⟩) l := by
 intro h0
 refine ⟨g, 0, rfl, h.lt, fun j hj i hi => ?_⟩
 rw [Nat.zero_add, h.cell]
 have := flat_get enc s hs l j i hi hj
 simpa using this
def RetR {α : Type} (enc : α → List Value) (s : Nat) (t : TypeId) (w : World) (r : List α × Int) (e : Ending) (w' : World) : Prop :=
 ∃ A c, e = .returned (.tuple #[.slice A r.1.length c, .int .i64 r.2]) ∧ w'.ownsRow w.heap.size t s (.slice A r.1.length c) r.1.length (r.1.flatMap enc) ∧ Below w.heap.size w w'
theorem RetR.blk {α : Type} {enc : α → List Value} {s : Nat} (hs : ∀ x, (enc x).length = s) {t : TypeId} {w w' : World} {g n : Nat} {l : List α} {x : Int} {r : List α × Int} (hr : r = (l, x)) (hn : l.length = n) (hm : n ≤ maxLen) (h : Blk w' g t (l.flatMap enc).toArray) (hg : w.heap.size ≤ g) (hb : Below w.heap.size w w') :
 RetR enc s t w r (.returned (.tuple #[.slice (some ⟨g, 0, none⟩) n n, .int .i64 x])) w' := by
 subst hr; subst hn
 refine ⟨_, _, rfl, ?_, hb⟩
 have := own_blk (size := s) (n := l.length) h hg (by simp [flat_len enc s hs]) hm
 simpa using this
theorem RetQ.blk {t : TypeId} {w w' : World} {g n : Nat} {l : List (Int × Int)} {x : Int} {r : List (Int × Int) × Int} (hr : r = (l, x)) (hn : l.length = n) (hm : n ≤ maxLen) (h : Blk w' g t (l.flatMap encP).toArray) (hg : w.heap.size ≤ g) (hb : Below w.heap.size w w') :
 RetQ t w r (.returned (.tuple #[.slice (some ⟨g, 0, none⟩) n n, .int .i64 x])) w' := RetR.blk encP_len hr hn hm h hg hb
theorem enc_news {w : World} {cs : Array Value} {l : List Value} (t : TypeId) (h : cs = l.toArray) : ∀ j u, l[j]? = some u → (w.alloc (.cells cs t)).cell? ((⟨w.heap.size, 0, none⟩ : Addr).add j) = some u := by
 subst h
 exact World.news_of_block (cs := l.toArray) (t := t) (fr := (0, 0)) (heap_alloc_new w _)
end Go.Proofs.Ytdekbncpodjgnaa
namespace Go.Proofs.Ytdekbncpodjgnaa
set_option linter.unusedVariables false
def sumR (f : Nat → Int) : Nat → Int
 | 0 => 0
 | n + 1 => sumR f n + f n
theorem sumR_succ (f : Nat → Int) (n : Nat) : sumR f (n + 1) = sumR f n + f n := rfl
theorem sumR_congr {f g : Nat → Int} {n : Nat} (h : ∀ i, i < n → f i = g i) : sumR f n = sumR g n := by
 induction n with
 | zero => rfl
 | succ n ih => rw [sumR_succ, sumR_succ, ih (fun i hi => h i (by omega)), h n (by omega)]
theorem sumR_zero {f : Nat → Int} {n : Nat} (h : ∀ i, i < n → f i = 0) : sumR f n = 0 := by
 induction n with
 | zero => rfl
 | succ n ih => rw [sumR_succ, ih (fun i hi => h i (by omega)), h n (by omega)]; rfl
theorem sumR_add (f g : Nat → Int) (n : Nat) : sumR (fun i => f i + g i) n = sumR f n + sumR g n := by
 induction n with
 | zero => rfl
 | succ n ih => rw [sumR_succ, sumR_succ, sumR_succ, ih]; omega
theorem sumR_mul (c : Int) (f : Nat → Int) (n : Nat) : sumR (fun i => c * f i) n = c * sumR f n := by
 induction n with
 | zero => simp [sumR]
 | succ n ih => rw [sumR_succ, sumR_succ, ih, Int.mul_add]
theorem sumR_le {f g : Nat → Int} {n : Nat} (h : ∀ i, i < n → f i ≤ g i) : sumR f n ≤ sumR g n := by
 induction n with
 | zero => exact Int.le_refl _
 | succ n ih => rw [sumR_succ, sumR_succ]; have := ih (fun i hi => h i (by omega)); have := h n (by omega); omega
theorem sumR_const (c : Int) (n : Nat) : sumR (fun _ => c) n = n * c := by
 induction n with
 | zero => simp [sumR]
 | succ n ih => rw [sumR_succ, ih, Int.natCast_succ, Int.add_mul, Int.one_mul]
theorem sumR_one {f : Nat → Int} {n k : Nat} (hk : k < n) (h : ∀ i, i < n → i ≠ k → f i = 0) : sumR f n = f k := by
 induction n with
 | zero => omega
 | succ n ih =>
  rw [sumR_succ]
  rcases Nat.lt_or_ge k n with h1 | h1
  ·rw [ih h1 (fun i hi hne => h i (by omega) hne), h n (by omega) (by omega)]; omega
  ·obtain rfl : k = n := by omega
   rw [sumR_zero (fun i hi => h i (by omega) (by omega))]; omega
end Go.Proofs.Ytdekbncpodjgnaa
