/-
  Results in new memory: a list of numbers, or of pairs, and an error. Rows of numbers that are read and written.
-/
import Derived.Test.YtjhigfhgchpjcaaRowsW
namespace Go.Proofs.Ytjhigfhgchpjcaa
open Go.RowKit
set_option linter.unusedVariables false

def RetI (t : TypeId) (w : World) (r : List Int × Int) (e : Ending) (w' : World) : Prop :=
  ∃ A c, e = .returned (.tuple #[.slice A r.1.length c, .int .i64 r.2]) ∧ w'.ownsRow w.heap.size t 1 (.slice A r.1.length c) r.1.length (r.1.flatMap (encI .i64)) ∧ Below w.heap.size w w'
theorem RetI.nil {t : TypeId} {w w' : World} {x : Int} {r : List Int × Int} (hr : r = ([], x)) (hb : Below w.heap.size w w') : RetI t w r (.returned (.tuple #[.slice none 0 0, .int .i64 x])) w' := by
  subst hr
  exact ⟨none, 0, rfl, World.ownsRow_nil _ _ _ _, hb⟩
theorem RetI.blk {t : TypeId} {w w' : World} {g n : Nat} {l : List Int} {x : Int} {r : List Int × Int} (hr : r = (l, x)) (hn : l.length = n) (hm : n ≤ maxLen) (h : Blk w' g t (l.flatMap (encI .i64)).toArray) (hg : w.heap.size ≤ g) (hb : Below w.heap.size w w') :
    RetI t w r (.returned (.tuple #[.slice (some ⟨g, 0, none⟩) n n, .int .i64 x])) w' := by
  subst hr; subst hn
  refine ⟨_, _, rfl, ?_, hb⟩
  have := own_blk (size := 1) (n := l.length) h hg (by simp [flat_len (encI .i64) 1 (encI_len .i64)]) hm
  simpa using this
theorem RetI.own {t : TypeId} {w w' : World} {v : Value} {n : Nat} {l : List Int} {x : Int} {r : List Int × Int} (hr : r = (l, x)) (hn : l.length = n) (h : w'.ownsRow w.heap.size t 1 v n (l.flatMap (encI .i64))) (hb : Below w.heap.size w w') :
    RetI t w r (.returned (.tuple #[v, .int .i64 x])) w' := by
  subst hr; subst hn
  obtain ⟨A, c, rfl⟩ := own_shape h
  exact ⟨A, c, rfl, h, hb⟩
def RetQ (t : TypeId) (w : World) (r : List (Int × Int) × Int) (e : Ending) (w' : World) : Prop :=
  ∃ A c, e = .returned (.tuple #[.slice A r.1.length c, .int .i64 r.2]) ∧ w'.ownsRow w.heap.size t 2 (.slice A r.1.length c) r.1.length (r.1.flatMap encP) ∧ Below w.heap.size w w'
theorem RetQ.nil {t : TypeId} {w w' : World} {x : Int} {r : List (Int × Int) × Int} (hr : r = ([], x)) (hb : Below w.heap.size w w') : RetQ t w r (.returned (.tuple #[.slice none 0 0, .int .i64 x])) w' := by
  subst hr
  exact ⟨none, 0, rfl, World.ownsRow_nil _ _ _ _, hb⟩
theorem RetQ.own {t : TypeId} {w w' : World} {v : Value} {n : Nat} {l : List (Int × Int)} {x : Int} {r : List (Int × Int) × Int} (hr : r = (l, x)) (hn : l.length = n) (h : w'.ownsRow w.heap.size t 2 v n (l.flatMap encP)) (hb : Below w.heap.size w w') :
    RetQ t w r (.returned (.tuple #[v, .int .i64 x])) w' := by
  subst hr; subst hn
  obtain ⟨A, c, rfl⟩ := own_shape h
  exact ⟨A, c, rfl, h, hb⟩

theorem blkI_at {k : IntKind} {w : World} {e : TypeId} {g : Nat} {l : List Int} (h : Blk w g e (l.flatMap (encI k)).toArray) {j : Nat} (hj : j < l.length) :
    w.cell? ⟨g, j, none⟩ = some (.int k (l.getD j 0)) := by
  rw [h.cell, getD_lt _ _ hj]
  have h1 := flat_get (encI k) 1 (encI_len k) l j 0 (by omega) hj
  simpa [encI] using h1
theorem blkI_set {k : IntKind} {w : World} {e : TypeId} {g : Nat} {l : List Int} (h : Blk w g e (l.flatMap (encI k)).toArray) {j : Nat} (hj : j < l.length) (x : Int) :
    Blk (w.setCell ⟨g, j, none⟩ (.int k x)) g e ((l.set j x).flatMap (encI k)).toArray := by
  have h1 := h.put j (.int k x)
  have e1 := flat_set (encI k) 1 (encI_len k) l j 0 (by omega) hj (.int k x) x rfl
  rw [Nat.mul_one, Nat.add_zero] at e1
  rw [List.setIfInBounds_toArray, e1] at h1
  exact h1
theorem RI.at2 {k : IntKind} {w : World} {A : Option Addr} {xs : List Int} {i : Nat} (h : RI k w A xs) (hi : i < xs.length) :
    ∃ b off, A = some ⟨b, off, none⟩ ∧ b < w.heap.size ∧ w.cell? ⟨b, off + i, none⟩ = some (.int k (xs.getD i 0)) := by
  obtain ⟨b, off, e, h1, hc⟩ := h (by omega)
  exact ⟨b, off, e, h1, hc i hi⟩
theorem own_shape' {w : World} {base : Nat} {e : TypeId} {size : Nat} {v : Value} {n : Nat} {xs : List Value} (h : w.ownsRow base e size v n xs) : ∃ A c, v = .slice A n c ∧ n ≤ c := by
  rcases h.2 with ⟨rfl, rfl⟩ | ⟨g, cap, _, rfl, _, _, h1, _⟩
  · exact ⟨_, _, rfl, Nat.le_refl _⟩
  · exact ⟨_, _, rfl, h1⟩
theorem own_empty {w : World} {base : Nat} (e : TypeId) (h : base ≤ w.heap.size) : (w.alloc (.cells #[] e)).ownsRow base e 1 (.slice (some ⟨w.heap.size, 0, none⟩) 0 0) 0 (([] : List Int).flatMap (encI .i64)) := by
  have := own_blk (size := 1) (n := 0) (Blk.new w e #[]) h (by simp) (by unfold maxLen; omega)
  simpa using this
theorem sample_bd {x : Int} (d : Int → Int) (hd : ∀ x, d x = if x = 0 then 0 else if x = -3 then 1 else if x = -1 then 2 else if x = 1 then 3 else if x = 3 then 4 else -1) (h : 0 ≤ d x) : x = 0 ∨ x = -3 ∨ x = -1 ∨ x = 1 ∨ x = 3 := by
  rw [hd] at h
  repeat' split at h
  all_goals omega
theorem Blk.newAt {w : World} {g : Nat} (t : TypeId) (cs : Array Value) (h : w.heap.size = g) : Blk (w.alloc (.cells cs t)) g t cs := by subst h; exact Blk.new w t cs
theorem RI_lit' {W : World} {A : Option Addr} {g : Nat} {t : TypeId} {k : IntKind} (xs : List Int) (cs : Array Value) (hA : A = some ⟨g, 0, none⟩) (h : Blk W g t cs) (hc : cs = (xs.map (.int k)).toArray) : RI k W A xs := by
  subst hA; subst hc
  apply blk_RI (e := t)
  rw [flatI]
  exact h
theorem quiet_left {P : Program} {f : FuncId} {args : Array Value} {w : World} {n : Nat} {v : Value}
    (h : Calls P f args (w.drewN n) fun e w' => e = .returned v ∧ w.drewN n = w') : Calls P f args (w.drewN n) fun e w'' => e = .returned v ∧ ∃ m, w'' = w.drewN m :=
  h.mono fun _ _ ⟨he, hm⟩ => ⟨he, n, hm.symm⟩
theorem own_RL_at {w : World} {base : Nat} {e : TypeId} {A : Option Addr} {c n : Nat} {l : List (Int × Int)} (hn : l.length = n) (h : w.ownsRow base e 2 (.slice A n c) n (l.flatMap encP)) : RL w A l := by
  subst hn; exact own_RL h
theorem own_RI_at {k : IntKind} {w : World} {base : Nat} {e : TypeId} {A : Option Addr} {c n : Nat} {l : List Int} (hn : l.length = n) (h : w.ownsRow base e 1 (.slice A n c) n (l.flatMap (encI k))) : RI k w A l := by
  subst hn; exact own_RI h
theorem RL_lit {W : World} {g : Nat} {t : TypeId} (l : List (Int × Int)) (cs : Array Value) (h : Blk W g t cs) (hc : cs = (l.flatMap encP).toArray) : RL W (some ⟨g, 0, none⟩) l := by
  subst hc; exact blk_RL h
end Go.Proofs.Ytjhigfhgchpjcaa
