/-
  'append(out, xs...)' onto a row of the call's own, xs a slice of numbers that is nil, empty or not.
  'append([]int{}, xs...)': a copy of a slice of numbers.
  Two rows of the call's own that lie apart.
  Slices of slices of numbers: lists of lists, as they come in and as they are made.
-/
import Derived.Test.YtnhjeelcgfobnaaPWords
import Derived.Laws.AppendOwnNone
import Derived.OwnWalk
import Derived.Test.YtnhjeelcgfobnaaPRows
namespace Go.Proofs.Ytnhjeelcgfobnaa
open Go.RowKit
set_option linter.unusedVariables false

section
variable {P : Program} (w : World)
theorem wpList_append_RI {ops : Array Oper} {rest : List Oper} {o : Oper} {a : Act} {Q : Exit → Act → World → Prop} (hgd : o.guard = none) (s x : Operand) (t : TypeId)
    (ho : o.op = .call { callee := .builtin .append, args := #[s, x], argTypes := #[t, t] })
    (base : Nat) (e : TypeId) (i : TypeInfo) (z : Value) (bytes : Nat) (ht : P.underlying t = some (.slice e)) (hi : P.info? e = some i) (hz : i.zero = some z)
    (hsize : i.size = 1) (hby : i.bytes = bytes) (hzs : z.cells.size = 1) (k : IntKind)
    (v : Value) (n : Nat) (l : List Int) (hs : a.eval s = v) (hown : w.ownsRow base e 1 v n (l.flatMap (encI k)))
    (A : Option Addr) (c : Nat) (xs : List Int) (hx : a.eval x = .slice A xs.length c) (hr : RI k w A xs)
    (h63 : n + xs.length ≤ maxLen) (hbytes : (n + xs.length) * bytes ≤ 140737488355328) (hbase : base ≤ w.heap.size)
    (h : ∀ v' w', w'.ownsRow base e 1 v' (n + xs.length) ((l ++ xs).flatMap (encI k)) → w.grownBy w' v.ownBlock → wpList P ops Q rest (a.put o.dst v') w') : wpList P ops Q (o :: rest) a w := by
  rcases A with _ | ad
  · have h0 : xs = [] := by
      rcases xs with _ | ⟨y, ys⟩
      · rfl
      · obtain ⟨b, off, e1, _⟩ := hr (by simp)
        cases e1
    subst h0
    refine wpList_plain hgd fun K hK => ?_
    have hrun : (Builtin.append_ #[t, t] o.type #[v, .slice none 0 c]).run P w = .ok v w := by
      rcases hown.2 with ⟨rfl, _⟩ | ⟨g, cap, cur, rfl, _, _, hnc, _⟩
      · simp [Builtin.append_, run_underlying ht, sizeOf, typeInfo, hi, Builtin.lenOf, Builtin.firstCells]
      · simp [Builtin.append_, run_underlying ht, sizeOf, typeInfo, hi, Builtin.lenOf, Builtin.firstCells, hnc, storeCells]
    unfold Oper.wp
    simp [execOp, ho, resolve, invoke, builtin, hs, hx, hrun, Result.andThen]
    exact hK _ _ (h v w (by simpa using hown) (World.grownBy.refl _ _))
  · refine wpList_append_own w hgd s x t ho base e i z 1 bytes ht hi hz hsize hby hzs (by omega) v n (l.flatMap (encI k)) hs hown ad xs.length c (xs.flatMap (encI k)) hx (by rw [flat_len _ 1 (encI_len k)]) ?_ ?_ h63 hbytes hbase ?_
    · intro j u hu
      have hj : j < xs.length := by
        have := (List.getElem?_eq_some_iff.1 hu).1
        rw [flat_len _ 1 (encI_len k)] at this
        omega
      obtain ⟨b, off, e1, _, hc⟩ := hr (by omega)
      injection e1 with e1
      subst e1
      have h1 := flat_get (encI k) 1 (encI_len k) xs j 0 (by omega) hj
      rw [Nat.mul_one, Nat.add_zero, hu] at h1
      have h2 := hc j hj
      have e2 : (⟨b, off, none⟩ : Addr).add j = ⟨b, off + j, none⟩ := by unfold Addr.add; split <;> simp_all
      rw [e2, h2, getD_lt _ _ hj]
      simpa [encI] using h1.symm
    · intro u hu
      obtain ⟨y, _, hy⟩ := List.mem_flatMap.1 hu
      exact encI_one k y u hy
    · intro v' w' h1 h2 _
      exact h v' w' (by rw [List.flatMap_append]; exact h1) h2
end
end Go.Proofs.Ytnhjeelcgfobnaa
namespace Go.Proofs.Ytnhjeelcgfobnaa
open Go.RowKit
set_option linter.unusedVariables false

theorem wpList_clone_RI {P : Program} (w0 : World) {ops : Array Oper} {rest : List Oper} {o : Oper} {a : Act} {Q : Exit → Act → World → Prop} (hgd : o.guard = none) (s x : Operand) (t : TypeId)
    (ho : o.op = .call { callee := .builtin .append, args := #[s, x], argTypes := #[t, t] })
    (e : TypeId) {i : TypeInfo} {z : Value} (bytes : Nat) (ht : P.underlying t = some (.slice e)) (hi : P.info? e = some i) (hz : i.zero = some z)
    (hsize : i.size = 1) (hby : i.bytes = bytes) (hzs : z.cells.size = 1) (k : IntKind)
    (g : Nat) (hs0 : a.eval s = .slice (some ⟨g, 0, none⟩) 0 0) (hg : g = w0.heap.size)
    (A : Option Addr) (c : Nat) (xs : List Int) (hx : a.eval x = .slice A xs.length c) (hr : RI k w0 A xs)
    (h63 : xs.length ≤ maxLen) (hbytes : xs.length * bytes ≤ 140737488355328)
    (h : ∀ A' c' w', xs.length ≤ c' → RI k w' A' xs → Below w0.heap.size w0 w' → wpList P ops Q rest (a.put o.dst (.slice A' xs.length c')) w') : wpList P ops Q (o :: rest) a (w0.alloc (.cells #[] e)) := by
  subst hg
  have hs := hs0
  have hown : (w0.alloc (.cells #[] e)).ownsRow w0.heap.size e 1 (.slice (some ⟨w0.heap.size, 0, none⟩) 0 0) 0 (([] : List Int).flatMap (encI k)) := by
    have := own_blk (size := 1) (n := 0) (Blk.new w0 e #[]) (Nat.le_refl _) (by simp) (by unfold maxLen; omega)
    simpa using this
  refine wpList_append_RI _ hgd s x t ho w0.heap.size e i z bytes ht hi hz hsize hby hzs k _ 0 [] hs hown A c xs hx (hr.keep (balloc (Below.refl _ _) _)) (by omega) (by rw [Nat.zero_add]; exact hbytes) (by simp) ?_
  intro v1 w1 hown1 hgrow1
  rw [Nat.zero_add, List.nil_append] at hown1
  obtain ⟨A1, c1, rfl, hc1⟩ := own_shape' hown1
  exact h A1 c1 w1 hc1 (own_RI hown1) (own_below (balloc (Below.refl _ _) _) hown hgrow1 (Nat.le_refl _) (by simp))

theorem wp_append_RI {P : Program} (w : World) {o : Oper} {a : Act} {K : Act → World → Prop} {Q : Exit → Act → World → Prop} (s x : Operand) (t : TypeId)
    (ho : o.op = .call { callee := .builtin .append, args := #[s, x], argTypes := #[t, t] })
    (base : Nat) (e : TypeId) (i : TypeInfo) (z : Value) (bytes : Nat) (ht : P.underlying t = some (.slice e)) (hi : P.info? e = some i) (hz : i.zero = some z)
    (hsize : i.size = 1) (hby : i.bytes = bytes) (hzs : z.cells.size = 1) (k : IntKind)
    (v : Value) (n : Nat) (l : List Int) (hs : a.eval s = v) (hown : w.ownsRow base e 1 v n (l.flatMap (encI k)))
    (A : Option Addr) (c : Nat) (xs : List Int) (hx : a.eval x = .slice A xs.length c) (hr : RI k w A xs)
    (h63 : n + xs.length ≤ maxLen) (hbytes : (n + xs.length) * bytes ≤ 140737488355328) (hbase : base ≤ w.heap.size)
    (h : ∀ v' w', w'.ownsRow base e 1 v' (n + xs.length) ((l ++ xs).flatMap (encI k)) → w.grownBy w' v.ownBlock → K (a.put o.dst v') w') : o.wp P a w K Q := by
  rcases A with _ | ad
  · have h0 : xs = [] := by
      rcases xs with _ | ⟨y, ys⟩
      · rfl
      · obtain ⟨b, off, e1, _⟩ := hr (by simp)
        cases e1
    subst h0
    have hrun : (Builtin.append_ #[t, t] o.type #[v, .slice none 0 c]).run P w = .ok v w := by
      rcases hown.2 with ⟨rfl, _⟩ | ⟨g, cap, cur, rfl, _, _, hnc, _⟩
      · simp [Builtin.append_, run_underlying ht, sizeOf, typeInfo, hi, Builtin.lenOf, Builtin.firstCells]
      · simp [Builtin.append_, run_underlying ht, sizeOf, typeInfo, hi, Builtin.lenOf, Builtin.firstCells, hnc, storeCells]
    unfold Oper.wp
    simp [execOp, ho, resolve, invoke, builtin, hs, hx, hrun, Result.andThen]
    exact h v w (by simpa using hown) (World.grownBy.refl _ _)
  · refine wp_append_own w s x t ho base e i z 1 bytes ht hi hz hsize hby hzs (by omega) v n (l.flatMap (encI k)) hs hown ad xs.length c (xs.flatMap (encI k)) hx (by rw [flat_len _ 1 (encI_len k)]) ?_ ?_ h63 hbytes hbase ?_
    · intro j u hu
      have hj : j < xs.length := by
        have := (List.getElem?_eq_some_iff.1 hu).1
        rw [flat_len _ 1 (encI_len k)] at this
        omega
      obtain ⟨b, off, e1, _, hc⟩ := hr (by omega)
      injection e1 with e1
      subst e1
      have h1 := flat_get (encI k) 1 (encI_len k) xs j 0 (by omega) hj
      rw [Nat.mul_one, Nat.add_zero, hu] at h1
      have h2 := hc j hj
      have e2 : (⟨b, off, none⟩ : Addr).add j = ⟨b, off + j, none⟩ := by unfold Addr.add; split <;> simp_all
      rw [e2, h2, getD_lt _ _ hj]
      simpa [encI] using h1.symm
    · intro u hu
      obtain ⟨y, _, hy⟩ := List.mem_flatMap.1 hu
      exact encI_one k y u hy
    · intro v' w' h1 h2 _
      exact h v' w' (by rw [List.flatMap_append]; exact h1) h2
/-- At a step of a region that draws its order: 'append([]int{}, xs...)', or onto nil. -/
theorem step_clone_RI {P : Program} (w : World) {ops : Array Oper} {o : Oper} {a : Act} {K : Act → World → Prop} {Q : Exit → Act → World → Prop} {E : Prop} (hgd : o.guard = none) (s x : Operand) (t : TypeId)
    (ho : o.op = .call { callee := .builtin .append, args := #[s, x], argTypes := #[t, t] })
    (base : Nat) (e : TypeId) {i : TypeInfo} {z : Value} (bytes : Nat) (ht : P.underlying t = some (.slice e)) (hi : P.info? e = some i) (hz : i.zero = some z)
    (hsize : i.size = 1) (hby : i.bytes = bytes) (hzs : z.cells.size = 1) (k : IntKind)
    (v : Value) (hs : a.eval s = v) (hown : w.ownsRow base e 1 v 0 [])
    (A : Option Addr) (c : Nat) (xs : List Int) (hx : a.eval x = .slice A xs.length c) (hr : RI k w A xs)
    (h63 : xs.length ≤ maxLen) (hbytes : xs.length * bytes ≤ 140737488355328) (hbase : base ≤ w.heap.size)
    (h : ∀ A' c' w', xs.length ≤ c' → w'.ownsRow base e 1 (.slice A' xs.length c') xs.length (xs.flatMap (encI k)) → w.grownBy w' v.ownBlock → K (a.put o.dst (.slice A' xs.length c')) w') :
    if Region.wanted o (yielded ops a.tmps) = true then Oper.wp P o a w K Q else E := by
  have hw : Region.wanted o (yielded ops a.tmps) = true := by simp [Region.wanted, hgd]
  rw [if_pos hw]
  refine wp_append_RI w s x t ho base e i z bytes ht hi hz hsize hby hzs k v 0 [] hs (by simpa using hown) A c xs hx hr (by omega) (by rw [Nat.zero_add]; exact hbytes) hbase ?_
  intro v1 w1 hown1 hgrow1
  rw [Nat.zero_add, List.nil_append] at hown1
  obtain ⟨A1, c1, rfl, hc1⟩ := own_shape' hown1
  exact h A1 c1 w1 hc1 hown1 hgrow1
end Go.Proofs.Ytnhjeelcgfobnaa
namespace Go.Proofs.Ytnhjeelcgfobnaa
open Go.RowKit
set_option linter.unusedVariables false

theorem kept_apart {w w' : World} {base : Nat} {e e' : TypeId} {s s' n m : Nat} {va vb : Value} {xs ys : List Value} (hb : w.ownsRow base e s vb n xs) (hg : w.grownBy w' va.ownBlock) (hd : ∀ g, va.ownBlock = some g → vb.ownBlock ≠ some g) : w'.ownsRow base e s vb n xs := by
  refine hb.kept hg ?_
  cases h : va.ownBlock with
  | none =>
    cases h2 : vb.ownBlock with
    | none => exact .inl rfl
    | some g => exact .inr (by simp)
  | some g => exact .inr (fun h2 => hd g h h2)

theorem apart_one {wr : World} {base : Nat} {e : TypeId} {s n : Nat} {va vb : Value} {xs : List Value} {g H : Nat} (hB : wr.ownsRow base e s vb n xs) (hAB : ∀ g, va.ownBlock = some g → vb.ownBlock ≠ some g) (hat : va.ownBlock = some g ∨ g = H) (hH : wr.heap.size ≤ H) : vb.ownBlock ≠ some g := by
  rcases hat with h | h
  · exact hAB g h
  · intro h2
    have := (hB.lt g h2).2
    omega
theorem apart_two {va vb : Value} {g1 g2 n c1 c2 H : Nat} (h1 : vb.ownBlock ≠ some g1) (hat : vb.ownBlock = some g2 ∨ g2 = H) (hH : g1 < H) : ∀ g, (Value.slice (some ⟨g1, 0, none⟩) n c1).ownBlock = some g → (Value.slice (some ⟨g2, 0, none⟩) n c2).ownBlock ≠ some g := by
  intro g h2 h3
  simp only [Value.ownBlock, Option.some.injEq] at h2 h3
  subst h2; subst h3
  rcases hat with h | h
  · exact h1 h
  · omega
theorem blk_past {wr W w1 : World} {base : Nat} {e : TypeId} {s n : Nat} {va : Value} {xs : List Value} (hA : wr.ownsRow base e s va n xs) (hg : W.grownBy w1 va.ownBlock) : ∀ g t cs, Blk W g t cs → wr.heap.size ≤ g → Blk w1 g t cs := by
  intro g t cs h hle
  refine h.grown hg (fun h2 => ?_)
  have := (hA.lt g h2.symm).2
  omega
end Go.Proofs.Ytnhjeelcgfobnaa
namespace Go.Proofs.Ytnhjeelcgfobnaa
open Go.RowKit
set_option linter.unusedVariables false
set_option linter.unusedSimpArgs false
namespace Lol

/-- A row of numbers in memory from block base on. -/
def RIo (k : IntKind) (base : Nat) (w : World) (A : Option Addr) (xs : List Int) : Prop :=
  0 < xs.length → ∃ b off, A = some ⟨b, off, none⟩ ∧ base ≤ b ∧ b < w.heap.size ∧ ∀ j, j < xs.length → w.cell? ⟨b, off + j, none⟩ = some (.int k (xs.getD j 0))
theorem RIo.ri {k : IntKind} {base : Nat} {w : World} {A : Option Addr} {xs : List Int} (h : RIo k base w A xs) : RI k w A xs := by
  intro h0
  obtain ⟨b, off, e, _, hlt, hc⟩ := h h0
  exact ⟨b, off, e, hlt, hc⟩
theorem RIo.of {k : IntKind} {w : World} {A : Option Addr} {xs : List Int} (h : RI k w A xs) : RIo k 0 w A xs := by
  intro h0
  obtain ⟨b, off, e, hlt, hc⟩ := h h0
  exact ⟨b, off, e, Nat.zero_le _, hlt, hc⟩
theorem RIo.keep {k : IntKind} {base : Nat} {w w' : World} {A : Option Addr} {xs : List Int} (h : RIo k base w A xs) (hb : Below w.heap.size w w') : RIo k base w' A xs := by
  intro h0
  obtain ⟨b, off, e, h1, hlt, hc⟩ := h h0
  exact ⟨b, off, e, h1, Nat.lt_of_lt_of_le hlt hb.size, fun j hj => (hb.cell (p := ⟨b, off + j, none⟩) hlt).trans (hc j hj)⟩
theorem RIo.mono {k : IntKind} {base base' : Nat} {w : World} {A : Option Addr} {xs : List Int} (h : RIo k base w A xs) (hb : base' ≤ base) : RIo k base' w A xs := by
  intro h0
  obtain ⟨b, off, e, h1, hlt, hc⟩ := h h0
  exact ⟨b, off, e, by omega, hlt, hc⟩
theorem own_RIo {k : IntKind} {w : World} {base : Nat} {e : TypeId} {A : Option Addr} {c : Nat} {l : List Int} (h : w.ownsRow base e 1 (.slice A l.length c) l.length (l.flatMap (encI k))) : RIo k base w A l := by
  intro h0
  obtain ⟨g, rfl, hg1, hg⟩ := own_some h h0
  obtain ⟨b, off, e1, _, hc⟩ := own_RI h h0
  injection e1 with e1
  injection e1 with e1 e2
  subst e1; subst e2
  exact ⟨g, 0, rfl, hg1, hg, hc⟩
theorem blk_RIo {k : IntKind} {w : World} {e : TypeId} {g base : Nat} {l : List Int} (h : Blk w g e (l.flatMap (encI k)).toArray) (hg : base ≤ g) : RIo k base w (some ⟨g, 0, none⟩) l := by
  intro h0
  obtain ⟨b, off, e1, _, hc⟩ := blk_RI h h0
  injection e1 with e1
  injection e1 with e1 e2
  subst e1; subst e2
  exact ⟨g, 0, rfl, hg, h.lt, hc⟩
theorem RIo.grown {k : IntKind} {base : Nat} {w w' : World} {A : Option Addr} {xs : List Int} {row : Option Nat} (h : RIo k base w A xs) (hg : w.grownBy w' row) (hne : 0 < xs.length → ∀ b off, A = some ⟨b, off, none⟩ → row ≠ some b) : RIo k base w' A xs := by
  intro h0
  obtain ⟨b, off, e, h1, hlt, hc⟩ := h h0
  refine ⟨b, off, e, h1, Nat.lt_of_lt_of_le hlt hg.size, fun j hj => ?_⟩
  rw [hg.cell_far ⟨b, off + j, none⟩ hlt (fun e2 => hne h0 b off e e2.symm)]
  exact hc j hj
theorem RIo.far {k : IntKind} {base : Nat} {w : World} {A : Option Addr} {xs : List Int} (h : RIo k base w A xs) {p : Addr} (hp : p.block < base) (u : Value) : RIo k base (w.setCell p u) A xs := by
  intro h0
  obtain ⟨b, off, e, h1, hlt, hc⟩ := h h0
  refine ⟨b, off, e, h1, by simpa [World.setCell] using hlt, fun j hj => ?_⟩
  have e2 : (w.setCell p u).heap[b]? = w.heap[b]? := Below.heap_setCell w p u b (by omega)
  rw [World.cell?_of_block (a := ⟨b, off + j, none⟩) e2]
  exact hc j hj
theorem RIo.apart {k : IntKind} {B base : Nat} {w wr : World} {e : TypeId} {s n : Nat} {A : Option Addr} {xs : List Int} {v : Value} {ys : List Value} (h : RIo k B w A xs) (hO : wr.ownsRow base e s v n ys) (hB : wr.heap.size ≤ B) : 0 < xs.length → ∀ b off, A = some ⟨b, off, none⟩ → v.ownBlock ≠ some b := by
  intro h0 b off e2 e3
  obtain ⟨b', off', e', h1, _⟩ := h h0
  rw [e2] at e'
  injection e' with e'
  injection e' with e' _
  have := (hO.lt b e3).2
  omega
/-- The slice value '.slice A L.length c' reads as the list L of lists. -/
def RLL (k : IntKind) (w : World) (A : Option Addr) (L : List (List Int)) : Prop :=
  0 < L.length → ∃ b off, A = some ⟨b, off, none⟩ ∧ b < w.heap.size ∧ ∀ j (hj : j < L.length), ∃ A' c', w.cell? ⟨b, off + j, none⟩ = some (.slice A' L[j].length c') ∧ RI k w A' L[j] ∧ L[j].length ≤ c'
theorem RLL.keep {k : IntKind} {w w' : World} {A : Option Addr} {L : List (List Int)} (h : RLL k w A L) (hb : Below w.heap.size w w') : RLL k w' A L := by
  intro h0
  obtain ⟨b, off, e, hlt, hc⟩ := h h0
  refine ⟨b, off, e, Nat.lt_of_lt_of_le hlt hb.size, fun j hj => ?_⟩
  obtain ⟨A', c', h1, h2, h3⟩ := hc j hj
  exact ⟨A', c', (hb.cell (p := ⟨b, off + j, none⟩) hlt).trans h1, h2.keep hb, h3⟩
theorem RLL.nil {k : IntKind} {w : World} {A : Option Addr} : RLL k w A [] := fun h => absurd h (by simp)
theorem RLL.at_ {k : IntKind} {w : World} {A : Option Addr} {L : List (List Int)} {i : Nat} (h : RLL k w A L) (hi : i < L.length) :
    ∃ b off A' c', A = some ⟨b, off, none⟩ ∧ b < w.heap.size ∧ w.cell? ⟨b, off + i, none⟩ = some (.slice A' L[i].length c') ∧ RI k w A' L[i] ∧ L[i].length ≤ c' := by
  obtain ⟨b, off, e, hlt, hc⟩ := h (by omega)
  obtain ⟨A', c', h1, h2, h3⟩ := hc i hi
  exact ⟨b, off, A', c', e, hlt, h1, h2, h3⟩
/-- The slices of a row of slices: each reads as its list, apart from a block. -/
def Els (k : IntKind) (base : Nat) (w : World) (own : Option Nat) (raws : List Value) (L : List (List Int)) : Prop :=
  raws.length = L.length ∧ ∀ j (h : j < raws.length) (h' : j < L.length), ∃ A c, raws[j] = .slice A L[j].length c ∧ RIo k base w A L[j] ∧ L[j].length ≤ c ∧ (0 < L[j].length → ∀ b off, A = some ⟨b, off, none⟩ → own ≠ some b)
theorem Els.nil {k : IntKind} {base : Nat} {w : World} {own : Option Nat} : Els k base w own [] [] := ⟨rfl, fun j h => absurd h (by simp)⟩
theorem Els.keep {k : IntKind} {base : Nat} {w w' : World} {own : Option Nat} {raws : List Value} {L : List (List Int)} (h : Els k base w own raws L) (hb : Below w.heap.size w w') : Els k base w' own raws L := by
  refine ⟨h.1, fun j h1 h2 => ?_⟩
  obtain ⟨A, c, e2, h3, h4, h5⟩ := h.2 j h1 h2
  exact ⟨A, c, e2, h3.keep hb, h4, h5⟩
theorem Els.grown {k : IntKind} {base : Nat} {w w' : World} {own own' : Option Nat} {raws : List Value} {L : List (List Int)} (h : Els k base w own raws L) (hg : w.grownBy w' own) (ho : own' = own ∨ ∃ H, own' = some H ∧ w.heap.size ≤ H) : Els k base w' own' raws L := by
  refine ⟨h.1, fun j h1 h2 => ?_⟩
  obtain ⟨A, c, e2, h3, h4, h5⟩ := h.2 j h1 h2
  refine ⟨A, c, e2, h3.grown hg h5, h4, fun h0 b off e => ?_⟩
  rcases ho with rfl | ⟨H, rfl, hH⟩
  · exact h5 h0 b off e
  · intro e3
    injection e3 with e3
    obtain ⟨b', off', e', _, hlt, _⟩ := h3 h0
    rw [e] at e'
    injection e' with e'
    injection e' with e' _
    omega
theorem Els.snoc {k : IntKind} {base : Nat} {w : World} {own : Option Nat} {raws : List Value} {L : List (List Int)} (h : Els k base w own raws L) {A : Option Addr} {c : Nat} {xs : List Int} (hr : RIo k base w A xs) (hc : xs.length ≤ c) (hne : 0 < xs.length → ∀ b off, A = some ⟨b, off, none⟩ → own ≠ some b) :
    Els k base w own (raws ++ [.slice A xs.length c]) (L ++ [xs]) := by
  refine ⟨by simp [h.1], fun j h1 h2 => ?_⟩
  rcases Nat.lt_or_ge j raws.length with h3 | h3
  · rw [List.getElem_append_left h3, List.getElem_append_left (by rw [← h.1]; exact h3)]
    exact h.2 j h3 (by rw [← h.1]; exact h3)
  · have e1 : j = raws.length := by simp at h1; omega
    have e2 : j = L.length := by rw [← h.1]; exact e1
    rw [List.getElem_append_right (by omega), List.getElem_append_right (by omega)]
    simp only [e1, Nat.sub_self, List.getElem_cons_zero]
    have : (L ++ [xs])[raws.length]'(by simp; rw [h.1]; omega) = xs := by
      rw [List.getElem_append_right (by rw [h.1]; omega)]
      simp [h.1]
    simp only [h.1, Nat.sub_self, List.getElem_cons_zero]
    exact ⟨A, c, rfl, hr, hc, hne⟩
theorem Els.push {k : IntKind} {base : Nat} {w w' : World} {own : Option Nat} {raws : List Value} {L : List (List Int)} {A : Option Addr} {c g H : Nat} {xs : List Int} (h : Els k base w own raws L) (hr : RIo k base w A xs) (hc : xs.length ≤ c) (hne : 0 < xs.length → ∀ b off, A = some ⟨b, off, none⟩ → own ≠ some b)
    (hg : w.grownBy w' own) (hat : own = some g ∨ g = H) (hH : w.heap.size ≤ H) : Els k base w' (some g) (raws ++ [.slice A xs.length c]) (L ++ [xs]) := by
  refine (h.snoc hr hc hne).grown hg ?_
  rcases hat with e | e
  · exact .inl e.symm
  · exact .inr ⟨g, rfl, by omega⟩
theorem own_RLL {k : IntKind} {w : World} {base : Nat} {e : TypeId} {A : Option Addr} {c n : Nat} {own : Option Nat} {raws : List Value} {L : List (List Int)} (h : w.ownsRow base e 1 (.slice A n c) n raws) (hE : Els k base w own raws L) : RLL k w A L := by
  intro h0
  have hn : raws.length = n := by have := h.1; omega
  rcases h.2 with ⟨e1, e2⟩ | ⟨g, cap, cur, e1, hg, hheap, hnc, hcap, hcur, htake⟩
  · have := hE.1; omega
  · injection e1 with e1 _ _
    subst e1
    refine ⟨g, 0, rfl, (Array.getElem?_eq_some_iff.1 hheap).1, fun j hj => ?_⟩
    have hj2 : j < raws.length := by rw [hE.1]; exact hj
    obtain ⟨A', c', e2, r, hc, _⟩ := hE.2 j hj2 hj
    refine ⟨A', c', ?_, r.ri, hc⟩
    rw [← e2]
    have h1 : (List.take (n * 1) cur.toList)[j]? = some raws[j] := by rw [htake]; exact List.getElem?_eq_getElem hj2
    rw [List.getElem?_take_of_lt (by omega)] at h1
    have hcu : cur[j]? = some raws[j] := by simpa using h1
    simp [World.cell?, hheap, hcu]
/-- A block of slices. -/
theorem blk_RLL {k : IntKind} {w : World} {e : TypeId} {g base : Nat} {own : Option Nat} {raws : List Value} {L : List (List Int)} (h : Blk w g e raws.toArray) (hE : Els k base w own raws L) : RLL k w (some ⟨g, 0, none⟩) L := by
  intro h0
  refine ⟨g, 0, rfl, h.lt, fun j hj => ?_⟩
  have hj2 : j < raws.length := by rw [hE.1]; exact hj
  obtain ⟨A', c', e2, r, hc, _⟩ := hE.2 j hj2 hj
  refine ⟨A', c', ?_, r.ri, hc⟩
  rw [Nat.zero_add, h.cell]
  simp [List.getElem?_eq_getElem hj2, e2]
def RetLL (k : IntKind) (w : World) (r : List (List Int) × Int) (e : Ending) (w' : World) : Prop :=
  ∃ A c, e = .returned (.tuple #[.slice A r.1.length c, .int .i64 r.2]) ∧ RLL k w' A r.1 ∧ Below w.heap.size w w'
theorem RetLL.no {k : IntKind} {w w' : World} {x : Int} {r : List (List Int) × Int} (hr : r = ([], x)) (hb : Below w.heap.size w w') : RetLL k w r (.returned (.tuple #[.slice none 0 0, .int .i64 x])) w' := by
  subst hr; exact ⟨none, 0, rfl, RLL.nil, hb⟩
theorem RetLL.own {k : IntKind} {w w' : World} {A : Option Addr} {c n : Nat} {L : List (List Int)} {x : Int} {r : List (List Int) × Int} (hr : r = (L, x)) (hn : L.length = n) (h : RLL k w' A L) (hb : Below w.heap.size w w') : RetLL k w r (.returned (.tuple #[.slice A n c, .int .i64 x])) w' := by
  subst hr; subst hn; exact ⟨A, c, rfl, h, hb⟩
end Lol
end Go.Proofs.Ytnhjeelcgfobnaa
