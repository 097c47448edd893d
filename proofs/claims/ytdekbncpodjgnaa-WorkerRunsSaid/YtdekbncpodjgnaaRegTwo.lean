/-
  'o.A, o.B = append(o.A, x), append(o.B, y)': what holds while the operations of such a region come up, whatever their order.
-/
import Derived.Test.YtdekbncpodjgnaaPRg
import Derived.Test.YtdekbncpodjgnaaAccJ
namespace Go.Proofs.Ytdekbncpodjgnaa
open Go.RowKit Reg
set_option linter.unusedVariables false
set_option linter.unusedSimpArgs false

/-- All blocks before B but g are as they were. -/
structure Kept (B g : Nat) (w w' : World) : Prop where
  os : w'.os = w.os
  tape : w'.tape = w.tape
  output : w'.output = w.output
  size : w.heap.size ≤ w'.heap.size
  block : ∀ k, k < B → k ≠ g → w'.heap[k]? = w.heap[k]?
theorem Kept.refl (B g : Nat) (w : World) : Kept B g w w := ⟨rfl, rfl, rfl, Nat.le_refl _, fun _ _ _ => rfl⟩
theorem Kept.trans {B g : Nat} {a b c : World} (h : Kept B g a b) (k : Kept B g b c) : Kept B g a c := ⟨k.os.trans h.os, k.tape.trans h.tape, k.output.trans h.output, Nat.le_trans h.size k.size, fun i hi hr => (k.block i hi hr).trans (h.block i hi hr)⟩
theorem Kept.of_below {B g : Nat} {w w' : World} (h : Below B w w') : Kept B g w w' := ⟨h.os, h.tape, h.output, h.size, fun k hk _ => h.block k hk⟩
theorem Kept.alloc {B g : Nat} {w w' : World} (h : Kept B g w w') (hB : B ≤ w'.heap.size) (o : Obj) : Kept B g w (w'.alloc o) := h.trans (.of_below ((Below.refl B w').alloc hB o))
theorem Kept.grown {B g : Nat} {w w' w'' : World} {row : Option Nat} (h : Kept B g w w') (hgr : w'.grownBy w'' row) (hB : B ≤ w'.heap.size) (hr : ∀ k, row = some k → B ≤ k) : Kept B g w w'' := h.trans (.of_below ((Below.refl B w').grown hgr hB hr))
theorem Kept.put {B g : Nat} {w w' : World} (h : Kept B g w w') (i : Nat) (u : Value) : Kept B g w (w'.setCell ⟨g, i, none⟩ u) := ⟨h.os, h.tape, h.output, by simpa [World.setCell] using h.size, fun k hk hr => (Below.heap_setCell w' ⟨g, i, none⟩ u k hr).trans (h.block k hk hr)⟩
theorem Kept.blk {B g k : Nat} {w w' : World} {t : TypeId} {cs : Array Value} (h : Kept B g w w') (hb : Blk w k t cs) (hk : k < B) (hg : k ≠ g) : Blk w' k t cs := (h.block k hk hg).trans hb
theorem Kept.below {B g b : Nat} {w w' : World} (h : Kept B g w w') (h1 : b ≤ B) (h2 : b ≤ g) : Below b w w' := ⟨h.os, h.tape, h.output, h.size, fun k hk => h.block k (by omega) (by omega)⟩
theorem Kept.rl {B g : Nat} {w w' : World} {A : Option Addr} {l : List (Int × Int)} (h : Kept B g w w') (hr : RL w A l) (h1 : 0 < l.length → ∀ x : Addr, A = some x → x.block < B ∧ x.block ≠ g) : RL w' A l := by
  intro h0
  obtain ⟨b, off, e, hlt, hc⟩ := hr h0
  obtain ⟨h2, h3⟩ := h1 h0 _ e
  have hbl := h.block b h2 h3
  have hcell : ∀ k, w'.cell? ⟨b, k, none⟩ = w.cell? ⟨b, k, none⟩ := fun k => by simp [World.cell?, hbl]
  refine ⟨b, off, e, Nat.lt_of_lt_of_le hlt h.size, fun j hj => ?_⟩
  rw [hcell, hcell]
  exact hc j hj
/-- An accumulator in block g whose first two rows are being filled; they lie apart. -/
structure FillG (wr : World) (g B : Nat) (v2 : Value) (fS fN : Nat → Int × Int) (vS vN : Value) (k m : Nat) : Prop where
  blk : Blk wr g 39 #[vS, vN, v2]
  s : wr.ownsRow B 97 2 vS k ((fullL fS k).flatMap encP)
  n : wr.ownsRow B 97 2 vN m ((fullL fN m).flatMap encP)
  apart : ∀ h, vS.ownBlock = some h → vN.ownBlock ≠ some h
  lt : g < B
theorem FillG.alloc {wr : World} {g B : Nat} {v2 vS vN : Value} {fS fN : Nat → Int × Int} {k m : Nat} (h : FillG wr g B v2 fS fN vS vN k m) (o : Obj) : FillG (wr.alloc o) g B v2 fS fN vS vN k m := ⟨h.blk.alloc o, h.s.alloc o, h.n.alloc o, h.apart, h.lt⟩
theorem FillG.keep {wr w' : World} {g B : Nat} {v2 vS vN : Value} {fS fN : Nat → Int × Int} {k m : Nat} (h : FillG wr g B v2 fS fN vS vN k m) (hb : Below wr.heap.size wr w') : FillG w' g B v2 fS fN vS vN k m := ⟨h.blk.keep hb, own_keep h.s hb, own_keep h.n hb, h.apart, h.lt⟩
theorem FillG.stepS {wE w9 w4 W : World} {g B g4 c4 : Nat} {v2 vS vN : Value} {fS fN : Nat → Int × Int} {k m : Nat} {y : Int × Int} {o : Obj} (hF : FillG wE g B v2 fS fN vS vN k m) (hb9 : Below wE.heap.size wE w9)
    (hown4 : w4.ownsRow B 97 2 (.slice (some ⟨g4, 0, none⟩) (k + 1) c4) (k + 1) ((fullL fS k).flatMap encP ++ encP y)) (hy : fS k = y) (hW : W.heap = (w9.alloc o).heap) (hgrow4 : W.grownBy w4 vS.ownBlock) (hat4 : vS.ownBlock = some g4 ∨ g4 = w9.heap.size + 1) :
    FillG (w4.setCell ⟨g, 0, none⟩ (.slice (some ⟨g4, 0, none⟩) (k + 1) c4)) g B v2 fS fN (.slice (some ⟨g4, 0, none⟩) (k + 1) c4) vN (k + 1) m := by
  have hK4 := (((hF.blk.keep hb9).alloc o).heap hW).grown hgrow4 (blk_ne_own hF.s (.inl hF.lt))
  have hN9 := own_heap ((own_keep hF.n hb9).alloc o) hW
  refine ⟨hK4.put 0 _, ?_, ?_, ?_, hF.lt⟩
  · rw [fullL_succ, flat_snoc, hy]
    exact ownsRow_setCell_below hown4 (a := ⟨g, 0, none⟩) hF.lt _
  · exact ownsRow_setCell_below (kept_apart (e' := 0) (s' := 1) (m := 0) (ys := []) hN9 hgrow4 hF.apart) (a := ⟨g, 0, none⟩) hF.lt _
  · intro h h1
    simp only [Value.ownBlock, Option.some.injEq] at h1
    subst h1
    exact apart_one (H := w9.heap.size + 1) (own_keep hF.n hb9) hF.apart hat4 (by omega)
theorem FillG.stepN {wE w9 w4 W : World} {g B g4 c4 : Nat} {v2 vS vN : Value} {fS fN : Nat → Int × Int} {k m : Nat} {y : Int × Int} {o : Obj} (hF : FillG wE g B v2 fS fN vS vN k m) (hb9 : Below wE.heap.size wE w9)
    (hown4 : w4.ownsRow B 97 2 (.slice (some ⟨g4, 0, none⟩) (m + 1) c4) (m + 1) ((fullL fN m).flatMap encP ++ encP y)) (hy : fN m = y) (hW : W.heap = (w9.alloc o).heap) (hgrow4 : W.grownBy w4 vN.ownBlock) (hat4 : vN.ownBlock = some g4 ∨ g4 = w9.heap.size + 1) :
    FillG (w4.setCell ⟨g, 1, none⟩ (.slice (some ⟨g4, 0, none⟩) (m + 1) c4)) g B v2 fS fN vS (.slice (some ⟨g4, 0, none⟩) (m + 1) c4) k (m + 1) := by
  have hK4 := (((hF.blk.keep hb9).alloc o).heap hW).grown hgrow4 (blk_ne_own hF.n (.inl hF.lt))
  have hS9 := own_heap ((own_keep hF.s hb9).alloc o) hW
  have hap : ∀ h, vN.ownBlock = some h → vS.ownBlock ≠ some h := fun h h1 h2 => hF.apart h h2 h1
  refine ⟨hK4.put 1 _, ?_, ?_, ?_, hF.lt⟩
  · exact ownsRow_setCell_below (kept_apart (e' := 0) (s' := 1) (m := 0) (ys := []) hS9 hgrow4 hap) (a := ⟨g, 1, none⟩) hF.lt _
  · rw [fullL_succ, flat_snoc, hy]
    exact ownsRow_setCell_below hown4 (a := ⟨g, 1, none⟩) hF.lt _
  · intro h h1 h2
    simp only [Value.ownBlock, Option.some.injEq] at h2
    subst h2
    exact apart_one (H := w9.heap.size + 1) (own_keep hF.s hb9) hap hat4 (by omega) h1
abbrev On (L : Array Bool) (k : Nat) : Prop := L.getD k false = true
/-- What the region begins with. -/
structure Two where
  w0 : World
  g : Nat
  B : Nat
  v2 : Value
  vS : Value
  vN : Value
  k : Nat
  fS : Nat → Int × Int
  fN : Nat → Int × Int
  X : Nat
  Y : Nat
  x : Int × Int
  y : Int × Int
def Two.tab (c : Two) : Nat → Option Value
  | 0 => some (.pointer (some ⟨c.g, 0, none⟩))
  | 1 => some c.vS
  | 2 => some (.agg #[.int .i64 c.x.1, .int .i64 c.x.2])
  | 5 => some (.pointer (some ⟨c.g, 1, none⟩))
  | 6 => some c.vN
  | 7 => some (.agg #[.int .i64 c.y.1, .int .i64 c.y.2])
  | 10 => some (.pointer (some ⟨c.g, 0, none⟩))
  | 12 => some (.pointer (some ⟨c.g, 1, none⟩))
  | _ => none
structure TwoJ (c : Two) (L : Array Bool) (val : Nat → Value) (w : World) (rS rN c0 c1 : Value) (kS kN : Nat) : Prop where
  bel : Kept c.B c.g c.w0 w
  hB : c.g < c.B ∧ c.B ≤ w.heap.size
  sz : c.w0.heap.size ≤ w.heap.size
  xb : Blk w c.X 97 #[.int .i64 c.x.1, .int .i64 c.x.2]
  yb : Blk w c.Y 97 #[.int .i64 c.y.1, .int .i64 c.y.2]
  box : Blk w c.g 39 #[c0, c1, c.v2]
  s : w.ownsRow c.B 97 2 rS kS ((fullL c.fS kS).flatMap encP)
  n : w.ownsRow c.B 97 2 rN kN ((fullL c.fN kN).flatMap encP)
  apart : ∀ h, rS.ownBlock = some h → rN.ownBlock ≠ some h
  xs : rS.ownBlock ≠ some c.X ∧ rN.ownBlock ≠ some c.X
  ys : rS.ownBlock ≠ some c.Y ∧ rN.ownBlock ≠ some c.Y
  pure : ∀ i v, c.tab i = some v → On L i → val i = v
  t3 : On L 3 → ∃ h, val 3 = .slice (some ⟨h, 0, none⟩) 1 1 ∧ Blk w h 97 #[.int .i64 c.x.1, .int .i64 c.x.2] ∧ rS.ownBlock ≠ some h ∧ rN.ownBlock ≠ some h ∧ c.g < h
  t8 : On L 8 → ∃ h, val 8 = .slice (some ⟨h, 0, none⟩) 1 1 ∧ Blk w h 97 #[.int .i64 c.y.1, .int .i64 c.y.2] ∧ rS.ownBlock ≠ some h ∧ rN.ownBlock ≠ some h ∧ c.g < h
  s4 : (¬ On L 4 ∧ rS = c.vS ∧ kS = c.k) ∨ (On L 4 ∧ val 4 = rS ∧ kS = c.k + 1)
  n9 : (¬ On L 9 ∧ rN = c.vN ∧ kN = c.k) ∨ (On L 9 ∧ val 9 = rN ∧ kN = c.k + 1)
  b11 : (¬ On L 11 ∧ c0 = c.vS) ∨ (On L 11 ∧ c0 = val 4)
  b13 : (¬ On L 13 ∧ c1 = c.vN) ∨ (On L 13 ∧ c1 = val 9)
  cl : (On L 11 → On L 1 ∧ On L 4 ∧ On L 6 ∧ On L 9) ∧ (On L 13 → On L 6 ∧ On L 9 ∧ On L 11)
def TwoI (c : Two) (L : Array Bool) (val : Nat → Value) (w : World) : Prop := ∃ rS rN c0 c1 kS kN, TwoJ c L val w rS rN c0 c1 kS kN
theorem dep_on {o : Oper} {L : Array Bool} (hdep : ∀ e ∈ o.after, Region.binds .any e = true → L.getD e.on false = true) (j : Nat) (hw : (o.after.toList.any fun e => e.on == j && Region.binds .any e) = true) : On L j := by
  obtain ⟨e, hm, he⟩ := List.any_eq_true.1 hw
  simp only [Bool.and_eq_true, beq_iff_eq] at he
  have hon := hdep e (by simpa using hm) he.2
  rwa [he.1] at hon
theorem on_ne {L : Array Bool} {i k : Nat} (h : k ≠ i) : On (L.setIfInBounds i true) k ↔ On L k := by unfold On; rw [getD_set_ne false (fun e => h e.symm)]
theorem on_self {L : Array Bool} {i : Nat} (h : i < L.size) : On (L.setIfInBounds i true) i := by
  unfold On; rw [Array.getD_eq_getD_getElem?, Array.getElem?_setIfInBounds_self_of_lt h]; rfl
theorem on_not {L : Array Bool} {i : Nat} (h : L.getD i true = false) : ¬ On L i := by
  intro h2
  have hi := lt_of_un h
  unfold On at h2
  rw [Array.getD_eq_getD_getElem?, Array.getElem?_eq_getElem hi] at h h2
  simp only [Option.getD_some] at h h2
  rw [h] at h2
  cases h2
section
variable {c : Two} {L : Array Bool} {val : Nat → Value} {w : World} {rS rN c0 c1 : Value} {kS kN : Nat}
/-- An operation that yields a value that is known, and nothing else. -/
theorem TwoJ.yield (h : TwoJ c L val w rS rN c0 c1 kS kN) {i : Nat} {v : Value} (ht : c.tab i = some v) (hi : i < L.size) : TwoI c (L.setIfInBounds i true) (upd val i v) w := by
  have n3 : (3 : Nat) ≠ i := by rintro rfl; cases ht
  have n4 : (4 : Nat) ≠ i := by rintro rfl; cases ht
  have n8 : (8 : Nat) ≠ i := by rintro rfl; cases ht
  have n9 : (9 : Nat) ≠ i := by rintro rfl; cases ht
  have n11 : (11 : Nat) ≠ i := by rintro rfl; cases ht
  have n13 : (13 : Nat) ≠ i := by rintro rfl; cases ht
  refine ⟨rS, rN, c0, c1, kS, kN, h.bel, h.hB, h.sz, h.xb, h.yb, h.box, h.s, h.n, h.apart, h.xs, h.ys, ?_, ?_, ?_, ?_, ?_, ?_, ?_, ?_⟩
  · intro j u hj hon
    by_cases e : j = i
    · subst e
      rw [ht] at hj
      cases hj
      exact upd_same _ _ _
    · rw [upd_ne _ e]
      exact h.pure j u hj ((on_ne e).1 hon)
  · rw [on_ne n3, upd_ne _ n3]; exact h.t3
  · rw [on_ne n8, upd_ne _ n8]; exact h.t8
  · rw [on_ne n4, upd_ne _ n4]; exact h.s4
  · rw [on_ne n9, upd_ne _ n9]; exact h.n9
  · rw [on_ne n11, upd_ne _ n4]; exact h.b11
  · rw [on_ne n13, upd_ne _ n9]; exact h.b13
  · refine ⟨fun h1 => ?_, fun h1 => ?_⟩
    · obtain ⟨a, b, d, e⟩ := h.cl.1 ((on_ne n11).1 h1)
      exact ⟨getD_set_true a, getD_set_true b, getD_set_true d, getD_set_true e⟩
    · obtain ⟨a, b, d⟩ := h.cl.2 ((on_ne n13).1 h1)
      exact ⟨getD_set_true a, getD_set_true b, getD_set_true d⟩
theorem own_old {w : World} {base : Nat} {e : TypeId} {s n : Nat} {v : Value} {xs : List Value} (h : w.ownsRow base e s v n xs) {b : Nat} (hb : w.heap.size ≤ b) : v.ownBlock ≠ some b := by
  intro e1
  have := (h.lt b e1).2
  omega
/-- A new block for x, or for y. -/
theorem TwoJ.build3 (h : TwoJ c L val w rS rN c0 c1 kS kN) (hi : 3 < L.size) : TwoI c (L.setIfInBounds 3 true) (upd val 3 (.slice (some ⟨w.heap.size, 0, none⟩) 1 1)) (w.alloc (.cells #[.int .i64 c.x.1, .int .i64 c.x.2] 97)) := by
  have hg := h.box.lt
  refine ⟨rS, rN, c0, c1, kS, kN, h.bel.alloc h.hB.2 _, ⟨h.hB.1, Nat.le_trans h.hB.2 (by simp)⟩, Nat.le_trans h.sz (by simp), h.xb.alloc _, h.yb.alloc _, h.box.alloc _, h.s.alloc _, h.n.alloc _, h.apart, h.xs, h.ys, ?_, ?_, ?_, ?_, ?_, ?_, ?_, ?_⟩
  · intro j u hj hon
    have e : j ≠ 3 := by rintro rfl; cases hj
    rw [upd_ne _ e]
    exact h.pure j u hj ((on_ne e).1 hon)
  · intro _
    exact ⟨_, upd_same _ _ _, Blk.new _ _ _, own_old h.s (Nat.le_refl _), own_old h.n (Nat.le_refl _), hg⟩
  · rw [on_ne (by omega), upd_ne _ (by omega)]
    intro h1
    obtain ⟨b, e1, e2, e3⟩ := h.t8 h1
    exact ⟨b, e1, e2.alloc _, e3⟩
  · rw [on_ne (by omega), upd_ne _ (by omega)]; exact h.s4
  · rw [on_ne (by omega), upd_ne _ (by omega)]; exact h.n9
  · rw [on_ne (by omega), upd_ne _ (by omega)]; exact h.b11
  · rw [on_ne (by omega), upd_ne _ (by omega)]; exact h.b13
  · refine ⟨fun h1 => ?_, fun h1 => ?_⟩
    · obtain ⟨a, b, d, e⟩ := h.cl.1 ((on_ne (by omega)).1 h1)
      exact ⟨getD_set_true a, getD_set_true b, getD_set_true d, getD_set_true e⟩
    · obtain ⟨a, b, d⟩ := h.cl.2 ((on_ne (by omega)).1 h1)
      exact ⟨getD_set_true a, getD_set_true b, getD_set_true d⟩
theorem TwoJ.build8 (h : TwoJ c L val w rS rN c0 c1 kS kN) (hi : 8 < L.size) : TwoI c (L.setIfInBounds 8 true) (upd val 8 (.slice (some ⟨w.heap.size, 0, none⟩) 1 1)) (w.alloc (.cells #[.int .i64 c.y.1, .int .i64 c.y.2] 97)) := by
  have hg := h.box.lt
  refine ⟨rS, rN, c0, c1, kS, kN, h.bel.alloc h.hB.2 _, ⟨h.hB.1, Nat.le_trans h.hB.2 (by simp)⟩, Nat.le_trans h.sz (by simp), h.xb.alloc _, h.yb.alloc _, h.box.alloc _, h.s.alloc _, h.n.alloc _, h.apart, h.xs, h.ys, ?_, ?_, ?_, ?_, ?_, ?_, ?_, ?_⟩
  · intro j u hj hon
    have e : j ≠ 8 := by rintro rfl; cases hj
    rw [upd_ne _ e]
    exact h.pure j u hj ((on_ne e).1 hon)
  · rw [on_ne (by omega), upd_ne _ (by omega)]
    intro h1
    obtain ⟨b, e1, e2, e3⟩ := h.t3 h1
    exact ⟨b, e1, e2.alloc _, e3⟩
  · intro _
    exact ⟨_, upd_same _ _ _, Blk.new _ _ _, own_old h.s (Nat.le_refl _), own_old h.n (Nat.le_refl _), hg⟩
  · rw [on_ne (by omega), upd_ne _ (by omega)]; exact h.s4
  · rw [on_ne (by omega), upd_ne _ (by omega)]; exact h.n9
  · rw [on_ne (by omega), upd_ne _ (by omega)]; exact h.b11
  · rw [on_ne (by omega), upd_ne _ (by omega)]; exact h.b13
  · refine ⟨fun h1 => ?_, fun h1 => ?_⟩
    · obtain ⟨a, b, d, e⟩ := h.cl.1 ((on_ne (by omega)).1 h1)
      exact ⟨getD_set_true a, getD_set_true b, getD_set_true d, getD_set_true e⟩
    · obtain ⟨a, b, d⟩ := h.cl.2 ((on_ne (by omega)).1 h1)
      exact ⟨getD_set_true a, getD_set_true b, getD_set_true d⟩
theorem TwoJ.lt (h : TwoJ c L val w rS rN c0 c1 kS kN) : c.g < w.heap.size := h.box.lt
/-- The first append. -/
theorem TwoJ.app4 (h : TwoJ c L val w rS rN c0 c1 kS kN) (hu : L.getD 4 true = false) {g4 c4 : Nat} {w4 : World} (hx : c.fS c.k = c.x) (hown4 : w4.ownsRow c.B 97 2 (.slice (some ⟨g4, 0, none⟩) (kS + 1) c4) (kS + 1) ((fullL c.fS kS).flatMap encP ++ encP c.x)) (hgr : w.grownBy w4 rS.ownBlock) (hat : rS.ownBlock = some g4 ∨ g4 = w.heap.size) :
    TwoI c (L.setIfInBounds 4 true) (upd val 4 (.slice (some ⟨g4, 0, none⟩) (kS + 1) c4)) w4 := by
  have hn4 := on_not hu
  have hi := lt_of_un hu
  obtain ⟨e1, e2⟩ : rS = c.vS ∧ kS = c.k := by
    rcases h.s4 with ⟨_, h2⟩ | ⟨h1, _⟩
    · exact h2
    · exact absurd h1 hn4
  have hn11 : ¬ On L 11 := fun h1 => hn4 (h.cl.1 h1).2.1
  have hn13 : ¬ On L 13 := fun h1 => hn11 (h.cl.2 h1).2.2
  have hg := h.box.lt
  have hfar : ∀ {b : Nat} {t : TypeId} {cs : Array Value}, Blk w b t cs → rS.ownBlock ≠ some b → Blk w4 b t cs := fun hb hne => hb.grown hgr (fun e => hne e.symm)
  have hnew : ∀ b, b < w.heap.size → rS.ownBlock ≠ some b → (Value.slice (some ⟨g4, 0, none⟩) (kS + 1) c4).ownBlock ≠ some b := by
    intro b hb hne e
    simp only [Value.ownBlock, Option.some.injEq] at e
    subst e
    rcases hat with h1 | h1
    · exact hne h1
    · omega
  refine ⟨.slice (some ⟨g4, 0, none⟩) (kS + 1) c4, rN, c0, c1, kS + 1, kN, h.bel.grown hgr h.hB.2 (fun k hk => (h.s.lt k hk).1), ⟨h.hB.1, Nat.le_trans h.hB.2 hgr.size⟩, Nat.le_trans h.sz hgr.size, hfar h.xb h.xs.1, hfar h.yb h.ys.1, hfar h.box (own_ne h.s h.hB.1), ?_, ?_, ?_, ⟨hnew _ h.xb.lt h.xs.1, h.xs.2⟩, ⟨hnew _ h.yb.lt h.ys.1, h.ys.2⟩, ?_, ?_, ?_, ?_, ?_, ?_, ?_, ?_⟩
  · rw [fullL_succ, flat_snoc, e2, hx, ← e2]
    exact hown4
  · exact kept_apart (e' := 0) (s' := 1) (m := 0) (ys := []) h.n hgr h.apart
  · intro b hb
    simp only [Value.ownBlock, Option.some.injEq] at hb
    subst hb
    exact apart_one (H := w.heap.size) h.n h.apart hat (by omega)
  · intro j u hj hon
    have e : j ≠ 4 := by rintro rfl; cases hj
    rw [upd_ne _ e]
    exact h.pure j u hj ((on_ne e).1 hon)
  · rw [on_ne (by omega), upd_ne _ (by omega)]
    intro h1
    obtain ⟨b, e1, e2, e3, e4, e5⟩ := h.t3 h1
    exact ⟨b, e1, hfar e2 e3, hnew b e2.lt e3, e4, e5⟩
  · rw [on_ne (by omega), upd_ne _ (by omega)]
    intro h1
    obtain ⟨b, e1, e2, e3, e4, e5⟩ := h.t8 h1
    exact ⟨b, e1, hfar e2 e3, hnew b e2.lt e3, e4, e5⟩
  · exact .inr ⟨on_self hi, upd_same _ _ _, by rw [e2]⟩
  · rw [on_ne (by omega), upd_ne _ (by omega)]; exact h.n9
  · rw [on_ne (by omega)]
    rcases h.b11 with h1 | ⟨h1, _⟩
    · exact .inl h1
    · exact absurd h1 hn11
  · rw [on_ne (by omega), upd_ne _ (by omega)]; exact h.b13
  · refine ⟨fun h1 => ?_, fun h1 => ?_⟩
    · exact absurd ((on_ne (by omega)).1 h1) hn11
    · exact absurd ((on_ne (by omega)).1 h1) hn13
/-- The second append. -/
theorem TwoJ.app9 (h : TwoJ c L val w rS rN c0 c1 kS kN) (hu : L.getD 9 true = false) {g4 c4 : Nat} {w4 : World} (hx : c.fN c.k = c.y) (hown4 : w4.ownsRow c.B 97 2 (.slice (some ⟨g4, 0, none⟩) (kN + 1) c4) (kN + 1) ((fullL c.fN kN).flatMap encP ++ encP c.y)) (hgr : w.grownBy w4 rN.ownBlock) (hat : rN.ownBlock = some g4 ∨ g4 = w.heap.size) :
    TwoI c (L.setIfInBounds 9 true) (upd val 9 (.slice (some ⟨g4, 0, none⟩) (kN + 1) c4)) w4 := by
  have hn9 := on_not hu
  have hi := lt_of_un hu
  obtain ⟨e1, e2⟩ : rN = c.vN ∧ kN = c.k := by
    rcases h.n9 with ⟨_, h2⟩ | ⟨h1, _⟩
    · exact h2
    · exact absurd h1 hn9
  have hn11 : ¬ On L 11 := fun h1 => hn9 (h.cl.1 h1).2.2.2
  have hn13 : ¬ On L 13 := fun h1 => hn11 (h.cl.2 h1).2.2
  have hg := h.box.lt
  have hap : ∀ b, rN.ownBlock = some b → rS.ownBlock ≠ some b := fun b h1 h2 => h.apart b h2 h1
  have hfar : ∀ {b : Nat} {t : TypeId} {cs : Array Value}, Blk w b t cs → rN.ownBlock ≠ some b → Blk w4 b t cs := fun hb hne => hb.grown hgr (fun e => hne e.symm)
  have hnew : ∀ b, b < w.heap.size → rN.ownBlock ≠ some b → (Value.slice (some ⟨g4, 0, none⟩) (kN + 1) c4).ownBlock ≠ some b := by
    intro b hb hne e
    simp only [Value.ownBlock, Option.some.injEq] at e
    subst e
    rcases hat with h1 | h1
    · exact hne h1
    · omega
  refine ⟨rS, .slice (some ⟨g4, 0, none⟩) (kN + 1) c4, c0, c1, kS, kN + 1, h.bel.grown hgr h.hB.2 (fun k hk => (h.n.lt k hk).1), ⟨h.hB.1, Nat.le_trans h.hB.2 hgr.size⟩, Nat.le_trans h.sz hgr.size, hfar h.xb h.xs.2, hfar h.yb h.ys.2, hfar h.box (own_ne h.n h.hB.1), ?_, ?_, ?_, ⟨h.xs.1, hnew _ h.xb.lt h.xs.2⟩, ⟨h.ys.1, hnew _ h.yb.lt h.ys.2⟩, ?_, ?_, ?_, ?_, ?_, ?_, ?_, ?_⟩
  · exact kept_apart (e' := 0) (s' := 1) (m := 0) (ys := []) h.s hgr hap
  · rw [fullL_succ, flat_snoc, e2, hx, ← e2]
    exact hown4
  · intro b hb hb2
    simp only [Value.ownBlock, Option.some.injEq] at hb2
    subst hb2
    exact apart_one (H := w.heap.size) h.s hap hat (by omega) hb
  · intro j u hj hon
    have e : j ≠ 9 := by rintro rfl; cases hj
    rw [upd_ne _ e]
    exact h.pure j u hj ((on_ne e).1 hon)
  · rw [on_ne (by omega), upd_ne _ (by omega)]
    intro h1
    obtain ⟨b, e1, e2, e3, e4, e5⟩ := h.t3 h1
    exact ⟨b, e1, hfar e2 e4, e3, hnew b e2.lt e4, e5⟩
  · rw [on_ne (by omega), upd_ne _ (by omega)]
    intro h1
    obtain ⟨b, e1, e2, e3, e4, e5⟩ := h.t8 h1
    exact ⟨b, e1, hfar e2 e4, e3, hnew b e2.lt e4, e5⟩
  · rw [on_ne (by omega), upd_ne _ (by omega)]; exact h.s4
  · exact .inr ⟨on_self hi, upd_same _ _ _, by rw [e2]⟩
  · rw [on_ne (by omega), upd_ne _ (by omega)]; exact h.b11
  · rw [on_ne (by omega)]
    rcases h.b13 with h1 | ⟨h1, _⟩
    · exact .inl h1
    · exact absurd h1 hn13
  · refine ⟨fun h1 => ?_, fun h1 => ?_⟩
    · exact absurd ((on_ne (by omega)).1 h1) hn11
    · exact absurd ((on_ne (by omega)).1 h1) hn13
/-- The stores. -/
theorem TwoJ.st11 (h : TwoJ c L val w rS rN c0 c1 kS kN) (hu : L.getD 11 true = false) (hon : On L 1 ∧ On L 4 ∧ On L 6 ∧ On L 9) (v : Value) : TwoI c (L.setIfInBounds 11 true) (upd val 11 v) (w.setCell ⟨c.g, 0, none⟩ (val 4)) := by
  have hi := lt_of_un hu
  have hn11 := on_not hu
  have hn13 : ¬ On L 13 := fun h1 => hn11 (h.cl.2 h1).2.2
  have hX : c.X ≠ c.g := by rintro e; have := h.xb; rw [e] at this; have h2 := h.box; unfold Blk at this h2; rw [this] at h2; simp at h2
  have hY : c.Y ≠ c.g := by rintro e; have := h.yb; rw [e] at this; have h2 := h.box; unfold Blk at this h2; rw [this] at h2; simp at h2
  refine ⟨rS, rN, val 4, c1, kS, kN, h.bel.put 0 _, ⟨h.hB.1, by simpa [World.setCell] using h.hB.2⟩, by simpa [World.setCell] using h.sz, h.xb.far (p := ⟨c.g, 0, none⟩) hX _, h.yb.far (p := ⟨c.g, 0, none⟩) hY _, h.box.put 0 _, ownsRow_setCell_below h.s (a := ⟨c.g, 0, none⟩) h.hB.1 _, ownsRow_setCell_below h.n (a := ⟨c.g, 0, none⟩) h.hB.1 _, h.apart, h.xs, h.ys, ?_, ?_, ?_, ?_, ?_, ?_, ?_, ?_⟩
  · intro j u hj hon
    have e : j ≠ 11 := by rintro rfl; cases hj
    rw [upd_ne _ e]
    exact h.pure j u hj ((on_ne e).1 hon)
  · rw [on_ne (by omega), upd_ne _ (by omega)]
    intro h1
    obtain ⟨b, e1, e2, e3, e4, e5⟩ := h.t3 h1
    exact ⟨b, e1, e2.far (p := ⟨c.g, 0, none⟩) (by simp; omega) _, e3, e4, e5⟩
  · rw [on_ne (by omega), upd_ne _ (by omega)]
    intro h1
    obtain ⟨b, e1, e2, e3, e4, e5⟩ := h.t8 h1
    exact ⟨b, e1, e2.far (p := ⟨c.g, 0, none⟩) (by simp; omega) _, e3, e4, e5⟩
  · rw [on_ne (by omega), upd_ne _ (by omega)]; exact h.s4
  · rw [on_ne (by omega), upd_ne _ (by omega)]; exact h.n9
  · rw [upd_ne _ (by omega)]; exact .inr ⟨on_self hi, rfl⟩
  · rw [on_ne (by omega), upd_ne _ (by omega)]; exact h.b13
  · refine ⟨fun _ => ⟨getD_set_true hon.1, getD_set_true hon.2.1, getD_set_true hon.2.2.1, getD_set_true hon.2.2.2⟩, fun h1 => absurd ((on_ne (by omega)).1 h1) hn13⟩
theorem TwoJ.st13 (h : TwoJ c L val w rS rN c0 c1 kS kN) (hu : L.getD 13 true = false) (hon : On L 6 ∧ On L 9 ∧ On L 11) (v : Value) : TwoI c (L.setIfInBounds 13 true) (upd val 13 v) (w.setCell ⟨c.g, 1, none⟩ (val 9)) := by
  have hi := lt_of_un hu
  have hX : c.X ≠ c.g := by rintro e; have := h.xb; rw [e] at this; have h2 := h.box; unfold Blk at this h2; rw [this] at h2; simp at h2
  have hY : c.Y ≠ c.g := by rintro e; have := h.yb; rw [e] at this; have h2 := h.box; unfold Blk at this h2; rw [this] at h2; simp at h2
  refine ⟨rS, rN, c0, val 9, kS, kN, h.bel.put 1 _, ⟨h.hB.1, by simpa [World.setCell] using h.hB.2⟩, by simpa [World.setCell] using h.sz, h.xb.far (p := ⟨c.g, 1, none⟩) hX _, h.yb.far (p := ⟨c.g, 1, none⟩) hY _, h.box.put 1 _, ownsRow_setCell_below h.s (a := ⟨c.g, 1, none⟩) h.hB.1 _, ownsRow_setCell_below h.n (a := ⟨c.g, 1, none⟩) h.hB.1 _, h.apart, h.xs, h.ys, ?_, ?_, ?_, ?_, ?_, ?_, ?_, ?_⟩
  · intro j u hj hon
    have e : j ≠ 13 := by rintro rfl; cases hj
    rw [upd_ne _ e]
    exact h.pure j u hj ((on_ne e).1 hon)
  · rw [on_ne (by omega), upd_ne _ (by omega)]
    intro h1
    obtain ⟨b, e1, e2, e3, e4, e5⟩ := h.t3 h1
    exact ⟨b, e1, e2.far (p := ⟨c.g, 1, none⟩) (by simp; omega) _, e3, e4, e5⟩
  · rw [on_ne (by omega), upd_ne _ (by omega)]
    intro h1
    obtain ⟨b, e1, e2, e3, e4, e5⟩ := h.t8 h1
    exact ⟨b, e1, e2.far (p := ⟨c.g, 1, none⟩) (by simp; omega) _, e3, e4, e5⟩
  · rw [on_ne (by omega), upd_ne _ (by omega)]; exact h.s4
  · rw [on_ne (by omega), upd_ne _ (by omega)]; exact h.n9
  · rw [on_ne (by omega), upd_ne _ (by omega)]; exact h.b11
  · rw [upd_ne _ (by omega)]; exact .inr ⟨on_self hi, rfl⟩
  · refine ⟨fun h1 => ?_, fun _ => ⟨getD_set_true hon.1, getD_set_true hon.2.1, getD_set_true hon.2.2⟩⟩
    obtain ⟨a, b, d, e⟩ := h.cl.1 ((on_ne (by omega)).1 h1)
    exact ⟨getD_set_true a, getD_set_true b, getD_set_true d, getD_set_true e⟩
/-- The end. -/
theorem TwoI.done (h : TwoI c L val w) (hall : ∀ i, i < 14 → On L i) : FillG w c.g c.B c.v2 c.fS c.fN (val 4) (val 9) (c.k + 1) (c.k + 1) ∧ Kept c.B c.g c.w0 w := by
  obtain ⟨rS, rN, c0, c1, kS, kN, h⟩ := h
  obtain ⟨_, e1, e2⟩ := h.s4.resolve_left (fun h1 => h1.1 (hall 4 (by omega)))
  obtain ⟨_, e3, e4⟩ := h.n9.resolve_left (fun h1 => h1.1 (hall 9 (by omega)))
  obtain ⟨_, e5⟩ := h.b11.resolve_left (fun h1 => h1.1 (hall 11 (by omega)))
  obtain ⟨_, e6⟩ := h.b13.resolve_left (fun h1 => h1.1 (hall 13 (by omega)))
  subst e2; subst e4
  rw [e1, e3]
  have hb := h.box
  rw [e5, e6, e1, e3] at hb
  exact ⟨⟨hb, h.s, h.n, h.apart, h.hB.1⟩, h.bel⟩
theorem TwoI.start {w : World} {g B X Y k : Nat} {v2 vS vN : Value} {fS fN : Nat → Int × Int} {x y : Int × Int} {n : Nat} (hF : FillG w g B v2 fS fN vS vN k k) (hB : B ≤ w.heap.size) (hX : Blk w X 97 #[.int .i64 x.1, .int .i64 x.2]) (hY : Blk w Y 97 #[.int .i64 y.1, .int .i64 y.2]) (h1 : vS.ownBlock ≠ some X ∧ vN.ownBlock ≠ some X) (h2 : vS.ownBlock ≠ some Y ∧ vN.ownBlock ≠ some Y) (val : Nat → Value) :
    TwoI ⟨w, g, B, v2, vS, vN, k, fS, fN, X, Y, x, y⟩ (Array.replicate n false) val w.drew := by
  have hoff : ∀ i, ¬ On (Array.replicate n false) i := by
    intro i h
    unfold On at h
    rw [Array.getD_eq_getD_getElem?, Array.getElem?_replicate] at h
    split at h <;> simp at h
  exact ⟨vS, vN, vS, vN, k, k, ⟨rfl, rfl, rfl, Nat.le_refl _, fun _ _ _ => rfl⟩, ⟨hF.lt, hB⟩, Nat.le_refl _, hX, hY, hF.blk, hF.s, hF.n, hF.apart, h1, h2, fun i _ _ h => absurd h (hoff i), fun h => absurd h (hoff 3), fun h => absurd h (hoff 8), .inl ⟨hoff 4, rfl, rfl⟩, .inl ⟨hoff 9, rfl, rfl⟩, .inl ⟨hoff 11, rfl⟩, .inl ⟨hoff 13, rfl⟩, ⟨fun h => absurd h (hoff 11), fun h => absurd h (hoff 13)⟩⟩
end
end Go.Proofs.Ytdekbncpodjgnaa
