/-
  Layer 12 (bank), contract: Split of the program.
-/
import Derived.RangeFuncBox
import Derived.Maps.AppendAt
import Derived.Test.YtnhjeelcgfobnaaBkR
namespace Go.Proofs.Ytnhjeelcgfobnaa
open Go.RowKit Num Go.Shelf
set_option maxRecDepth 8000
set_option linter.unusedVariables false
set_option linter.unusedSimpArgs false
namespace Bk
open Lol Crs

theorem wpListIn_append_lies {F : Fence} {n : Nat} {P : Program} (w : World) {ops : Array Oper} {rest : List Oper} {o : Oper} {a : Act} {Q : Exit → Act → World → Prop} (hgd : o.guard = none) (s x : Operand) (t : TypeId)
    (ho : o.op = .call { callee := .builtin .append, args := #[s, x], argTypes := #[t, t] })
    (base : Nat) (e : TypeId) (i : TypeInfo) (z : Value) (size bytes : Nat) (ht : P.underlying t = some (.slice e)) (hi : P.info? e = some i) (hz : i.zero = some z)
    (hsize : i.size = size) (hby : i.bytes = bytes) (hzs : z.cells.size = size) (hsz : 0 < size)
    (v : Value) (k : Nat) (xs : List Value) (hs : a.eval s = v) (hown : w.ownsRow base e size v k xs)
    (ad : Addr) (m c : Nat) (news : List Value) (hx : a.eval x = .slice (some ad) m c) (hl : news.length = m * size) (hnews : ∀ j u, news[j]? = some u → w.cell? (ad.add j) = some u) (h1 : ∀ u ∈ news, u.oneCell' = true)
    (hm : 0 < m) (h63 : k + m ≤ maxLen) (hbytes : (k + m) * bytes ≤ 140737488355328) (hbase : base ≤ w.heap.size) (H : Nat) (hH : w.heap.size = H)
    (h : ∀ g cap w', w'.ownsRow base e size (.slice (some ⟨g, 0, none⟩) (k + m) cap) (k + m) (xs ++ news) → w.grownBy w' v.ownBlock → (v.ownBlock = some g ∨ g = H) → g < w'.heap.size → wpListIn F n P ops Q rest (a.put o.dst (.slice (some ⟨g, 0, none⟩) (k + m) cap)) w') : wpListIn F n P ops Q (o :: rest) a w := by
  refine wpListIn_plain hgd fun K hK' => ?_
  obtain ⟨g, cap, w', hrun, r1, r2, r3, r4⟩ := run_append_lies (P := P) w t o.type base e i z size bytes ht hi hz hsize hby hzs hsz v k xs hown ad m c news hl hnews h1 hm h63 hbytes hbase H hH
  unfold Oper.wpIn
  refine ⟨?_, ?_⟩
  · simp [Oper.about, ho, resolve, Target.leads, Sem.run_pure]
  · rw [Oper.semAt_plain F _ _ (by rw [ho]; intro c hc'; cases hc')]
    simp [execOp, ho, resolve, invoke, builtin, hs, hx, hrun, Result.andThen]
    exact hK' _ _ (h g cap w' r1 r2 r3 r4)
/-- Whatever lay as the heap ended there lies as it lay. -/
theorem KeepsFrom.below {B : Nat} {W W' : World} (h : Below W.heap.size W W') : KeepsFrom B W W' :=
  ⟨h.size, fun k o _ hk _ => (h.block k (Array.getElem?_eq_some_iff.1 hk).1).trans hk⟩
theorem red_fit {P n : Nat} (h : Ok P n) (h7 : 7 ≤ P) (X : Nat → Int) (hX : ∀ k, k < n → -3 ≤ X k ∧ X k ≤ 3) (A : Option Addr) (c : Nat) (w : World) (hx : RI .i64 w A (fullL X n)) :
    Calls Try.prog 43 #[.int .i64 (P : Int), .slice A n c] w fun e w' => ∃ A c, e = .returned (.tuple #[.slice A n c, .int .i64 0]) ∧ RI .i64 w' A (resL P n X) ∧ Below w.heap.size w w' := by
  have hl := fullL_len X n
  have h1 := reduce_any (P : Int) A c (fullL X n) w hx (by rw [hl]; have := h.l64; omega) (by omega) (by have := h.le; omega)
  have e : rdS (P : Int) (fullL X n) = (resL P n X, 0) := by
    unfold rdS
    have h64 := h.l64
    rw [if_pos (okP_iff.2 ⟨P, rfl, by omega, h.le, h.pr⟩), if_neg (by rw [hl]; omega), any2_false, if_neg (by simp)]
    · congr 1
      rw [hl]
      refine fullL_congr fun k hk => ?_
      unfold rdF
      rw [fullL_getD _ _ _ _ hk]
      rfl
    · intro j hj
      rw [hl] at hj
      rw [fullL_getD _ _ _ _ hj]
      have := hX j hj
      omega
  rw [e, hl] at h1
  refine h1.mono fun _ _ h2 => ?_
  obtain ⟨A', c', rfl, h3, h4⟩ := h2
  exact ⟨A', c', by simp only [resL_len], h3, h4⟩
/-! ### the state between two rounds -/
def noCells (W : World) (row : Option Nat) : Prop := ∀ r, row = some r → ∃ o : Obj, W.heap[r]? = some o ∧ o.isCells = false
theorem box_past {W W' : World} {B : Nat} {t : TypeId} {v : Value} {row : Option Nat} (h : Boxed W B t v) (hg : W.grownBy W' row) (hr : noCells W row) : Boxed W' B t v :=
  h.kept hg (fun e' => by
    obtain ⟨o, ho, hc⟩ := hr B e'.symm
    rw [show W.heap[B]? = _ from h] at ho; cases ho; cases hc)
theorem box_keep {W W' : World} {B : Nat} {t : TypeId} {v : Value} (h : Boxed W B t v) (hb : Below W.heap.size W W') : Boxed W' B t v := Blk.keep (show Blk W B t #[v] from h) hb
theorem row_past {W W' : World} {base : Nat} {e : TypeId} {s n : Nat} {v : Value} {xs : List Value} {row : Option Nat} (h : W.ownsRow base e s v n xs) (hg : W.grownBy W' row) (hr : noCells W row) : W'.ownsRow base e s v n xs := by
  refine h.kept hg ?_
  rcases h.2 with ⟨rfl, _⟩ | ⟨g, cap, cur, rfl, _, hgb, _⟩
  · exact .inl rfl
  · refine .inr fun e' => ?_
    obtain ⟨o, ho, hc⟩ := hr g (by simpa [Value.ownBlock] using e'.symm)
    rw [hgb] at ho; cases ho; cases hc
theorem els_past {k : IntKind} {base : Nat} {W W' : World} {own row : Option Nat} {raws : List Value} {L : List (List Int)} (h : Els k base W own raws L) (hg : W.grownBy W' row) (hr : noCells W row) : Els k base W' own raws L := by
  refine ⟨h.1, fun j h1 h2 => ?_⟩
  obtain ⟨A, c, e2, h3, h4, h5⟩ := h.2 j h1 h2
  refine ⟨A, c, e2, fun h0 => ?_, h4, h5⟩
  obtain ⟨b, off, e, h6, hlt, hc⟩ := h3 h0
  exact ⟨b, off, e, h6, Nat.lt_of_lt_of_le hlt hg.size, fun i hi => cell_kept (hc i hi) hg hr⟩
/-- The boxes of Split's variables. -/
structure SpB (P N B B11 : Nat) (sv : Value) (W : World) : Prop where
  b0 : Boxed W B 2 (.int .i64 (P : Int))
  b1 : Boxed W (B + 1) 3 (.int .i64 (N : Int))
  b2 : Boxed W (B + 2) 22 (.slice none 0 0)
  b3 : Boxed W (B + 3) 24 (.int .i64 0)
  bs : Boxed W (B11 + 1) 39 sv
  bn : Boxed W (B11 + 2) 3 (.int .i64 (N : Int))
def SpR (P N : Nat) (s : List Int) (n₁ B11 : Nat) {M : Nat} (pre : List (Blks M)) (W : World) : Prop :=
  ∃ v raws, Boxed W B11 22 v ∧ W.ownsRow n₁ 31 1 v pre.length raws ∧ Els .i64 n₁ W v.ownBlock raws (pre.map fun x => spF P N s x.1)
theorem SpB.past {P N B B11 : Nat} {sv : Value} {W W' : World} {row : Option Nat} (h : SpB P N B B11 sv W) (hg : W.grownBy W' row) (hr : noCells W row) : SpB P N B B11 sv W' :=
  ⟨box_past h.b0 hg hr, box_past h.b1 hg hr, box_past h.b2 hg hr, box_past h.b3 hg hr, box_past h.bs hg hr, box_past h.bn hg hr⟩
theorem SpB.keep {P N B B11 : Nat} {sv : Value} {W W' : World} (h : SpB P N B B11 sv W) (hb : Below W.heap.size W W') : SpB P N B B11 sv W' :=
  ⟨box_keep h.b0 hb, box_keep h.b1 hb, box_keep h.b2 hb, box_keep h.b3 hb, box_keep h.bs hb, box_keep h.bn hb⟩
theorem SpB.kept {P N B B11 n₁ : Nat} {sv : Value} {W W' : World} {row : Option Nat} (h : SpB P N B B11 sv W) (hB : B + 4 ≤ B11) (hn : B11 + 3 ≤ n₁) (hg : W.grownBy W' row) (hr : ∀ r, row = some r → r = B11 ∨ n₁ ≤ r) : SpB P N B B11 sv W' :=
  ⟨Go.Boxed.kept h.b0 hg (fun e => by have := hr _ e.symm; omega), Go.Boxed.kept h.b1 hg (fun e => by have := hr _ e.symm; omega), Go.Boxed.kept h.b2 hg (fun e => by have := hr _ e.symm; omega), Go.Boxed.kept h.b3 hg (fun e => by have := hr _ e.symm; omega), Go.Boxed.kept h.bs hg (fun e => by have := hr _ e.symm; omega), Go.Boxed.kept h.bn hg (fun e => by have := hr _ e.symm; omega)⟩
theorem SpR.past {P N : Nat} {s : List Int} {n₁ B11 M : Nat} {pre : List (Blks M)} {W W' : World} {row : Option Nat} (h : SpR P N s n₁ B11 pre W) (hg : W.grownBy W' row) (hr : noCells W row) : SpR P N s n₁ B11 pre W' := by
  obtain ⟨v, raws, h1, h2, h3⟩ := h
  exact ⟨v, raws, box_past h1 hg hr, row_past h2 hg hr, els_past h3 hg hr⟩
/-- The state between two rounds. -/
def SpI (P N : Nat) (s : List Int) (w : World) (n₁ B11 : Nat) (sv : Value) {M : Nat} (pre : List (Blks M)) (W : World) : Prop :=
  (SpR P N s n₁ B11 pre W ∧ SpB P N w.heap.size B11 sv W ∧ n₁ ≤ W.heap.size) ∧ Below w.heap.size w W
theorem SpI.own {P N : Nat} {s : List Int} {w : World} {n₁ B11 : Nat} {sv : Value} {M : Nat} {B : Nat} (hB : w.heap.size ≤ B) : OwnFrom B (SpI (M := M) P N s w n₁ B11 sv) :=
  OwnFrom.and (Own.from (fun pre X Y row h hg hr => ⟨h.1.past hg hr, h.2.1.past hg hr, Nat.le_trans h.2.2 hg.size⟩) _) (ownFrom_below (Nat.le_refl _) hB)
/-- A new row at the end of the bank: all that the walk owes. -/
theorem SpR.push {P N : Nat} {n₁ B B11 : Nat} {sv : Value} {W w1 : World} {v : Value} {raws : List Value} {k g cap c : Nat} {A : Option Addr} {L : List (List Int)} {l : List Int} {t : TypeId} {m : Nat} (hm : l.length = m)
    (hB : B + 4 ≤ B11) (hn : B11 + 3 ≤ n₁) (hn2 : n₁ ≤ W.heap.size) (hv : Boxed W B11 22 v) (hO : W.ownsRow n₁ 31 1 v k raws) (hE : Els .i64 n₁ W v.ownBlock raws L) (hb : SpB P N B B11 sv W)
    (hr : RIo .i64 n₁ W A l) (hc : m ≤ c) (hne : 0 < l.length → ∀ b off, A = some ⟨b, off, none⟩ → v.ownBlock ≠ some b)
    (hown : w1.ownsRow n₁ 31 1 (.slice (some ⟨g, 0, none⟩) (k + 1) cap) (k + 1) (raws ++ [.slice A m c])) (hgrow : (W.alloc (.cells #[.slice A m c] t)).grownBy w1 v.ownBlock) (hat : v.ownBlock = some g ∨ g = W.heap.size + 1) :
    Boxed w1 B11 22 v ∧ Boxed (w1.setCell ⟨B11, 0, none⟩ (.slice (some ⟨g, 0, none⟩) (k + 1) cap)) B11 22 (.slice (some ⟨g, 0, none⟩) (k + 1) cap) ∧
    (w1.setCell ⟨B11, 0, none⟩ (.slice (some ⟨g, 0, none⟩) (k + 1) cap)).ownsRow n₁ 31 1 (.slice (some ⟨g, 0, none⟩) (k + 1) cap) (k + 1) (raws ++ [.slice A m c]) ∧
    Els .i64 n₁ (w1.setCell ⟨B11, 0, none⟩ (.slice (some ⟨g, 0, none⟩) (k + 1) cap)) (Value.slice (some ⟨g, 0, none⟩) (k + 1) cap).ownBlock (raws ++ [.slice A m c]) (L ++ [l]) ∧
    SpB P N B B11 sv (w1.setCell ⟨B11, 0, none⟩ (.slice (some ⟨g, 0, none⟩) (k + 1) cap)) ∧ KeepsOthers W (w1.setCell ⟨B11, 0, none⟩ (.slice (some ⟨g, 0, none⟩) (k + 1) cap)) ∧
    (∀ (w0 : World), w0.heap.size ≤ B11 → Below w0.heap.size w0 W → Below w0.heap.size w0 (w1.setCell ⟨B11, 0, none⟩ (.slice (some ⟨g, 0, none⟩) (k + 1) cap))) := by
  subst hm
  have hrow : ∀ r, v.ownBlock = some r → n₁ ≤ r := fun r e => (hO.lt r e).1
  obtain ⟨tmp, htmp⟩ : ∃ tmp, tmp = Obj.cells #[.slice A l.length c] t := ⟨_, rfl⟩
  obtain ⟨v', hv'⟩ : ∃ v', v' = Value.slice (some ⟨g, 0, none⟩) (k + 1) cap := ⟨_, rfl⟩
  have hg1 : n₁ ≤ g := (hown.lt g rfl).1
  have hvo : v'.ownBlock = some g := by rw [hv']; rfl
  rw [← htmp] at hgrow
  rw [← hv'] at hown ⊢
  have hv1 : Boxed w1 B11 22 v := Go.Boxed.kept (Go.Boxed.alloc hv tmp) hgrow (fun e => by have := hrow _ e.symm; omega)
  have hgs := grownBy_setCell' w1 B11 v'
  refine ⟨hv1, Go.Boxed.set v' hv1, hown.kept hgs (.inr (by rw [hvo]; intro e; injection e with e; omega)), ?_, ?_, ?_, ?_⟩
  · rw [hvo]
    exact Els_far ((hE.keep (balloc (Below.refl _ _) tmp)).push (hr.keep (balloc (Below.refl _ _) tmp)) hc hne hgrow hat (by simp)) (p := ⟨B11, 0, none⟩) (by simp only; omega) v'
  · exact ((hb.kept hB hn (World.grownBy_alloc W tmp none) (fun r e => by cases e)).kept hB hn hgrow (fun r e => .inr (hrow r e))).kept hB hn hgs (fun r e => .inl (by cases e; rfl))
  · refine ((KeepsOthers.alloc W tmp).trans (KeepsOthers.of_grownBy hgrow fun j o ej hj => ?_)).trans (KeepsOthers.setCell _ _ _)
    rcases (hO.alloc tmp).2 with ⟨rfl, _⟩ | ⟨g', cap', cur, rfl, _, hgb, _⟩
    · simp [Value.ownBlock] at ej
    · obtain rfl : g' = j := by simpa [Value.ownBlock] using ej
      rw [hgb] at hj; cases hj; rfl
  · intro w0 h0 hb0
    have h1 : w0.heap.size ≤ (W.alloc tmp).heap.size := by simp; have := hb0.size; omega
    exact ((balloc hb0 tmp).grown hgrow h1 (fun j e => by have := hrow j e; omega)).setCell (p := ⟨B11, 0, none⟩) h0 v'
end Bk
end Go.Proofs.Ytnhjeelcgfobnaa
