/-
  Jobs of layer 19. The walk of WorkerStays.
-/
import Derived.Test.YtdekbncpodjgnaaWkM
import Derived.Test.YtdekbncpodjgnaaWkI
import Derived.Test.YtdekbncpodjgnaaRegD
namespace Go.Proofs.Ytdekbncpodjgnaa
open Go.RowKit Runs Lagc Reg
set_option linter.unusedVariables false
set_option linter.unusedSimpArgs false
namespace Wk
open Lagw

/-! ### events in two parts -/
theorem runL_shift : ∀ (l : List Ev) (s : List Bool × List Int) (k n : Nat), runL s l (k + n) = (((runL s l k).1.1, (runL s l k).1.2 + n), (runL s l k).2) := by
  intro l
  induction l with
  | nil => intro s k n; rfl
  | cons e l ih =>
    intro s k n
    by_cases h0 : (stepS s.1 s.2 e).2 = 0
    · rw [runL, if_neg (by simp [h0]), runL, if_neg (by simp [h0]), show k + n + 1 = (k + 1) + n by omega, ih]
    · rw [runL, if_pos h0, runL, if_pos h0]
theorem runL_split : ∀ (l : List Ev) (s : List Bool × List Int) (k T : Nat), T ≤ l.length → runL s l k = if (runL s (l.take T) k).2 ≠ 0 then runL s (l.take T) k else runL (runL s (l.take T) k).1.1 (l.drop T) (k + T) := by
  intro l
  induction l with
  | nil =>
    intro s k T hT
    have : T = 0 := by simpa using hT
    subst this
    simp [runL]
  | cons e l ih =>
    intro s k T hT
    cases T with
    | zero => simp [runL]
    | succ T =>
      rw [List.take_succ_cons, List.drop_succ_cons]
      by_cases h0 : (stepS s.1 s.2 e).2 = 0
      · rw [runL, if_neg (by simp [h0])]
        have e2 : runL s (e :: l.take T) k = runL (stepS s.1 s.2 e).1 (l.take T) (k + 1) := by rw [runL, if_neg (by simp [h0])]
        rw [e2, ih (stepS s.1 s.2 e).1 (k + 1) T (by simpa using hT), show k + 1 + T = k + (T + 1) by omega]
      · have e2 : runL s (e :: l.take T) k = ((s, k), (stepS s.1 s.2 e).2) := by rw [runL, if_pos h0]
        rw [e2, if_pos h0, runL, if_pos h0]
theorem step_mono {d : List Bool} {t : List Int} {e : Ev} (h : (stepS d t e).2 = 0) {j : Nat} (hj : d.getD j false = true) : (stepS d t e).1.1.getD j false = true := by
  have hset : ∀ k, (d.set k true).getD j false = true := by
    intro k
    rw [List.getD_eq_getElem?_getD, List.getElem?_set]
    split
    · split
      · rfl
      · rename_i h8 h9
        rw [List.getD_eq_getElem?_getD, List.getElem?_eq_none (by omega)] at hj
        cases hj
    · rw [← List.getD_eq_getElem?_getD]; exact hj
  unfold stepS at h ⊢
  by_cases h4 : e.k = 4
  · rw [if_pos h4] at h ⊢
    by_cases h5 : e.w ≠ 0 ∨ e.b ≠ 0
    · rw [if_pos h5] at h; cases h
    · rw [if_neg h5]; exact hj
  rw [if_neg h4] at h ⊢
  by_cases h5 : e.k < 1 ∨ 3 < e.k ∨ e.w < 0 ∨ (t.length : Int) ≤ e.w
  · rw [if_pos h5] at h; cases h
  rw [if_neg h5] at h ⊢
  by_cases h1 : e.k = 1
  · rw [if_pos h1] at h ⊢
    by_cases h6 : e.b < 0 ∨ (d.length : Int) ≤ e.b
    · rw [if_pos h6] at h; cases h
    rw [if_neg h6] at h ⊢
    by_cases h7 : t.getD e.w.toNat 0 ≠ -1 ∨ d.getD e.b.toNat true = true
    · rw [if_pos h7] at h; cases h
    rw [if_neg h7]; exact hj
  rw [if_neg h1] at h ⊢
  by_cases h6 : e.b ≠ 0
  · rw [if_pos h6] at h; cases h
  rw [if_neg h6] at h ⊢
  by_cases h7 : t.getD e.w.toNat 0 = -1
  · rw [if_pos h7] at h; cases h
  rw [if_neg h7]
  simp only
  split
  · exact hset _
  · exact hj
theorem apply_work {xs ys : List Int} {M S : Nat} (hj : Job xs ys M S) {d : List Bool} {t : List Int} (hG : Good19 (cdiv xs.length S) d t) (e : Ev) : applyS xs ys M S ⟨sumA xs ys M S d, d, t⟩ e = stW xs ys M S (stepS d t e) := by
  unfold applyS
  rw [if_neg (by have := stateErr_work hj (st := (d, t)) hG; unfold workS at this; rw [this]; simp)]
  simp only [Int.toNat_natCast]
theorem work_small2 {xs ys : List Int} {M S : Nat} (hj : Job xs ys M S) {d : List Bool} {t : List Int} (hG : Good19 (cdiv xs.length S) d t) : (sumA xs ys M S d).s.length ≤ 511 ∧ (sumA xs ys M S d).n.length ≤ 511 ∧ (sumA xs ys M S d).g.length ≤ 64 ∧ d.length ≤ 64 ∧ t.length ≤ 6 := work_small hj (st := (d, t)) hG
theorem apply_w {xs ys : List Int} {M S : Nat} (hj : Job xs ys M S) {d : List Bool} {t : List Int} (hG : Good19 (cdiv xs.length S) d t) (X Y S1 N1 G1 D T : Option Addr) (cx cy c1 c2 c3 c4 c5 : Nat) (ev : Ev) (w : World) (hx : RI .i64 w X xs) (hy : RI .i64 w Y ys) (hcx : xs.length ≤ cx) (hr : RW w S1 N1 G1 D T ⟨sumA xs ys M S d, d, t⟩) :
    Calls Try.prog 22 #[.agg #[.slice X xs.length cx, .slice Y ys.length cy, .int .i64 (M : Int), .int .i64 (S : Int)], .agg #[.slice S1 (sumA xs ys M S d).s.length c1, .slice N1 (sumA xs ys M S d).n.length c2, .slice G1 (sumA xs ys M S d).g.length c3, .slice D d.length c4, .slice T t.length c5], .agg #[.int .u8 ev.k, .int .i64 ev.w, .int .i64 ev.b]] w (RetW w (stW xs ys M S (stepS d t ev))) := by
  obtain ⟨h1, h2, h3, h4, h5⟩ := work_small2 hj hG
  have hlx := hj.lx
  have hly := (streamErr_zero hj.y).1
  have h := apply_any X Y S1 N1 G1 D T cx cy c1 c2 c3 c4 c5 xs ys M S ⟨sumA xs ys M S d, d, t⟩ ev.k ev.w ev.b w hx hy hcx (by omega) (by omega) hr (by simp only; omega) (by simp only; omega) (by simp only; omega) (by simp only; omega) (by simp only; omega)
  rw [apply_work hj hG] at h
  exact h
theorem same19_w {xs ys : List Int} {M S : Nat} (hj : Job xs ys M S) {d : List Bool} {t : List Int} (hG : Good19 (cdiv xs.length S) d t) (S1 N1 G1 D1 T1 S2 N2 G2 D2 T2 : Option Addr) (c1 c2 c3 c4 c5 d1 d2 d3 d4 d5 : Nat) (w : World) (hx : RW w S1 N1 G1 D1 T1 ⟨sumA xs ys M S d, d, t⟩) (hy : RW w S2 N2 G2 D2 T2 ⟨sumA xs ys M S d, d, t⟩) :
    Calls Try.prog 19 #[.agg #[.slice S1 (sumA xs ys M S d).s.length c1, .slice N1 (sumA xs ys M S d).n.length c2, .slice G1 (sumA xs ys M S d).g.length c3, .slice D1 d.length c4, .slice T1 t.length c5], .agg #[.slice S2 (sumA xs ys M S d).s.length d1, .slice N2 (sumA xs ys M S d).n.length d2, .slice G2 (sumA xs ys M S d).g.length d3, .slice D2 d.length d4, .slice T2 t.length d5]] w fun e w' => e = .returned (.bool true) ∧ Below w.heap.size w w' := by
  obtain ⟨h1, h2, h3, h4, h5⟩ := work_small2 hj hG
  exact same19_yes S1 N1 G1 D1 T1 S2 N2 G2 D2 T2 c1 c2 c3 c4 c5 d1 d2 d3 d4 d5 ⟨sumA xs ys M S d, d, t⟩ w hx hy (by simp only; omega) (by simp only; omega) (by simp only; omega) (by simp only; omega) (by simp only; omega)
theorem same18_w {xs ys : List Int} {M S : Nat} (hj : Job xs ys M S) {d : List Bool} {t : List Int} (hG : Good19 (cdiv xs.length S) d t) (S1 N1 G1 S2 N2 G2 : Option Addr) (c1 c2 c3 d1 d2 d3 : Nat) (w : World) (hx : RA w S1 N1 G1 (sumA xs ys M S d)) (hy : RA w S2 N2 G2 (sumA xs ys M S d)) :
    Calls Try.prog 30 #[.agg #[.slice S1 (sumA xs ys M S d).s.length c1, .slice N1 (sumA xs ys M S d).n.length c2, .slice G1 (sumA xs ys M S d).g.length c3], .agg #[.slice S2 (sumA xs ys M S d).s.length d1, .slice N2 (sumA xs ys M S d).n.length d2, .slice G2 (sumA xs ys M S d).g.length d3]] w fun e w' => e = .returned (.bool true) ∧ Below w.heap.size w w' := by
  obtain ⟨h1, h2, h3, h4, h5⟩ := work_small2 hj hG
  have h := same18_any S1 N1 G1 S2 N2 G2 c1 c2 c3 d1 d2 d3 (sumA xs ys M S d) (sumA xs ys M S d) w hx hy (by omega) (by omega) (by omega) (by omega) (by omega) (by omega)
  rw [show sameB (sumA xs ys M S d) (sumA xs ys M S d) = true from sameB_iff.2 rfl] at h
  exact h
structure ApP where
  J : Value
  V : Value
  L : Value
  i : Value
  pe : Value
  ev : Value
  R : Work
  e : Int
  B : Nat
def ApP.F (p : ApP) : Nat → Value → World → Prop
  | 0 => fun v _ => v = p.J
  | 1 => fun v _ => v = p.V
  | 2 => fun v _ => v = p.L
  | 3 => fun v _ => v = p.i
  | 4 => fun v _ => v = p.pe
  | 5 => fun v _ => v = p.ev
  | 6 => fun v w => ∃ S N G D T c1 c2 c3 c4 c5, v = .tuple #[.agg #[.slice S p.R.a.s.length c1, .slice N p.R.a.n.length c2, .slice G p.R.a.g.length c3, .slice D p.R.d.length c4, .slice T p.R.t.length c5], .int .i64 p.e] ∧ RW w S N G D T p.R
  | 7 => fun v w => ∃ S N G D T c1 c2 c3 c4 c5, v = .tuple #[.agg #[.slice S p.R.a.s.length c1, .slice N p.R.a.n.length c2, .slice G p.R.a.g.length c3, .slice D p.R.d.length c4, .slice T p.R.t.length c5], .int .i64 p.e] ∧ RW w S N G D T p.R
  | 8 => fun v w => ∃ S N G D T c1 c2 c3 c4 c5, v = .agg #[.slice S p.R.a.s.length c1, .slice N p.R.a.n.length c2, .slice G p.R.a.g.length c3, .slice D p.R.d.length c4, .slice T p.R.t.length c5] ∧ RW w S N G D T p.R
  | 9 => fun v _ => v = .int .i64 p.e
  | 10 => fun v w => ∃ g, v = .pointer (some ⟨g, 0, none⟩) ∧ p.B ≤ g ∧ Blk w g 42 #[.slice none 0 0, .slice none 0 0, .slice none 0 0, .slice none 0 0, .slice none 0 0]
  | 12 => fun v _ => v = .int .i64 p.e
  | _ => fun _ _ => True
def ApP.P (p : ApP) : Nat → Value → Prop
  | 7 => fun v => ∃ x, v = .tuple #[x, .int .i64 p.e]
  | 9 => fun v => v = .int .i64 p.e
  | 12 => fun v => v = .int .i64 p.e
  | _ => fun _ => True
theorem ApP.keep (p : ApP) : ∀ k v w w', Below w.heap.size w w' → p.F k v w → p.F k v w' := by
  intro k v w w' hb h
  match k, h with
  | 0, h => exact h
  | 1, h => exact h
  | 2, h => exact h
  | 3, h => exact h
  | 4, h => exact h
  | 5, h => exact h
  | 6, ⟨S, N, G, D, T, c1, c2, c3, c4, c5, e, h1⟩ => exact ⟨S, N, G, D, T, c1, c2, c3, c4, c5, e, h1.keep hb⟩
  | 7, ⟨S, N, G, D, T, c1, c2, c3, c4, c5, e, h1⟩ => exact ⟨S, N, G, D, T, c1, c2, c3, c4, c5, e, h1.keep hb⟩
  | 8, ⟨S, N, G, D, T, c1, c2, c3, c4, c5, e, h1⟩ => exact ⟨S, N, G, D, T, c1, c2, c3, c4, c5, e, h1.keep hb⟩
  | 9, h => exact h
  | 10, ⟨g, e, hg, h1⟩ => exact ⟨g, e, hg, h1.keep hb⟩
  | 11, _ => trivial
  | 12, h => exact h
  | n + 13, _ => trivial
theorem ApP.val (p : ApP) : ∀ k v w, p.F k v w → p.P k v := by
  intro k v w h
  match k, h with
  | 0, _ => trivial
  | 1, _ => trivial
  | 2, _ => trivial
  | 3, _ => trivial
  | 4, _ => trivial
  | 5, _ => trivial
  | 6, _ => trivial
  | 7, ⟨S, N, G, D, T, c1, c2, c3, c4, c5, e, h1⟩ => exact ⟨_, e⟩
  | 8, _ => trivial
  | 9, h => exact h
  | 10, _ => trivial
  | 11, _ => trivial
  | 12, h => exact h
  | n + 13, _ => trivial
def ApP.E (p : ApP) (w0 : World) (val : Nat → Value) (w : World) : Prop :=
  ∃ g S N G D T c1 c2 c3 c4 c5, val 10 = .pointer (some ⟨g, 0, none⟩) ∧ w0.heap.size ≤ g ∧ Blk w g 42 #[.slice S p.R.a.s.length c1, .slice N p.R.a.n.length c2, .slice G p.R.a.g.length c3, .slice D p.R.d.length c4, .slice T p.R.t.length c5] ∧ RW w S N G D T p.R ∧ Below w0.heap.size w0 w
theorem ApP.upd (p : ApP) (w0 : World) : ∀ val i v w, (i == 9 || i == 12) = true → p.E w0 val w → p.E w0 (upd val i v) w := by
  rintro val i v w hi ⟨g, S, N, G, D, T, c1, c2, c3, c4, c5, e, h⟩
  have hne : 10 ≠ i := by
    simp only [Bool.or_eq_true, beq_iff_eq] at hi
    omega
  exact ⟨g, S, N, G, D, T, c1, c2, c3, c4, c5, by rw [upd_ne _ hne]; exact e, h⟩
structure StP where
  g10 : Nat
  g23 : Nat
  S : Option Addr
  N : Option Addr
  G : Option Addr
  D : Option Addr
  c1 : Nat
  c2 : Nat
  c3 : Nat
  c4 : Nat
  a : Acc
  n : Nat
  J : Value
  V10 : Value
  V23 : Value
  k : Int
  L : Value
def StP.F (p : StP) : Nat → Value → World → Prop
  | 2 => fun v _ => v = .int .i64 0
  | 6 => fun v _ => v = .int .i64 p.k
  | 7 => fun v _ => v = p.L
  | 8 => fun v _ => v = .int .i64 p.k
  | 12 => fun v _ => v = p.V23
  | 13 => fun v _ => v = p.V10
  | 17 => fun v _ => v = .pointer (some ⟨p.g10, 0, none⟩)
  | 18 => fun v _ => v = .agg #[.slice p.S p.a.s.length p.c1, .slice p.N p.a.n.length p.c2, .slice p.G p.a.g.length p.c3]
  | 19 => fun v _ => v = p.J
  | 20 => fun v _ => v = .pointer (some ⟨p.g10, 3, none⟩)
  | 21 => fun v _ => v = .slice p.D p.n p.c4
  | 22 => fun v w => ∃ S N G c1 c2 c3, v = .agg #[.slice S p.a.s.length c1, .slice N p.a.n.length c2, .slice G p.a.g.length c3] ∧ RA w S N G p.a
  | 25 => fun _ _ => True
  | _ => fun v _ => v = .bool true
theorem StP.keep (p : StP) : ∀ k v w w', Below w.heap.size w w' → p.F k v w → p.F k v w' := by
  intro k v w w' hb h
  match k, h with
  | 0, h => exact h
  | 1, h => exact h
  | 2, h => exact h
  | 3, h => exact h
  | 4, h => exact h
  | 5, h => exact h
  | 6, h => exact h
  | 7, h => exact h
  | 8, h => exact h
  | 9, h => exact h
  | 10, h => exact h
  | 11, h => exact h
  | 12, h => exact h
  | 13, h => exact h
  | 14, h => exact h
  | 15, h => exact h
  | 16, h => exact h
  | 17, h => exact h
  | 18, h => exact h
  | 19, h => exact h
  | 20, h => exact h
  | 21, h => exact h
  | 22, ⟨S, N, G, c1, c2, c3, e, h1⟩ => exact ⟨S, N, G, c1, c2, c3, e, h1.keep hb⟩
  | 23, h => exact h
  | 24, h => exact h
  | 25, _ => trivial
  | n + 26, h => exact h
set_option maxRecDepth 20000 in
set_option maxHeartbeats 4000000 in
theorem workerStays_walk (X Y A : Option Addr) (cx cy c : Nat) (xs ys : List Int) (m s : Int) (n : Int) (l : List Ev) (at_ : Int) (w : World) (hj : InJ w X Y cx cy xs ys m s) (hn : -9223372036854775808 ≤ n ∧ n ≤ 9223372036854775807) (hA : InE w A c l) (hat : -9223372036854775808 ≤ at_ ∧ at_ ≤ 9223372036854775807) :
    Calls Try.prog 7 #[.agg #[.slice X xs.length cx, .slice Y ys.length cy, .int .i64 m, .int .i64 s], .int .i64 n, .slice A l.length c, .int .i64 at_] w fun e w' => e = .returned (.bool true) ∧ Below w.heap.size w w' := by
  have hx := hj.x
  have hy := hj.y
  have hcx := hj.cx
  have hAr := hA.r
  have hAl := hA.len
  have hAc := hA.cp
  have HF1 := Lib.hid (fun w hx hy => fit19_any X Y cx cy xs ys m s w hx hy)
  clear hj hA
  by_cases hno : fitJ xs ys m s = false ∨ n < 1 ∨ 6 < n ∨ 40 < l.length ∨ at_ < 0 ∨ (l.length : Int) < at_
  · have hcase : fitJ xs ys m s = false ∨ (fitJ xs ys m s = true ∧ decide (n < 1) = true) ∨ (fitJ xs ys m s = true ∧ decide (n < 1) = false ∧ decide (6 < n) = true) ∨ (fitJ xs ys m s = true ∧ decide (n < 1) = false ∧ decide (6 < n) = false ∧ decide (40 < (l.length : Int)) = true) ∨ (fitJ xs ys m s = true ∧ decide (n < 1) = false ∧ decide (6 < n) = false ∧ decide (40 < (l.length : Int)) = false ∧ decide (at_ < 0) = true) ∨ (fitJ xs ys m s = true ∧ decide (n < 1) = false ∧ decide (6 < n) = false ∧ decide (40 < (l.length : Int)) = false ∧ decide (at_ < 0) = false ∧ decide ((l.length : Int) < at_) = true) := by
      cases hf : fitJ xs ys m s
      · exact .inl rfl
      · right
        rw [hf] at hno
        by_cases h1 : n < 1
        · exact .inl ⟨rfl, decide_eq_true h1⟩
        by_cases h2 : 6 < n
        · exact .inr (.inl ⟨rfl, decide_eq_false h1, decide_eq_true h2⟩)
        by_cases h3 : 40 < (l.length : Int)
        · exact .inr (.inr (.inl ⟨rfl, decide_eq_false h1, decide_eq_false h2, decide_eq_true h3⟩))
        by_cases h4 : at_ < 0
        · exact .inr (.inr (.inr (.inl ⟨rfl, decide_eq_false h1, decide_eq_false h2, decide_eq_false h3, decide_eq_true h4⟩)))
        exact .inr (.inr (.inr (.inr ⟨rfl, decide_eq_false h1, decide_eq_false h2, decide_eq_false h3, decide_eq_false h4, decide_eq_true (by simp at hno; omega)⟩)))
    clear hno
    have hk := Blk.new w 24 #[.slice X xs.length cx, .slice Y ys.length cy, .int .i64 m, .int .i64 s]
    have hbX : Below w.heap.size w (w.alloc (.cells #[.slice X xs.length cx, .slice Y ys.length cy, .int .i64 m, .int .i64 s] 24)) := balloc (Below.refl _ _) _
    have q0 : World.cell? (w.alloc (.cells #[.slice X xs.length cx, .slice Y ys.length cy, .int .i64 m, .int .i64 s] 24)) ⟨w.heap.size, 0, none⟩ = some (.slice X xs.length cx) := hk.cell 0
    have f0 := hk.frozen 0
    have q1 : World.cell? (w.alloc (.cells #[.slice X xs.length cx, .slice Y ys.length cy, .int .i64 m, .int .i64 s] 24)) ⟨w.heap.size, 1, none⟩ = some (.slice Y ys.length cy) := hk.cell 1
    have f1 := hk.frozen 1
    have q2 : World.cell? (w.alloc (.cells #[.slice X xs.length cx, .slice Y ys.length cy, .int .i64 m, .int .i64 s] 24)) ⟨w.heap.size, 2, none⟩ = some (.int .i64 m) := hk.cell 2
    have f2 := hk.frozen 2
    have q3 : World.cell? (w.alloc (.cells #[.slice X xs.length cx, .slice Y ys.length cy, .int .i64 m, .int .i64 s] 24)) ⟨w.heap.size, 3, none⟩ = some (.int .i64 s) := hk.cell 3
    have f3 := hk.frozen 3
    have fl := hk.lt
    have hxk := hx.keep hbX
    have hyk := hy.keep hbX
    rcases hcase with h | ⟨h, h1⟩ | ⟨h, h1, h2⟩ | ⟨h, h1, h2, h3⟩ | ⟨h, h1, h2, h3, h4⟩ | ⟨h, h1, h2, h3, h4, h5⟩
    all_goals
      rw [h] at HF1
      clear h
      go_enter Try.func7, Try.ntmps7
      go_wp2_with fail
      refine (alive19 _).mono ?_
      rintro _ w1 ⟨rfl, hb1⟩
      have hB1 := bstep hbX hb1
      clear q0 q1 q2 q3 f0 f1 f2 f3 fl
      replace hk := hk.keep hb1
      replace hxk := hxk.keep hb1
      replace hyk := hyk.keep hb1
      have q0 : World.cell? w1 ⟨w.heap.size, 0, none⟩ = some (.slice X xs.length cx) := hk.cell 0
      have f0 := hk.frozen 0
      have q1 : World.cell? w1 ⟨w.heap.size, 1, none⟩ = some (.slice Y ys.length cy) := hk.cell 1
      have f1 := hk.frozen 1
      have q2 : World.cell? w1 ⟨w.heap.size, 2, none⟩ = some (.int .i64 m) := hk.cell 2
      have f2 := hk.frozen 2
      have q3 : World.cell? w1 ⟨w.heap.size, 3, none⟩ = some (.int .i64 s) := hk.cell 3
      have f3 := hk.frozen 3
      have fl := hk.lt
      go_wp2_with fail
      refine (HF1.out _ hxk hyk).mono ?_
      rintro _ w2 ⟨rfl, hb2⟩
      go_wp2
      go_ret
      exact ⟨rfl, bstep hB1 hb2⟩
  have hft : fitJ xs ys m s = true := by
    cases hf : fitJ xs ys m s
    · exact absurd (.inl hf) hno
    · rfl
  rw [hft] at HF1
  have d1 : decide (n < 1) = false := decide_eq_false (fun h => hno (.inr (.inl h)))
  have d2 : decide (6 < n) = false := decide_eq_false (fun h => hno (.inr (.inr (.inl h))))
  have d3 : decide (40 < (l.length : Int)) = false := decide_eq_false (fun h => hno (.inr (.inr (.inr (.inl (by omega))))))
  have d4 : decide (at_ < 0) = false := decide_eq_false (fun h => hno (.inr (.inr (.inr (.inr (.inl h))))))
  have d5 : decide ((l.length : Int) < at_) = false := decide_eq_false (fun h => hno (.inr (.inr (.inr (.inr (.inr h))))))
  obtain ⟨M, S, rfl, rfl, hJ, h12⟩ := fitJ_yes hft
  obtain ⟨N, rfl⟩ : ∃ N : Nat, n = N := ⟨n.toNat, by omega⟩
  obtain ⟨T, rfl⟩ : ∃ T : Nat, at_ = T := ⟨at_.toNat, by omega⟩
  have hTl : T ≤ l.length := by omega
  have hl40 : l.length ≤ 40 := by omega
  have hlx := hJ.lx
  have hly := (streamErr_zero hJ.y).1
  have hM := hJ.m
  have hTc : T ≤ c := by omega
  have hlt : (l.take T).length = T := by rw [List.length_take]; omega
  obtain ⟨d0, t0, k0, e0, hr0, hR0, hG0, ht0, hk0, hek0⟩ := run_facts (l := l.take T) hJ (N := N) (by omega) (by omega) (by omega)
  obtain ⟨d1', t1', k1', e1', hr1, hR1, hG1, ht1, hk1, hek1⟩ := run_facts (l := l) hJ (N := N) (by omega) (by omega) (by omega)
  rw [hlt] at hk0 hek0
  have hsplit := runL_split l (start19 (cdiv xs.length S) N) 0 T hTl
  rw [hR0, hR1, Nat.zero_add] at hsplit
  have HRunT : Hid (∀ A' c' w, RI .i64 w X xs → RI .i64 w Y ys → RE w A' (l.take T) → Calls Try.prog 24 #[.agg #[.slice X xs.length cx, .slice Y ys.length cy, .int .i64 (M : Int), .int .i64 (S : Int)], .int .i64 (N : Int), .slice A' T c'] w (RetR w ((workS xs ys M S (d0, t0), (k0 : Int)), e0))) := Lib.hid (fun A' c' w hx hy hA => by
    have := run_any X Y A' cx cy c' xs ys M S N (l.take T) w hx hy hcx (by omega) (by omega) hA (by omega)
    rw [hr0, hlt] at this
    exact this)
  have HRun := Lib.hid (fun w hx hy hA => run_any X Y A cx cy c xs ys M S N l w hx hy hcx (by omega) (by omega) hA hAl)
  rw [hr1] at HRun
  have hREt : ∀ w, RE w A l → ∃ A' : Option Addr, (A = A' ∨ True) ∧ RE w A' (l.take T) := fun w h => ⟨A, .inl rfl, h.take T⟩
  have hkJ := Blk.new w 24 #[.slice X xs.length cx, .slice Y ys.length cy, .int .i64 (M : Int), .int .i64 (S : Int)]
  have hbX : Below w.heap.size w (w.alloc (.cells #[.slice X xs.length cx, .slice Y ys.length cy, .int .i64 (M : Int), .int .i64 (S : Int)] 24)) := balloc (Below.refl _ _) _
  have q0 : World.cell? (w.alloc (.cells #[.slice X xs.length cx, .slice Y ys.length cy, .int .i64 (M : Int), .int .i64 (S : Int)] 24)) ⟨w.heap.size, 0, none⟩ = some (.slice X xs.length cx) := hkJ.cell 0
  have f0 := hkJ.frozen 0
  have q1 : World.cell? (w.alloc (.cells #[.slice X xs.length cx, .slice Y ys.length cy, .int .i64 (M : Int), .int .i64 (S : Int)] 24)) ⟨w.heap.size, 1, none⟩ = some (.slice Y ys.length cy) := hkJ.cell 1
  have f1 := hkJ.frozen 1
  have q2 : World.cell? (w.alloc (.cells #[.slice X xs.length cx, .slice Y ys.length cy, .int .i64 (M : Int), .int .i64 (S : Int)] 24)) ⟨w.heap.size, 2, none⟩ = some (.int .i64 (M : Int)) := hkJ.cell 2
  have f2 := hkJ.frozen 2
  have q3 : World.cell? (w.alloc (.cells #[.slice X xs.length cx, .slice Y ys.length cy, .int .i64 (M : Int), .int .i64 (S : Int)] 24)) ⟨w.heap.size, 3, none⟩ = some (.int .i64 (S : Int)) := hkJ.cell 3
  have f3 := hkJ.frozen 3
  have fl := hkJ.lt
  have hxk := hx.keep hbX
  have hyk := hy.keep hbX
  have hAk := hAr.keep hbX
  go_enter Try.func7, Try.ntmps7
  go_wp2_with fail
  refine (alive19 _).mono ?_
  rintro _ w1 ⟨rfl, hb1⟩
  have hB1 := bstep hbX hb1
  clear q0 q1 q2 q3 f0 f1 f2 f3 fl
  replace hkJ := hkJ.keep hb1
  replace hxk := hxk.keep hb1
  replace hyk := hyk.keep hb1
  replace hAk := hAk.keep hb1
  have q0 : World.cell? w1 ⟨w.heap.size, 0, none⟩ = some (.slice X xs.length cx) := hkJ.cell 0
  have f0 := hkJ.frozen 0
  have q1 : World.cell? w1 ⟨w.heap.size, 1, none⟩ = some (.slice Y ys.length cy) := hkJ.cell 1
  have f1 := hkJ.frozen 1
  have q2 : World.cell? w1 ⟨w.heap.size, 2, none⟩ = some (.int .i64 (M : Int)) := hkJ.cell 2
  have f2 := hkJ.frozen 2
  have q3 : World.cell? w1 ⟨w.heap.size, 3, none⟩ = some (.int .i64 (S : Int)) := hkJ.cell 3
  have f3 := hkJ.frozen 3
  have fl := hkJ.lt
  go_wp2_with fail
  refine (HF1.out _ hxk hyk).mono ?_
  rintro _ w2 ⟨rfl, hb2⟩
  have hB2 := bstep hB1 hb2
  clear q0 q1 q2 q3 f0 f1 f2 f3 fl
  replace hkJ := hkJ.keep hb2
  replace hxk := hxk.keep hb2
  replace hyk := hyk.keep hb2
  replace hAk := hAk.keep hb2
  have q0 : World.cell? w2 ⟨w.heap.size, 0, none⟩ = some (.slice X xs.length cx) := hkJ.cell 0
  have f0 := hkJ.frozen 0
  have q1 : World.cell? w2 ⟨w.heap.size, 1, none⟩ = some (.slice Y ys.length cy) := hkJ.cell 1
  have f1 := hkJ.frozen 1
  have q2 : World.cell? w2 ⟨w.heap.size, 2, none⟩ = some (.int .i64 (M : Int)) := hkJ.cell 2
  have f2 := hkJ.frozen 2
  have q3 : World.cell? w2 ⟨w.heap.size, 3, none⟩ = some (.int .i64 (S : Int)) := hkJ.cell 3
  have f3 := hkJ.frozen 3
  have fl := hkJ.lt
  go_upto_region 4 with (fail)
  go_cut [10, 11, 12] (fun s10 s11 s12 wc => ∃ (g : Nat) (S9 N9 G9 D9 T9 : Option Addr) (z1 z2 z3 z4 z5 : Nat), s10 = .pointer (some ⟨g, 0, none⟩) ∧ s11 = .int .i64 (k0 : Int) ∧ s12 = .int .i64 e0 ∧ Blk wc g 42 #[.slice S9 (workS xs ys M S (d0, t0)).a.s.length z1, .slice N9 (workS xs ys M S (d0, t0)).a.n.length z2, .slice G9 (workS xs ys M S (d0, t0)).a.g.length z3, .slice D9 (workS xs ys M S (d0, t0)).d.length z4, .slice T9 (workS xs ys M S (d0, t0)).t.length z5] ∧ RW wc S9 N9 G9 D9 T9 (workS xs ys M S (d0, t0)) ∧ Below w2.heap.size w2 wc ∧ w2.heap.size ≤ g)
  case first =>
    generalize workS xs ys M S (d0, t0) = R0 at *
    clear hsplit hr0 hR0 hG0 ht0 hk0 hek0 hr1 hR1 hG1 ht1 hk1 hek1 HRun hJ h12 HF1
    have hRt := hAk.take T
    rcases A with _ | ad
    · go_region_law
        ((first
          | (go_simp; go_at_call 24; (with_reducible refine (HRunT.out _ _ w2.drew (hxk.keep (Below.drew (Below.refl _ _))) (hyk.keep (Below.drew (Below.refl _ _))) (hRt.keep (Below.drew (Below.refl _ _)))).mono ?_); rintro e w9 ⟨S9, N9, G9, D9, T9, z1, z2, z3, z4, z5, rfl, rw9, hb9'⟩; have hb9 : Below w2.heap.size w2 w9 := bstep (Below.drew (Below.refl _ _)) hb9')
          | (go_simp; go_at_call 24; (with_reducible refine (HRunT.out _ _ (w2.alloc (.cells #[.slice none 0 0, .slice none 0 0, .slice none 0 0, .slice none 0 0, .slice none 0 0] 42)).drew (hxk.keep (Below.drew (balloc (Below.refl _ _) _))) (hyk.keep (Below.drew (balloc (Below.refl _ _) _))) (hRt.keep (Below.drew (balloc (Below.refl _ _) _)))).mono ?_); rintro e w9 ⟨S9, N9, G9, D9, T9, z1, z2, z3, z4, z5, rfl, rw9, hb9'⟩; have hb9 : Below w2.heap.size w2 w9 := bstep (Below.drew (balloc (Below.refl _ _) _)) hb9'; have hZ : Blk w9 w2.heap.size 42 #[.slice none 0 0, .slice none 0 0, .slice none 0 0, .slice none 0 0, .slice none 0 0] := ((Blk.new w2 _ _).drew).keep hb9'; have y0 : w9.cell? ⟨w2.heap.size, 0, none⟩ = some (.slice none 0 0) := hZ.cell 0; have y1 : w9.cell? ⟨w2.heap.size, 1, none⟩ = some (.slice none 0 0) := hZ.cell 1; have y2 : w9.cell? ⟨w2.heap.size, 2, none⟩ = some (.slice none 0 0) := hZ.cell 2; have y3 : w9.cell? ⟨w2.heap.size, 3, none⟩ = some (.slice none 0 0) := hZ.cell 3; have y4 : w9.cell? ⟨w2.heap.size, 4, none⟩ = some (.slice none 0 0) := hZ.cell 4; have yf0 := hZ.frozen 0; have yf1 := hZ.frozen 1; have yf2 := hZ.frozen 2; have yf3 := hZ.frozen 3; have yf4 := hZ.frozen 4; have yl := hZ.lt)
          | fail))
      all_goals
        go_wp2_with fail
        go_meet
        first
          | exact ⟨w2.heap.size, S9, N9, G9, D9, T9, z1, z2, z3, z4, z5, rfl, rfl, rfl, (rw9.put5 hZ).2, (rw9.put5 hZ).1, ((((hb9.setCell (p := ⟨w2.heap.size, 0, none⟩) (Nat.le_refl _) _).setCell (p := ⟨w2.heap.size, 1, none⟩) (Nat.le_refl _) _).setCell (p := ⟨w2.heap.size, 2, none⟩) (Nat.le_refl _) _).setCell (p := ⟨w2.heap.size, 3, none⟩) (Nat.le_refl _) _).setCell (p := ⟨w2.heap.size, 4, none⟩) (Nat.le_refl _) _, Nat.le_refl _⟩
          | exact ⟨w9.heap.size, S9, N9, G9, D9, T9, z1, z2, z3, z4, z5, rfl, rfl, rfl, Blk.new _ _ _, rw9.keep (balloc (Below.refl _ _) _), balloc hb9 _, hb9.size⟩
    · obtain ⟨bA, oA, pA⟩ := ad
      go_region_law
        ((first
          | (go_simp; go_at_call 24; (with_reducible refine (HRunT.out _ _ w2.drew (hxk.keep (Below.drew (Below.refl _ _))) (hyk.keep (Below.drew (Below.refl _ _))) (hRt.keep (Below.drew (Below.refl _ _)))).mono ?_); rintro e w9 ⟨S9, N9, G9, D9, T9, z1, z2, z3, z4, z5, rfl, rw9, hb9'⟩; have hb9 : Below w2.heap.size w2 w9 := bstep (Below.drew (Below.refl _ _)) hb9')
          | (go_simp; go_at_call 24; (with_reducible refine (HRunT.out _ _ (w2.alloc (.cells #[.slice none 0 0, .slice none 0 0, .slice none 0 0, .slice none 0 0, .slice none 0 0] 42)).drew (hxk.keep (Below.drew (balloc (Below.refl _ _) _))) (hyk.keep (Below.drew (balloc (Below.refl _ _) _))) (hRt.keep (Below.drew (balloc (Below.refl _ _) _)))).mono ?_); rintro e w9 ⟨S9, N9, G9, D9, T9, z1, z2, z3, z4, z5, rfl, rw9, hb9'⟩; have hb9 : Below w2.heap.size w2 w9 := bstep (Below.drew (balloc (Below.refl _ _) _)) hb9'; have hZ : Blk w9 w2.heap.size 42 #[.slice none 0 0, .slice none 0 0, .slice none 0 0, .slice none 0 0, .slice none 0 0] := ((Blk.new w2 _ _).drew).keep hb9'; have y0 : w9.cell? ⟨w2.heap.size, 0, none⟩ = some (.slice none 0 0) := hZ.cell 0; have y1 : w9.cell? ⟨w2.heap.size, 1, none⟩ = some (.slice none 0 0) := hZ.cell 1; have y2 : w9.cell? ⟨w2.heap.size, 2, none⟩ = some (.slice none 0 0) := hZ.cell 2; have y3 : w9.cell? ⟨w2.heap.size, 3, none⟩ = some (.slice none 0 0) := hZ.cell 3; have y4 : w9.cell? ⟨w2.heap.size, 4, none⟩ = some (.slice none 0 0) := hZ.cell 4; have yf0 := hZ.frozen 0; have yf1 := hZ.frozen 1; have yf2 := hZ.frozen 2; have yf3 := hZ.frozen 3; have yf4 := hZ.frozen 4; have yl := hZ.lt)
          | fail))
      all_goals
        go_wp2_with fail
        go_meet
        first
          | exact ⟨w2.heap.size, S9, N9, G9, D9, T9, z1, z2, z3, z4, z5, rfl, rfl, rfl, (rw9.put5 hZ).2, (rw9.put5 hZ).1, ((((hb9.setCell (p := ⟨w2.heap.size, 0, none⟩) (Nat.le_refl _) _).setCell (p := ⟨w2.heap.size, 1, none⟩) (Nat.le_refl _) _).setCell (p := ⟨w2.heap.size, 2, none⟩) (Nat.le_refl _) _).setCell (p := ⟨w2.heap.size, 3, none⟩) (Nat.le_refl _) _).setCell (p := ⟨w2.heap.size, 4, none⟩) (Nat.le_refl _) _, Nat.le_refl _⟩
          | exact ⟨w9.heap.size, S9, N9, G9, D9, T9, z1, z2, z3, z4, z5, rfl, rfl, rfl, Blk.new _ _ _, rw9.keep (balloc (Below.refl _ _) _), balloc hb9 _, hb9.size⟩
  case rest =>
    obtain ⟨gA, S9, N9, G9, D9, T9, z1, z2, z3, z4, z5, rfl, rfl, rfl, hk10, rw10, hbc, hgA⟩ := hcut
    have hs12 := hb2.size
    obtain ⟨w3, rfl⟩ : ∃ w3, w3 = wc := ⟨_, rfl⟩
    have hB3 := bstep hB2 hbc
    clear q0 q1 q2 q3 f0 f1 f2 f3 fl
    by_cases he0 : e0 = 0
    · subst he0
      have hkT : k0 = T := hek0.1 rfl
      subst hkT
      rw [if_neg (by simp)] at hsplit
      have hC64 := hJ.c
      have hd0 := hG0.d
      have HRS := Lib.hid hsplit.symm
      have HAp := Lib.hid (fun d t (hG : Good19 (cdiv xs.length S) d t) S1 N1 G1 D T c1 c2 c3 c4 c5 (ev : Ev) w hx hy hr => apply_w hJ hG X Y S1 N1 G1 D T cx cy c1 c2 c3 c4 c5 ev w hx hy hcx hr)
      have HG2 := Lib.hid (fun d t e (hG : Good19 (cdiv xs.length S) d t) (h : (stepS d t e).2 = 0) => (step_good (e := e) hG h))
      have HSW := Lib.hid (fun d t (hG : Good19 (cdiv xs.length S) d t) => same19_w hJ hG)
      have HSum := Lib.hid (fun d (hd : d.length = cdiv xs.length S) D c4 w hx hy hdd => summed_any hJ X Y D cx cy c4 d w hx hy hdd hd)
      have HSame := Lib.hid (fun d t (hG : Good19 (cdiv xs.length S) d t) => same18_w hJ hG)
      have HST : Hid (∀ q : (List Bool × List Int) × Int, stW xs ys M S q = if q.2 ≠ 0 then (.none, q.2) else (workS xs ys M S q.1, 0)) := Lib.hid (fun q => rfl)
      have hWS : ∀ st, workS xs ys M S st = ⟨sumA xs ys M S st.1, st.1, st.2⟩ := fun _ => rfl
      simp only [hWS] at HRun HST hk10 rw10
      generalize cdiv xs.length S = C at *
      generalize sumA xs ys M S = SM at *
      have hkJ3 := hkJ.keep hbc
      clear hWS hsplit hr0 hr1 hR0 hR1 hek0 hek1 hk0 hk1 HRunT hREt HF1 hJ h12 hno hft ht1 hG1
      clear d1 d2 d3 d4 d5
      go_wp2
      go_loopg [16] (l.length - k0) (fun gk iv wr => ∃ (i : Nat) (d : List Bool) (t : List Int) (S6 N6 G6 D6 T6 : Option Addr) (x1 x2 x3 x4 x5 : Nat), i + gk = l.length ∧ iv = .int .i64 i ∧ Hid (runL (d, t) (l.drop i) i = (((d1', t1'), k1'), e1')) ∧ Good19 C d t ∧ Hid (t.length = N) ∧ Blk wr gA 42 #[.slice S6 (SM d).s.length x1, .slice N6 (SM d).n.length x2, .slice G6 (SM d).g.length x3, .slice D6 d.length x4, .slice T6 t.length x5] ∧ RW wr S6 N6 G6 D6 T6 ⟨SM d, d, t⟩ ∧ Below w2.heap.size w2 wr)
      case atStart => exact ⟨k0, d0, t0, S9, N9, G9, D9, T9, z1, z2, z3, z4, z5, by omega, rfl, HRS, hG0, Lib.hid ht0, hk10, rw10, hbc⟩
      case round =>
        clear hk10 rw10 HRS hG0 ht0 hkJ3 hB3 hbc
        obtain ⟨i, d, t, S6, N6, G6, D6, T6, x1, x2, x3, x4, x5, hi, rfl, hrun, hG, htN, hkV, rw6, hb⟩ := hrel
        have hi' : i ≤ l.length := by omega
        have HI := Lib.hid hi
        clear hi
        have hkJr := hkJ.keep hb
        have hxr := hxk.keep hb
        have hyr := hyk.keep hb
        have hAr2 := hAk.keep hb
        have hBr := bstep hB2 hb
        have hsr := hb.size
        have hlV := hkV.lt
        by_cases hlt2 : i < l.length
        · obtain ⟨ba, oa, hAe, hal, hac⟩ := hAr2 (by omega)
          obtain ⟨a1, a2, a3⟩ := hac i hlt2
          have hdrop : l.drop i = l[i] :: l.drop (i + 1) := List.drop_eq_getElem_cons hlt2
          have hrun2 := hrun.out
          rw [hdrop] at hrun2
          have HRUN := Lib.hid hrun2
          clear hac hrun hrun2 hdrop
          subst hAe
          generalize l[i] = ev at *
          obtain ⟨⟨⟨d', t'⟩, qe⟩, hq⟩ : ∃ q, stepS d t ev = q := ⟨_, rfl⟩
          have HApk := Lib.hid (HAp.out d t hG S6 N6 G6 D6 T6 x1 x2 x3 x4 x5 ev)
          rw [hq, HST.out] at HApk
          obtain ⟨RES, hRES⟩ : ∃ RES : Work × Int, RES = (if (((d', t'), qe) : (List Bool × List Int) × Int).2 ≠ 0 then (Work.none, (((d', t'), qe) : (List Bool × List Int) × Int).2) else (⟨SM (((d', t'), qe) : (List Bool × List Int) × Int).1.1, (((d', t'), qe) : (List Bool × List Int) × Int).1.1, (((d', t'), qe) : (List Bool × List Int) × Int).1.2⟩, 0)) := ⟨_, rfl⟩
          rw [← hRES] at HApk
          have HRE := Lib.hid hRES
          clear hRES HAp
          go_upto_region 11 with (fail)
          go_cut [17, 18] (fun s17 s18 wc => ∃ (g : Nat) (S7 N7 G7 D7 T7 : Option Addr) (u1 u2 u3 u4 u5 : Nat), s17 = .pointer (some ⟨g, 0, none⟩) ∧ s18 = .int .i64 RES.2 ∧ Blk wc g 42 #[.slice S7 RES.1.a.s.length u1, .slice N7 RES.1.a.n.length u2, .slice G7 RES.1.a.g.length u3, .slice D7 RES.1.d.length u4, .slice T7 RES.1.t.length u5] ∧ RW wc S7 N7 G7 D7 T7 RES.1 ∧ Below wr.heap.size wr wc ∧ wr.heap.size ≤ g)
          case first =>
            clear HRUN HG2 HSW HSum HSame HST HRun hq HRE
            refine wp_region_mid (by kernel_rfl) (by kernel_rfl) (by kernel_rfl) (ApP.F ⟨.agg #[.slice X xs.length cx, .slice Y ys.length cy, .int .i64 (M : Int), .int .i64 (S : Int)], .agg #[.slice S6 (SM d).s.length x1, .slice N6 (SM d).n.length x2, .slice G6 (SM d).g.length x3, .slice D6 d.length x4, .slice T6 t.length x5], .slice (some ⟨ba, oa, none⟩) l.length c, .int .i64 (i : Int), .pointer (some ⟨ba, oa + i * 3, none⟩), .agg #[.int .u8 ev.k, .int .i64 ev.w, .int .i64 ev.b], RES.1, RES.2, wr.heap.size⟩) (ApP.P ⟨.agg #[.slice X xs.length cx, .slice Y ys.length cy, .int .i64 (M : Int), .int .i64 (S : Int)], .agg #[.slice S6 (SM d).s.length x1, .slice N6 (SM d).n.length x2, .slice G6 (SM d).g.length x3, .slice D6 d.length x4, .slice T6 t.length x5], .slice (some ⟨ba, oa, none⟩) l.length c, .int .i64 (i : Int), .pointer (some ⟨ba, oa + i * 3, none⟩), .agg #[.int .u8 ev.k, .int .i64 ev.w, .int .i64 ev.b], RES.1, RES.2, wr.heap.size⟩) 11 (ApP.E ⟨.agg #[.slice X xs.length cx, .slice Y ys.length cy, .int .i64 (M : Int), .int .i64 (S : Int)], .agg #[.slice S6 (SM d).s.length x1, .slice N6 (SM d).n.length x2, .slice G6 (SM d).g.length x3, .slice D6 d.length x4, .slice T6 t.length x5], .slice (some ⟨ba, oa, none⟩) l.length c, .int .i64 (i : Int), .pointer (some ⟨ba, oa + i * 3, none⟩), .agg #[.int .u8 ev.k, .int .i64 ev.w, .int .i64 ev.b], RES.1, RES.2, wr.heap.size⟩ wr) (fun i => i == 9 || i == 12) (by kernel_rfl) (ApP.keep _) (ApP.val _) (ApP.upd _ _) ⟨?_, ?_, ?_, ?_, ?_, ?_, ?_, ?_, ?_, ?_, ?_, ?_, ?_, trivial⟩ ?_
            · refine MidOk.grow ?_ (by decide) rfl
              intro val a w9 hb9 hdep hold K hK
              have b1 : a.tmps[4]?.getD undef = .pointer (some ⟨w.heap.size, 0, none⟩) := ev_tmps ((hold 4 (by rfl)).trans (by rfl))
              have hkr := hkJr.keep hb9
              have p0 : World.cell? w9 ⟨w.heap.size, 0, none⟩ = some (.slice X xs.length cx) := hkr.cell 0
              have g0 := hkr.frozen 0
              have p1 : World.cell? w9 ⟨w.heap.size, 1, none⟩ = some (.slice Y ys.length cy) := hkr.cell 1
              have g1 := hkr.frozen 1
              have p2 : World.cell? w9 ⟨w.heap.size, 2, none⟩ = some (.int .i64 (M : Int)) := hkr.cell 2
              have g2 := hkr.frozen 2
              have p3 : World.cell? w9 ⟨w.heap.size, 3, none⟩ = some (.int .i64 (S : Int)) := hkr.cell 3
              have g3 := hkr.frozen 3
              have gl := hkr.lt
              clear hdep hold
              go_simp
              exact hK _ _ (Below.refl _ _) rfl
            · refine MidOk.grow ?_ (by decide) rfl
              intro val a w9 hb9 hdep hold K hK
              have b1 : a.tmps[10]?.getD undef = .pointer (some ⟨gA, 0, none⟩) := ev_tmps ((hold 10 (by rfl)).trans (by rfl))
              have hkr := hkV.keep hb9
              have p0 : World.cell? w9 ⟨gA, 0, none⟩ = some (.slice S6 (SM d).s.length x1) := hkr.cell 0
              have g0 := hkr.frozen 0
              have p1 : World.cell? w9 ⟨gA, 1, none⟩ = some (.slice N6 (SM d).n.length x2) := hkr.cell 1
              have g1 := hkr.frozen 1
              have p2 : World.cell? w9 ⟨gA, 2, none⟩ = some (.slice G6 (SM d).g.length x3) := hkr.cell 2
              have g2 := hkr.frozen 2
              have p3 : World.cell? w9 ⟨gA, 3, none⟩ = some (.slice D6 d.length x4) := hkr.cell 3
              have g3 := hkr.frozen 3
              have p4 : World.cell? w9 ⟨gA, 4, none⟩ = some (.slice T6 t.length x5) := hkr.cell 4
              have g4 := hkr.frozen 4
              have gl := hkr.lt
              clear hdep hold
              go_simp
              exact hK _ _ (Below.refl _ _) rfl
            · refine MidOk.grow ?_ (by decide) rfl
              intro val a w9 hb9 hdep hold K hK
              have b1 : a.tmps[2]?.getD undef = .slice (some ⟨ba, oa, none⟩) l.length c := ev_tmps ((hold 2 (by rfl)).trans (by rfl))
              clear hdep hold
              go_simp
              exact hK _ _ (Below.refl _ _) rfl
            · refine MidOk.grow ?_ (by decide) rfl
              intro val a w9 hb9 hdep hold K hK
              have b1 : a.tmps[16]?.getD undef = .int .i64 (i : Int) := ev_tmps ((hold 16 (by rfl)).trans (by rfl))
              clear hdep hold
              go_simp
              exact hK _ _ (Below.refl _ _) rfl
            · refine MidOk.grow ?_ (by decide) rfl
              intro val a w9 hb9 hdep hold K hK
              have b1 : a.tmps[104]?.getD undef = .slice (some ⟨ba, oa, none⟩) l.length c := ev_tmps ((hdep 2 104 _ rfl rfl rfl).1.trans (hdep 2 104 _ rfl rfl rfl).2)
              have b2 : a.tmps[105]?.getD undef = .int .i64 (i : Int) := ev_tmps ((hdep 3 105 _ rfl rfl rfl).1.trans (hdep 3 105 _ rfl rfl rfl).2)
              clear hdep hold
              go_simp
              exact hK _ _ (Below.refl _ _) rfl
            · refine MidOk.grow ?_ (by decide) rfl
              intro val a w9 hb9 hdep hold K hK
              have b1 : a.tmps[106]?.getD undef = .pointer (some ⟨ba, oa + i * 3, none⟩) := ev_tmps ((hdep 4 106 _ rfl rfl rfl).1.trans (hdep 4 106 _ rfl rfl rfl).2)
              have p0 : w9.cell? ⟨ba, oa + i * 3, none⟩ = some (.int .u8 ev.k) := (hb9.cell (p := ⟨ba, oa + i * 3, none⟩) hal).trans a1
              have p1 : w9.cell? ⟨ba, oa + i * 3 + 1, none⟩ = some (.int .i64 ev.w) := (hb9.cell (p := ⟨ba, oa + i * 3 + 1, none⟩) hal).trans a2
              have p2 : w9.cell? ⟨ba, oa + i * 3 + 2, none⟩ = some (.int .i64 ev.b) := (hb9.cell (p := ⟨ba, oa + i * 3 + 2, none⟩) hal).trans a3
              have pl : ba < w9.heap.size := Nat.lt_of_lt_of_le hal hb9.size
              clear hdep hold
              go_simp
              exact hK _ _ (Below.refl _ _) rfl
            · refine MidOk.grow ?_ (by decide) rfl
              intro val a w9 hb9 hdep hold K hK
              have b1 := (hdep 0 102 _ rfl rfl rfl).1.trans (hdep 0 102 _ rfl rfl rfl).2
              have b2 := (hdep 1 103 _ rfl rfl rfl).1.trans (hdep 1 103 _ rfl rfl rfl).2
              have b3 := (hdep 5 107 _ rfl rfl rfl).1.trans (hdep 5 107 _ rfl rfl rfl).2
              refine grow_call (vs := #[.agg #[.slice X xs.length cx, .slice Y ys.length cy, .int .i64 (M : Int), .int .i64 (S : Int)], .agg #[.slice S6 (SM d).s.length x1, .slice N6 (SM d).n.length x2, .slice G6 (SM d).g.length x3, .slice D6 d.length x4, .slice T6 t.length x5], .agg #[.int .u8 ev.k, .int .i64 ev.w, .int .i64 ev.b]]) rfl rfl (by simp [b1, b2, b3]) Try.call22 ((HApk.out w9 (hxr.keep hb9) (hyr.keep hb9) (rw6.keep hb9)).mono ?_)
              rintro e w' ⟨S7, N7, G7, D7, T7, u1, u2, u3, u4, u5, rfl, rw7, hb7⟩
              exact ⟨_, rfl, hK _ _ hb7 ⟨S7, N7, G7, D7, T7, u1, u2, u3, u4, u5, rfl, rw7⟩⟩
            · refine MidOk.grow ?_ (by decide) rfl
              intro val a w9 hb9 hdep hold K hK
              obtain ⟨b1, S7, N7, G7, D7, T7, u1, u2, u3, u4, u5, h1, rw7⟩ := hdep 6 108 _ rfl rfl rfl
              replace b1 := ev_tmps (b1.trans h1)
              clear hdep hold h1
              go_simp
              exact hK _ _ (Below.refl _ _) ⟨S7, N7, G7, D7, T7, u1, u2, u3, u4, u5, rfl, rw7⟩
            · refine MidOk.grow ?_ (by decide) rfl
              intro val a w9 hb9 hdep hold K hK
              obtain ⟨b1, S7, N7, G7, D7, T7, u1, u2, u3, u4, u5, h1, rw7⟩ := hdep 7 101 _ rfl rfl rfl
              replace b1 := ev_tmps (b1.trans h1)
              clear hdep hold h1
              go_simp
              exact hK _ _ (Below.refl _ _) ⟨S7, N7, G7, D7, T7, u1, u2, u3, u4, u5, rfl, rw7⟩
            · refine MidOk.both ?_ ?_ (by decide)
              · intro val a w9 hb9 hdep hold K hK
                obtain ⟨b1, S7, N7, G7, D7, T7, u1, u2, u3, u4, u5, h1, rw7⟩ := hdep 7 101 _ rfl rfl rfl
                replace b1 := ev_tmps (b1.trans h1)
                clear hdep hold h1
                go_simp
                exact hK _ _ (Below.refl _ _) rfl
              · intro val a w9 hdep hold K hK
                obtain ⟨b1, y9, h1⟩ := hdep 7 101 _ rfl rfl rfl
                replace b1 := ev_tmps (b1.trans h1)
                clear hdep hold h1
                go_simp
                exact hK _ rfl
            · refine MidOk.grow ?_ (by decide) rfl
              intro val a w9 hb9 hdep hold K hK
              have hs9 := hb9.size
              clear hdep hold
              go_simp
              exact hK _ _ (balloc (Below.refl _ _) _) ⟨_, rfl, hs9, Blk.new _ _ _⟩
            · refine MidOk.store ?_ rfl
              intro val a w9 hb9 hall hdep hold K hK
              obtain ⟨g, h2, hg, hkG⟩ := hall 10 (by decide) (by decide) rfl
              obtain ⟨S7, N7, G7, D7, T7, u1, u2, u3, u4, u5, h1, rw7⟩ := hall 8 (by decide) (by decide) rfl
              simp only at hg h1 rw7
              have b1 := ev_tmps ((hdep 10 17 _ rfl rfl (by decide) rfl).trans h2)
              have b2 := ev_tmps ((hdep 8 109 _ rfl rfl (by decide) rfl).trans h1)
              have hFa := hK undef
              clear hall hdep hold hK h1
              have q0 : World.cell? w9 ⟨g, 0, none⟩ = some (.slice none 0 0) := hkG.cell 0
              have f0 := hkG.frozen 0
              have q1 : World.cell? w9 ⟨g, 1, none⟩ = some (.slice none 0 0) := hkG.cell 1
              have f1 := hkG.frozen 1
              have q2 : World.cell? w9 ⟨g, 2, none⟩ = some (.slice none 0 0) := hkG.cell 2
              have f2 := hkG.frozen 2
              have q3 : World.cell? w9 ⟨g, 3, none⟩ = some (.slice none 0 0) := hkG.cell 3
              have f3 := hkG.frozen 3
              have q4 : World.cell? w9 ⟨g, 4, none⟩ = some (.slice none 0 0) := hkG.cell 4
              have f4 := hkG.frozen 4
              have fl := hkG.lt
              go_simp
              refine hFa _ ⟨g, S7, N7, G7, D7, T7, u1, u2, u3, u4, u5, by rw [upd_ne _ (by decide)]; exact h2, hg, (rw7.put5 hkG).2, (rw7.put5 hkG).1, ((((hb9.setCell (p := ⟨g, 0, none⟩) hg _).setCell (p := ⟨g, 1, none⟩) hg _).setCell (p := ⟨g, 2, none⟩) hg _).setCell (p := ⟨g, 3, none⟩) hg _).setCell (p := ⟨g, 4, none⟩) hg _⟩ trivial
            · refine MidOk.both ?_ ?_ (by decide)
              · intro val a w9 hb9 hdep hold K hK
                have b1 : a.tmps[110]?.getD undef = .int .i64 RES.2 := ev_tmps ((hdep 9 110 _ rfl rfl rfl).1.trans (hdep 9 110 _ rfl rfl rfl).2)
                clear hdep hold
                go_simp
                exact hK _ _ (Below.refl _ _) rfl
              · intro val a w9 hdep hold K hK
                have b1 : a.tmps[110]?.getD undef = .int .i64 RES.2 := ev_tmps ((hdep 9 110 _ rfl rfl rfl).1.trans (hdep 9 110 _ rfl rfl rfl).2)
                clear hdep hold
                go_simp
                exact hK _ rfl
            · rintro val w' ⟨g, S7, N7, G7, D7, T7, u1, u2, u3, u4, u5, h10, hg, hkG, rw7, hb7⟩ hP
              have h12 : val 12 = .int .i64 RES.2 := hP 12 (by decide)
              clear hP
              simp only [putL, h10, h12]
              go_wp2_with fail
              go_meet
              exact ⟨g, S7, N7, G7, D7, T7, u1, u2, u3, u4, u5, rfl, rfl, hkG, rw7, hb7, hg⟩
          case rest =>
            obtain ⟨g7, S7, N7, G7, D7, T7, u1, u2, u3, u4, u5, rfl, rfl, hk17, rw7, hb7, hg7⟩ := hcut
            obtain ⟨w9, rfl⟩ : ∃ w9, w9 = wc := ⟨_, rfl⟩
            have hkV9 := hkV.keep hb7
            have hB9 := bstep hBr hb7
            have hb29 := bstep hb hb7
            by_cases hqe : qe = 0
            · subst hqe
              obtain rfl : RES = (⟨SM d', d', t'⟩, 0) := by rw [HRE.out, if_neg (by simp)]
              have hG2 := HG2.out d t ev hG (by rw [hq])
              rw [hq] at hG2
              have HRN := Lib.hid ((runL_step hq).symm.trans HRUN.out)
              have HMO : Hid (∀ j, d.getD j false = true → d'.getD j false = true) := Lib.hid (fun j hj => by
                have := step_mono (e := ev) (d := d) (t := t) (by rw [hq]) hj
                rwa [hq] at this)
              have HTN : Hid (t'.length = N) := Lib.hid (hG2.2.trans htN.out)
              have HG' := Lib.hid hG2.1
              have hdd : d'.length = d.length := by rw [hG2.1.d, hG.d]
              have hd64 : d.length ≤ 64 := by have := hG.d; omega
              have e1 : ((d'.length : Int) != (d.length : Int)) = false := by simp [hdd]
              have e2 : ((t'.length : Int) != (N : Int)) = false := by simp [HTN.out]
              have HDD := Lib.hid hdd
              simp only at hk17 rw7
              clear HRUN HG2 HSW HSum HSame HST HRun hq HRE HApk hG2 hdd hkJr hxr hyr
              have p0 : World.cell? w9 ⟨gA, 0, none⟩ = some (.slice S6 (SM d).s.length x1) := hkV9.cell 0
              have g0 := hkV9.frozen 0
              have p1 : World.cell? w9 ⟨gA, 1, none⟩ = some (.slice N6 (SM d).n.length x2) := hkV9.cell 1
              have g1 := hkV9.frozen 1
              have p2 : World.cell? w9 ⟨gA, 2, none⟩ = some (.slice G6 (SM d).g.length x3) := hkV9.cell 2
              have g2 := hkV9.frozen 2
              have p3 : World.cell? w9 ⟨gA, 3, none⟩ = some (.slice D6 d.length x4) := hkV9.cell 3
              have g3 := hkV9.frozen 3
              have p4 : World.cell? w9 ⟨gA, 4, none⟩ = some (.slice T6 t.length x5) := hkV9.cell 4
              have g4 := hkV9.frozen 4
              have gl := hkV9.lt
              have q0 : World.cell? w9 ⟨g7, 0, none⟩ = some (.slice S7 (SM d').s.length u1) := hk17.cell 0
              have f0 := hk17.frozen 0
              have q1 : World.cell? w9 ⟨g7, 1, none⟩ = some (.slice N7 (SM d').n.length u2) := hk17.cell 1
              have f1 := hk17.frozen 1
              have q2 : World.cell? w9 ⟨g7, 2, none⟩ = some (.slice G7 (SM d').g.length u3) := hk17.cell 2
              have f2 := hk17.frozen 2
              have q3 : World.cell? w9 ⟨g7, 3, none⟩ = some (.slice D7 d'.length u4) := hk17.cell 3
              have f3 := hk17.frozen 3
              have q4 : World.cell? w9 ⟨g7, 4, none⟩ = some (.slice T7 t'.length u5) := hk17.cell 4
              have f4 := hk17.frozen 4
              have fl := hk17.lt
              have rw69 := rw6.keep hb7
              obtain ⟨gu, rfl⟩ : ∃ gu : Nat, gu = gk := ⟨_, rfl⟩
              go_wp2
              go_loopg [22] d.length (fun gk iv wr2 => ∃ j : Nat, j + gk = d.length ∧ iv = .int .i64 j ∧ w9 = wr2)
              case atStart => exact ⟨0, by omega, rfl, rfl⟩
              case round =>
                obtain ⟨j, hj, rfl, rfl⟩ := hrel
                have hj' : j ≤ d.length := by omega
                have HJ := Lib.hid hj
                clear hj
                by_cases hjl : j < d.length
                · obtain ⟨bd, od, hDe, hdl, hdc⟩ := rw69.d (by simp only; omega)
                  obtain ⟨be, oe, hEe, hel, hec⟩ := rw7.d (by simp only; have := HDD.out; omega)
                  have hdk := hdc j hjl
                  have hek := hec j (by simp only; have := HDD.out; omega)
                  have hjl2 : j < d'.length := by have := HDD.out; omega
                  have HM := Lib.hid (HMO.out j)
                  simp only at hdk hek
                  clear hdc hec
                  subst hDe
                  subst hEe
                  generalize d.getD j false = xa at *
                  generalize d'.getD j false = xb at *
                  cases xa
                  · go_wp2
                    go_roundg (gk - 1)
                    case rel => exact ⟨j + 1, by have := HJ.out; omega, by go_num, rfl⟩
                    case measure => have := HJ.out; omega
                  · have hxb : xb = true := HM.out (by trivial)
                    subst hxb
                    go_wp2
                    go_roundg (gk - 1)
                    case rel => exact ⟨j + 1, by have := HJ.out; omega, by go_num, rfl⟩
                    case measure => have := HJ.out; omega
                · go_wp2
                  go_roundg (gu - 1)
                  case rel => exact ⟨i + 1, d', t', S7, N7, G7, D7, T7, u1, u2, u3, u4, u5, by have := HI.out; omega, by go_num, HRN, HG'.out, HTN, (rw7.put5 hkV9).2, (rw7.put5 hkV9).1, ((((hb29.setCell (p := ⟨gA, 0, none⟩) hgA _).setCell (p := ⟨gA, 1, none⟩) hgA _).setCell (p := ⟨gA, 2, none⟩) hgA _).setCell (p := ⟨gA, 3, none⟩) hgA _).setCell (p := ⟨gA, 4, none⟩) hgA _⟩
                  case measure => have := HI.out; omega
            · obtain rfl : RES = (Work.none, qe) := by rw [HRE.out, if_pos (by simpa using hqe)]
              have hst := (runL_stop (l := l.drop (i + 1)) (k := i) hq hqe).symm.trans HRUN.out
              obtain ⟨⟨⟨rfl, rfl⟩, rfl⟩, rfl⟩ : ((d = d1' ∧ t = t1') ∧ i = k1') ∧ qe = e1' := by
                simp only [Prod.mk.injEq] at hst
                exact hst
              have hqe' : (qe != 0) = true := by simp [hqe]
              have HSk := Lib.hid (HSW.out d t hG)
              have hkJ9 := hkJr.keep hb7
              have rw69 := rw6.keep hb7
              simp only at hk17 rw7
              clear HRUN HG2 HSW HSum HSame HST hq HRE HApk hst hqe
              have q0 : World.cell? w9 ⟨w.heap.size, 0, none⟩ = some (.slice X xs.length cx) := hkJ9.cell 0
              have f0 := hkJ9.frozen 0
              have q1 : World.cell? w9 ⟨w.heap.size, 1, none⟩ = some (.slice Y ys.length cy) := hkJ9.cell 1
              have f1 := hkJ9.frozen 1
              have q2 : World.cell? w9 ⟨w.heap.size, 2, none⟩ = some (.int .i64 (M : Int)) := hkJ9.cell 2
              have f2 := hkJ9.frozen 2
              have q3 : World.cell? w9 ⟨w.heap.size, 3, none⟩ = some (.int .i64 (S : Int)) := hkJ9.cell 3
              have f3 := hkJ9.frozen 3
              have fl := hkJ9.lt
              go_wp2_with fail
              refine (HRun.out _ (hxr.keep hb7) (hyr.keep hb7) (hAr2.keep hb7)).mono ?_
              rintro _ w10 ⟨S4, N4, G4, D4, T4, y1, y2, y3, y4, y5, rfl, rw4, hb10⟩
              have hB10 := bstep hB9 hb10
              clear q0 q1 q2 q3 f0 f1 f2 f3 fl
              replace hkV9 := hkV9.keep hb10
              replace rw69 := rw69.keep hb10
              obtain ⟨w11, hw11⟩ : ∃ w11, w11 = w10.alloc (.cells #[.slice S4 (SM d).s.length y1, .slice N4 (SM d).n.length y2, .slice G4 (SM d).g.length y3, .slice D4 d.length y4, .slice T4 t.length y5] 42) := ⟨_, rfl⟩
              have hb11 : Below w10.heap.size w10 w11 := by rw [hw11]; exact balloc (Below.refl _ _) _
              have p0 : World.cell? w10 ⟨gA, 0, none⟩ = some (.slice S6 (SM d).s.length x1) := hkV9.cell 0
              have g0 := hkV9.frozen 0
              have p1 : World.cell? w10 ⟨gA, 1, none⟩ = some (.slice N6 (SM d).n.length x2) := hkV9.cell 1
              have g1 := hkV9.frozen 1
              have p2 : World.cell? w10 ⟨gA, 2, none⟩ = some (.slice G6 (SM d).g.length x3) := hkV9.cell 2
              have g2 := hkV9.frozen 2
              have p3 : World.cell? w10 ⟨gA, 3, none⟩ = some (.slice D6 d.length x4) := hkV9.cell 3
              have g3 := hkV9.frozen 3
              have p4 : World.cell? w10 ⟨gA, 4, none⟩ = some (.slice T6 t.length x5) := hkV9.cell 4
              have g4 := hkV9.frozen 4
              have gl := hkV9.lt
              go_wp2_with fail
              rw [← hw11]
              clear hw11
              have hB11 := bstep hB10 hb11
              replace rw69 := rw69.keep hb11
              replace rw4 := rw4.keep hb11
              refine (HSk.out S4 N4 G4 D4 T4 S6 N6 G6 D6 T6 y1 y2 y3 y4 y5 x1 x2 x3 x4 x5 _ rw4 rw69).mono ?_
              rintro _ w12 ⟨rfl, hb12⟩
              go_wp2
              go_ret
              exact ⟨rfl, bstep hB11 hb12⟩
        · have hil : i = l.length := by omega
          have hst := hrun.out
          rw [hil, List.drop_length] at hst
          obtain ⟨⟨⟨rfl, rfl⟩, rfl⟩, rfl⟩ : ((d = d1' ∧ t = t1') ∧ l.length = k1') ∧ (0 : Int) = e1' := by
            simp only [runL, Prod.mk.injEq] at hst
            exact hst
          have HSk := Lib.hid (HSW.out d t hG)
          have HSk2 := Lib.hid (HSame.out d t hG)
          have HSm := Lib.hid (HSum.out d hG.d)
          clear HG2 HSW HSum HSame HST HAp hrun hst
          have q0 : World.cell? wr ⟨w.heap.size, 0, none⟩ = some (.slice X xs.length cx) := hkJr.cell 0
          have f0 := hkJr.frozen 0
          have q1 : World.cell? wr ⟨w.heap.size, 1, none⟩ = some (.slice Y ys.length cy) := hkJr.cell 1
          have f1 := hkJr.frozen 1
          have q2 : World.cell? wr ⟨w.heap.size, 2, none⟩ = some (.int .i64 (M : Int)) := hkJr.cell 2
          have f2 := hkJr.frozen 2
          have q3 : World.cell? wr ⟨w.heap.size, 3, none⟩ = some (.int .i64 (S : Int)) := hkJr.cell 3
          have f3 := hkJr.frozen 3
          have fl := hkJr.lt
          go_wp2_with fail
          refine (HRun.out _ hxr hyr hAr2).mono ?_
          rintro _ w10 ⟨S4, N4, G4, D4, T4, y1, y2, y3, y4, y5, rfl, rw4, hb10⟩
          have hB10 := bstep hBr hb10
          clear q0 q1 q2 q3 f0 f1 f2 f3 fl
          replace hkV := hkV.keep hb10
          replace rw6 := rw6.keep hb10
          replace hkJr := hkJr.keep hb10
          replace hxr := hxr.keep hb10
          replace hyr := hyr.keep hb10
          obtain ⟨w11, hw11⟩ : ∃ w11, w11 = w10.alloc (.cells #[.slice S4 (SM d).s.length y1, .slice N4 (SM d).n.length y2, .slice G4 (SM d).g.length y3, .slice D4 d.length y4, .slice T4 t.length y5] 42) := ⟨_, rfl⟩
          have hkC : Blk w11 w10.heap.size 42 #[.slice S4 (SM d).s.length y1, .slice N4 (SM d).n.length y2, .slice G4 (SM d).g.length y3, .slice D4 d.length y4, .slice T4 t.length y5] := by rw [hw11]; exact Blk.new _ _ _
          have hb11 : Below w10.heap.size w10 w11 := by rw [hw11]; exact balloc (Below.refl _ _) _
          go_wp2_with fail
          rw [← hw11]
          clear hw11
          have hB11 := bstep hB10 hb11
          replace hkV := hkV.keep hb11
          replace rw6 := rw6.keep hb11
          replace rw4 := rw4.keep hb11
          replace hkJr := hkJr.keep hb11
          replace hxr := hxr.keep hb11
          replace hyr := hyr.keep hb11
          refine wp_region_end (by kernel_rfl) (by kernel_rfl) (by kernel_rfl) (StP.F ⟨gA, w10.heap.size, S6, N6, G6, D6, x1, x2, x3, x4, SM d, d.length, .agg #[.slice X xs.length cx, .slice Y ys.length cy, .int .i64 (M : Int), .int .i64 (S : Int)], .agg #[.slice S6 (SM d).s.length x1, .slice N6 (SM d).n.length x2, .slice G6 (SM d).g.length x3, .slice D6 d.length x4, .slice T6 t.length x5], .agg #[.slice S4 (SM d).s.length y1, .slice N4 (SM d).n.length y2, .slice G4 (SM d).g.length y3, .slice D4 d.length y4, .slice T4 t.length y5], (l.length : Int), .slice A l.length c⟩) 25 (fun val w' => val 25 = .bool true ∧ Below w11.heap.size w11 w') (by kernel_rfl) (StP.keep _) ⟨?_, ?_, ?_, ?_, ?_, ?_, ?_, ?_, ?_, ?_, ?_, ?_, ?_, ?_, ?_, ?_, ?_, ?_, ?_, ?_, ?_, ?_, ?_, ?_, ?_, ?_, trivial⟩ ?_
          · refine EndOk.grow ?_ (by decide)
            intro val a wr hb hdep hold K hK
            have b1 : a.tmps[9]?.getD undef = .bool true := ev_tmps ((hold 9 (by rfl)).trans (by rfl))
            clear hdep hold
            go_simp
            exact hK _ _ (Below.refl _ _) rfl
          · refine EndOk.grow ?_ (by decide)
            intro val a wr hb hdep hold K hK
            have b1 : a.tmps[180]?.getD undef = .bool true := ev_tmps ((hdep 0 180 _ rfl rfl rfl).1.trans (hdep 0 180 _ rfl rfl rfl).2)
            clear hdep hold
            go_simp
            exact hK _ _ (Below.refl _ _) rfl
          · refine EndOk.grow ?_ (by decide)
            intro val a wr hb hdep hold K hK
            have eg : a.tmps[181]?.getD undef = .bool true := ev_tmps ((hdep 1 181 _ rfl rfl rfl).1.trans (hdep 1 181 _ rfl rfl rfl).2)
            rw [if_pos (wanted_yes (j := 1) (d := 181) (b := true) rfl rfl rfl eg)]
            have b1 : a.tmps[25]?.getD undef = .int .i64 0 := ev_tmps ((hold 25 (by rfl)).trans (by rfl))
            clear hdep hold
            go_simp
            exact hK _ _ (Below.refl _ _) rfl
          · refine EndOk.grow ?_ (by decide)
            intro val a wr hb hdep hold K hK
            have eg : a.tmps[181]?.getD undef = .bool true := ev_tmps ((hdep 1 181 _ rfl rfl rfl).1.trans (hdep 1 181 _ rfl rfl rfl).2)
            rw [if_pos (wanted_yes (j := 1) (d := 181) (b := true) rfl rfl rfl eg)]
            have b1 : a.tmps[182]?.getD undef = .int .i64 0 := ev_tmps ((hdep 2 182 _ rfl rfl rfl).1.trans (hdep 2 182 _ rfl rfl rfl).2)
            clear hdep hold
            go_simp
            exact hK _ _ (Below.refl _ _) rfl
          · refine EndOk.grow ?_ (by decide)
            intro val a wr hb hdep hold K hK
            have b1 : a.tmps[181]?.getD undef = .bool true := ev_tmps ((hdep 1 181 _ rfl rfl rfl).1.trans (hdep 1 181 _ rfl rfl rfl).2)
            have b2 : a.tmps[183]?.getD undef = .bool true := ev_tmps ((hdep 3 183 _ rfl rfl rfl).1.trans (hdep 3 183 _ rfl rfl rfl).2)
            clear hdep hold
            go_simp
            exact hK _ _ (Below.refl _ _) rfl
          · refine EndOk.grow ?_ (by decide)
            intro val a wr hb hdep hold K hK
            have b1 : a.tmps[184]?.getD undef = .bool true := ev_tmps ((hdep 4 184 _ rfl rfl rfl).1.trans (hdep 4 184 _ rfl rfl rfl).2)
            clear hdep hold
            go_simp
            exact hK _ _ (Below.refl _ _) rfl
          · refine EndOk.grow ?_ (by decide)
            intro val a wr hb hdep hold K hK
            have eg : a.tmps[185]?.getD undef = .bool true := ev_tmps ((hdep 5 185 _ rfl rfl rfl).1.trans (hdep 5 185 _ rfl rfl rfl).2)
            rw [if_pos (wanted_yes (j := 5) (d := 185) (b := true) rfl rfl rfl eg)]
            have b1 : a.tmps[24]?.getD undef = .int .i64 (l.length : Int) := ev_tmps ((hold 24 (by rfl)).trans (by rfl))
            clear hdep hold
            go_simp
            exact hK _ _ (Below.refl _ _) rfl
          · refine EndOk.grow ?_ (by decide)
            intro val a wr hb hdep hold K hK
            have eg : a.tmps[185]?.getD undef = .bool true := ev_tmps ((hdep 5 185 _ rfl rfl rfl).1.trans (hdep 5 185 _ rfl rfl rfl).2)
            rw [if_pos (wanted_yes (j := 5) (d := 185) (b := true) rfl rfl rfl eg)]
            have b1 : a.tmps[2]?.getD undef = .slice A l.length c := ev_tmps ((hold 2 (by rfl)).trans (by rfl))
            clear hdep hold
            go_simp
            exact hK _ _ (Below.refl _ _) rfl
          · refine EndOk.grow ?_ (by decide)
            intro val a wr hb hdep hold K hK
            have eg : a.tmps[185]?.getD undef = .bool true := ev_tmps ((hdep 5 185 _ rfl rfl rfl).1.trans (hdep 5 185 _ rfl rfl rfl).2)
            rw [if_pos (wanted_yes (j := 5) (d := 185) (b := true) rfl rfl rfl eg)]
            have b1 : a.tmps[187]?.getD undef = .slice A l.length c := ev_tmps ((hdep 7 187 _ rfl rfl rfl).1.trans (hdep 7 187 _ rfl rfl rfl).2)
            clear hdep hold
            go_simp
            exact hK _ _ (Below.refl _ _) rfl
          · refine EndOk.grow ?_ (by decide)
            intro val a wr hb hdep hold K hK
            have eg : a.tmps[185]?.getD undef = .bool true := ev_tmps ((hdep 5 185 _ rfl rfl rfl).1.trans (hdep 5 185 _ rfl rfl rfl).2)
            rw [if_pos (wanted_yes (j := 5) (d := 185) (b := true) rfl rfl rfl eg)]
            have b1 : a.tmps[186]?.getD undef = .int .i64 (l.length : Int) := ev_tmps ((hdep 6 186 _ rfl rfl rfl).1.trans (hdep 6 186 _ rfl rfl rfl).2)
            have b2 : a.tmps[188]?.getD undef = .int .i64 (l.length : Int) := ev_tmps ((hdep 8 188 _ rfl rfl rfl).1.trans (hdep 8 188 _ rfl rfl rfl).2)
            have b3 : ((l.length : Int) == (l.length : Int)) = true := by simp
            clear hdep hold
            go_simp
            exact hK _ _ (Below.refl _ _) rfl
          · refine EndOk.grow ?_ (by decide)
            intro val a wr hb hdep hold K hK
            have b1 : a.tmps[185]?.getD undef = .bool true := ev_tmps ((hdep 5 185 _ rfl rfl rfl).1.trans (hdep 5 185 _ rfl rfl rfl).2)
            have b2 : a.tmps[189]?.getD undef = .bool true := ev_tmps ((hdep 9 189 _ rfl rfl rfl).1.trans (hdep 9 189 _ rfl rfl rfl).2)
            clear hdep hold
            go_simp
            exact hK _ _ (Below.refl _ _) rfl
          · refine EndOk.grow ?_ (by decide)
            intro val a wr hb hdep hold K hK
            have b1 : a.tmps[190]?.getD undef = .bool true := ev_tmps ((hdep 10 190 _ rfl rfl rfl).1.trans (hdep 10 190 _ rfl rfl rfl).2)
            clear hdep hold
            go_simp
            exact hK _ _ (Below.refl _ _) rfl
          · refine EndOk.grow ?_ (by decide)
            intro val a wr hb hdep hold K hK
            have eg : a.tmps[191]?.getD undef = .bool true := ev_tmps ((hdep 11 191 _ rfl rfl rfl).1.trans (hdep 11 191 _ rfl rfl rfl).2)
            rw [if_pos (wanted_yes (j := 11) (d := 191) (b := true) rfl rfl rfl eg)]
            have b1 : a.tmps[23]?.getD undef = .pointer (some ⟨w10.heap.size, 0, none⟩) := ev_tmps ((hold 23 (by rfl)).trans (by rfl))
            have hkr := hkC.keep hb
            have p0 : World.cell? wr ⟨w10.heap.size, 0, none⟩ = some (.slice S4 (SM d).s.length y1) := hkr.cell 0
            have g0 := hkr.frozen 0
            have p1 : World.cell? wr ⟨w10.heap.size, 1, none⟩ = some (.slice N4 (SM d).n.length y2) := hkr.cell 1
            have g1 := hkr.frozen 1
            have p2 : World.cell? wr ⟨w10.heap.size, 2, none⟩ = some (.slice G4 (SM d).g.length y3) := hkr.cell 2
            have g2 := hkr.frozen 2
            have p3 : World.cell? wr ⟨w10.heap.size, 3, none⟩ = some (.slice D4 d.length y4) := hkr.cell 3
            have g3 := hkr.frozen 3
            have p4 : World.cell? wr ⟨w10.heap.size, 4, none⟩ = some (.slice T4 t.length y5) := hkr.cell 4
            have g4 := hkr.frozen 4
            have gl := hkr.lt
            clear hdep hold
            go_simp
            exact hK _ _ (Below.refl _ _) rfl
          · refine EndOk.grow ?_ (by decide)
            intro val a wr hb hdep hold K hK
            have eg : a.tmps[191]?.getD undef = .bool true := ev_tmps ((hdep 11 191 _ rfl rfl rfl).1.trans (hdep 11 191 _ rfl rfl rfl).2)
            rw [if_pos (wanted_yes (j := 11) (d := 191) (b := true) rfl rfl rfl eg)]
            have b1 : a.tmps[10]?.getD undef = .pointer (some ⟨gA, 0, none⟩) := ev_tmps ((hold 10 (by rfl)).trans (by rfl))
            have hkr := hkV.keep hb
            have p0 : World.cell? wr ⟨gA, 0, none⟩ = some (.slice S6 (SM d).s.length x1) := hkr.cell 0
            have g0 := hkr.frozen 0
            have p1 : World.cell? wr ⟨gA, 1, none⟩ = some (.slice N6 (SM d).n.length x2) := hkr.cell 1
            have g1 := hkr.frozen 1
            have p2 : World.cell? wr ⟨gA, 2, none⟩ = some (.slice G6 (SM d).g.length x3) := hkr.cell 2
            have g2 := hkr.frozen 2
            have p3 : World.cell? wr ⟨gA, 3, none⟩ = some (.slice D6 d.length x4) := hkr.cell 3
            have g3 := hkr.frozen 3
            have p4 : World.cell? wr ⟨gA, 4, none⟩ = some (.slice T6 t.length x5) := hkr.cell 4
            have g4 := hkr.frozen 4
            have gl := hkr.lt
            clear hdep hold
            go_simp
            exact hK _ _ (Below.refl _ _) rfl
          · refine EndOk.grow ?_ (by decide)
            intro val a wr hb hdep hold K hK
            have eg : a.tmps[191]?.getD undef = .bool true := ev_tmps ((hdep 11 191 _ rfl rfl rfl).1.trans (hdep 11 191 _ rfl rfl rfl).2)
            rw [if_pos (wanted_yes (j := 11) (d := 191) (b := true) rfl rfl rfl eg)]
            have b1 := (hdep 12 192 _ rfl rfl rfl).1.trans (hdep 12 192 _ rfl rfl rfl).2
            have b2 := (hdep 13 193 _ rfl rfl rfl).1.trans (hdep 13 193 _ rfl rfl rfl).2
            refine grow_callG (vs := #[.agg #[.slice S4 (SM d).s.length y1, .slice N4 (SM d).n.length y2, .slice G4 (SM d).g.length y3, .slice D4 d.length y4, .slice T4 t.length y5], .agg #[.slice S6 (SM d).s.length x1, .slice N6 (SM d).n.length x2, .slice G6 (SM d).g.length x3, .slice D6 d.length x4, .slice T6 t.length x5]]) rfl (by simp [b1, b2]) Try.call19 ((HSk.out S4 N4 G4 D4 T4 S6 N6 G6 D6 T6 y1 y2 y3 y4 y5 x1 x2 x3 x4 x5 wr (rw4.keep hb) (rw6.keep hb)).mono ?_)
            rintro e w' ⟨rfl, hb9⟩
            exact ⟨_, rfl, hK _ _ hb9 rfl⟩
          · refine EndOk.grow ?_ (by decide)
            intro val a wr hb hdep hold K hK
            have b1 : a.tmps[191]?.getD undef = .bool true := ev_tmps ((hdep 11 191 _ rfl rfl rfl).1.trans (hdep 11 191 _ rfl rfl rfl).2)
            have b2 : a.tmps[194]?.getD undef = .bool true := ev_tmps ((hdep 14 194 _ rfl rfl rfl).1.trans (hdep 14 194 _ rfl rfl rfl).2)
            clear hdep hold
            go_simp
            exact hK _ _ (Below.refl _ _) rfl
          · refine EndOk.grow ?_ (by decide)
            intro val a wr hb hdep hold K hK
            have b1 : a.tmps[195]?.getD undef = .bool true := ev_tmps ((hdep 15 195 _ rfl rfl rfl).1.trans (hdep 15 195 _ rfl rfl rfl).2)
            clear hdep hold
            go_simp
            exact hK _ _ (Below.refl _ _) rfl
          · refine EndOk.grow ?_ (by decide)
            intro val a wr hb hdep hold K hK
            have eg : a.tmps[196]?.getD undef = .bool true := ev_tmps ((hdep 16 196 _ rfl rfl rfl).1.trans (hdep 16 196 _ rfl rfl rfl).2)
            rw [if_pos (wanted_yes (j := 16) (d := 196) (b := true) rfl rfl rfl eg)]
            have b1 : a.tmps[10]?.getD undef = .pointer (some ⟨gA, 0, none⟩) := ev_tmps ((hold 10 (by rfl)).trans (by rfl))
            clear hdep hold
            go_simp
            exact hK _ _ (Below.refl _ _) rfl
          · refine EndOk.grow ?_ (by decide)
            intro val a wr hb hdep hold K hK
            have eg : a.tmps[196]?.getD undef = .bool true := ev_tmps ((hdep 16 196 _ rfl rfl rfl).1.trans (hdep 16 196 _ rfl rfl rfl).2)
            rw [if_pos (wanted_yes (j := 16) (d := 196) (b := true) rfl rfl rfl eg)]
            have b1 : a.tmps[197]?.getD undef = .pointer (some ⟨gA, 0, none⟩) := ev_tmps ((hdep 17 197 _ rfl rfl rfl).1.trans (hdep 17 197 _ rfl rfl rfl).2)
            have hkr := hkV.keep hb
            have p0 : World.cell? wr ⟨gA, 0, none⟩ = some (.slice S6 (SM d).s.length x1) := hkr.cell 0
            have g0 := hkr.frozen 0
            have p1 : World.cell? wr ⟨gA, 1, none⟩ = some (.slice N6 (SM d).n.length x2) := hkr.cell 1
            have g1 := hkr.frozen 1
            have p2 : World.cell? wr ⟨gA, 2, none⟩ = some (.slice G6 (SM d).g.length x3) := hkr.cell 2
            have g2 := hkr.frozen 2
            have p3 : World.cell? wr ⟨gA, 3, none⟩ = some (.slice D6 d.length x4) := hkr.cell 3
            have g3 := hkr.frozen 3
            have p4 : World.cell? wr ⟨gA, 4, none⟩ = some (.slice T6 t.length x5) := hkr.cell 4
            have g4 := hkr.frozen 4
            have gl := hkr.lt
            clear hdep hold
            go_simp
            exact hK _ _ (Below.refl _ _) rfl
          · refine EndOk.grow ?_ (by decide)
            intro val a wr hb hdep hold K hK
            have eg : a.tmps[196]?.getD undef = .bool true := ev_tmps ((hdep 16 196 _ rfl rfl rfl).1.trans (hdep 16 196 _ rfl rfl rfl).2)
            rw [if_pos (wanted_yes (j := 16) (d := 196) (b := true) rfl rfl rfl eg)]
            have b1 : a.tmps[4]?.getD undef = .pointer (some ⟨w.heap.size, 0, none⟩) := ev_tmps ((hold 4 (by rfl)).trans (by rfl))
            have hkr := hkJr.keep hb
            have p0 : World.cell? wr ⟨w.heap.size, 0, none⟩ = some (.slice X xs.length cx) := hkr.cell 0
            have g0 := hkr.frozen 0
            have p1 : World.cell? wr ⟨w.heap.size, 1, none⟩ = some (.slice Y ys.length cy) := hkr.cell 1
            have g1 := hkr.frozen 1
            have p2 : World.cell? wr ⟨w.heap.size, 2, none⟩ = some (.int .i64 (M : Int)) := hkr.cell 2
            have g2 := hkr.frozen 2
            have p3 : World.cell? wr ⟨w.heap.size, 3, none⟩ = some (.int .i64 (S : Int)) := hkr.cell 3
            have g3 := hkr.frozen 3
            have gl := hkr.lt
            clear hdep hold
            go_simp
            exact hK _ _ (Below.refl _ _) rfl
          · refine EndOk.grow ?_ (by decide)
            intro val a wr hb hdep hold K hK
            have eg : a.tmps[196]?.getD undef = .bool true := ev_tmps ((hdep 16 196 _ rfl rfl rfl).1.trans (hdep 16 196 _ rfl rfl rfl).2)
            rw [if_pos (wanted_yes (j := 16) (d := 196) (b := true) rfl rfl rfl eg)]
            have b1 : a.tmps[10]?.getD undef = .pointer (some ⟨gA, 0, none⟩) := ev_tmps ((hold 10 (by rfl)).trans (by rfl))
            clear hdep hold
            go_simp
            exact hK _ _ (Below.refl _ _) rfl
          · refine EndOk.grow ?_ (by decide)
            intro val a wr hb hdep hold K hK
            have eg : a.tmps[196]?.getD undef = .bool true := ev_tmps ((hdep 16 196 _ rfl rfl rfl).1.trans (hdep 16 196 _ rfl rfl rfl).2)
            rw [if_pos (wanted_yes (j := 16) (d := 196) (b := true) rfl rfl rfl eg)]
            have b1 : a.tmps[200]?.getD undef = .pointer (some ⟨gA, 3, none⟩) := ev_tmps ((hdep 20 200 _ rfl rfl rfl).1.trans (hdep 20 200 _ rfl rfl rfl).2)
            have hkr := hkV.keep hb
            have p3 := hkr.cell 3
            have pl := hkr.lt
            clear hdep hold
            go_simp
            exact hK _ _ (Below.refl _ _) rfl
          · refine EndOk.grow ?_ (by decide)
            intro val a wr hb hdep hold K hK
            have eg : a.tmps[196]?.getD undef = .bool true := ev_tmps ((hdep 16 196 _ rfl rfl rfl).1.trans (hdep 16 196 _ rfl rfl rfl).2)
            rw [if_pos (wanted_yes (j := 16) (d := 196) (b := true) rfl rfl rfl eg)]
            have b1 := (hdep 19 199 _ rfl rfl rfl).1.trans (hdep 19 199 _ rfl rfl rfl).2
            have b2 := (hdep 21 201 _ rfl rfl rfl).1.trans (hdep 21 201 _ rfl rfl rfl).2
            refine grow_callG (vs := #[.agg #[.slice X xs.length cx, .slice Y ys.length cy, .int .i64 (M : Int), .int .i64 (S : Int)], .slice D6 d.length x4]) rfl (by simp [b1, b2]) Try.call31 ((HSm.out D6 x4 wr (hxr.keep hb) (hyr.keep hb) (rw6.d.keep hb)).mono ?_)
            rintro e w' ⟨S9, N9, G9, v1, v2, v3, rfl, ra9, _, hb9⟩
            exact ⟨_, rfl, hK _ _ hb9 ⟨S9, N9, G9, v1, v2, v3, rfl, ra9⟩⟩
          · refine EndOk.grow ?_ (by decide)
            intro val a wr hb hdep hold K hK
            have eg : a.tmps[196]?.getD undef = .bool true := ev_tmps ((hdep 16 196 _ rfl rfl rfl).1.trans (hdep 16 196 _ rfl rfl rfl).2)
            rw [if_pos (wanted_yes (j := 16) (d := 196) (b := true) rfl rfl rfl eg)]
            have b1 := (hdep 18 198 _ rfl rfl rfl).1.trans (hdep 18 198 _ rfl rfl rfl).2
            obtain ⟨b2, S9, N9, G9, v1, v2, v3, b3, ra9⟩ := hdep 22 202 _ rfl rfl rfl
            replace b2 := b2.trans b3
            refine grow_callG (vs := #[.agg #[.slice S6 (SM d).s.length x1, .slice N6 (SM d).n.length x2, .slice G6 (SM d).g.length x3], .agg #[.slice S9 (SM d).s.length v1, .slice N9 (SM d).n.length v2, .slice G9 (SM d).g.length v3]]) rfl (by simp [b1, b2]) Try.call30 ((HSk2.out S6 N6 G6 S9 N9 G9 x1 x2 x3 v1 v2 v3 wr (rw6.a.keep hb) ra9).mono ?_)
            rintro e w' ⟨rfl, hb9⟩
            exact ⟨_, rfl, hK _ _ hb9 rfl⟩
          · refine EndOk.grow ?_ (by decide)
            intro val a wr hb hdep hold K hK
            have b1 : a.tmps[196]?.getD undef = .bool true := ev_tmps ((hdep 16 196 _ rfl rfl rfl).1.trans (hdep 16 196 _ rfl rfl rfl).2)
            have b2 : a.tmps[203]?.getD undef = .bool true := ev_tmps ((hdep 23 203 _ rfl rfl rfl).1.trans (hdep 23 203 _ rfl rfl rfl).2)
            clear hdep hold
            go_simp
            exact hK _ _ (Below.refl _ _) rfl
          · refine EndOk.last ?_
            intro val a wr9 hb hall2 hdep hold K hK
            have b1 : a.tmps[204]?.getD undef = .bool true := ev_tmps ((hdep 24 204 _ rfl rfl (by decide)).trans (hall2 24 (by decide) (by decide)))
            have hFa := fun v w' h1 => hK v w' h1
            clear hdep hold hall2 hK
            go_simp
            exact hFa _ _ ⟨upd_same _ _ _, hb⟩
          · rintro val w' ⟨h25, hb'⟩
            generalize hF : putL _ 0 _ _ = aF
            have e : aF.tmps[8]?.getD undef = val 25 := by rw [← hF]; kernel_rfl
            have ed : aF.defers = [] := by rw [← hF]; kernel_rfl
            rw [h25] at e
            clear hF
            go_wp2
            exact bodyPost_ret (v := .bool true) (by simp [results, Try.results7, go_sem, e]) ed ⟨rfl, bstep hB11 hb'⟩
    · have he0' : (e0 != 0) = true := by simp [he0]
      rw [if_pos (by simpa using he0)] at hsplit
      obtain ⟨⟨⟨rfl, rfl⟩, rfl⟩, rfl⟩ : ((d1' = d0 ∧ t1' = t0) ∧ k1' = k0) ∧ e1' = e0 := by
        simp only [Prod.mk.injEq] at hsplit
        exact hsplit
      have hws := work_small hJ (st := (d1', t1')) hG0
      generalize workS xs ys M S (d1', t1') = R0 at *
      have HSW := Lib.hid (fun S N G D T S' N' G' D' T' c1 c2 c3 c4 c5 d1 d2 d3 d4 d5 w hx hy => same19_yes S N G D T S' N' G' D' T' c1 c2 c3 c4 c5 d1 d2 d3 d4 d5 R0 w hx hy (by omega) (by omega) (by omega) (by omega) (by omega))
      have hkJ3 := hkJ.keep hbc
      clear hws hr0 hr1 hR0 hR1 hsplit he0 hek0 hek1 HRunT hREt HF1 hJ h12 hkJ
      have q0 : World.cell? w3 ⟨w.heap.size, 0, none⟩ = some (.slice X xs.length cx) := hkJ3.cell 0
      have f0 := hkJ3.frozen 0
      have q1 : World.cell? w3 ⟨w.heap.size, 1, none⟩ = some (.slice Y ys.length cy) := hkJ3.cell 1
      have f1 := hkJ3.frozen 1
      have q2 : World.cell? w3 ⟨w.heap.size, 2, none⟩ = some (.int .i64 (M : Int)) := hkJ3.cell 2
      have f2 := hkJ3.frozen 2
      have q3 : World.cell? w3 ⟨w.heap.size, 3, none⟩ = some (.int .i64 (S : Int)) := hkJ3.cell 3
      have f3 := hkJ3.frozen 3
      have fl := hkJ3.lt
      go_wp2_with fail
      refine (HRun.out _ (hxk.keep hbc) (hyk.keep hbc) (hAk.keep hbc)).mono ?_
      rintro _ w4 ⟨S4, N4, G4, D4, T4, y1, y2, y3, y4, y5, rfl, rw4, hb4⟩
      have hB4 := bstep hB3 hb4
      clear q0 q1 q2 q3 f0 f1 f2 f3 fl
      replace hk10 := hk10.keep hb4
      replace rw10 := rw10.keep hb4
      obtain ⟨w5, hw5⟩ : ∃ w5, w5 = w4.alloc (.cells #[.slice S4 R0.a.s.length y1, .slice N4 R0.a.n.length y2, .slice G4 R0.a.g.length y3, .slice D4 R0.d.length y4, .slice T4 R0.t.length y5] 42) := ⟨_, rfl⟩
      have hkC : Blk w5 w4.heap.size 42 #[.slice S4 R0.a.s.length y1, .slice N4 R0.a.n.length y2, .slice G4 R0.a.g.length y3, .slice D4 R0.d.length y4, .slice T4 R0.t.length y5] := by rw [hw5]; exact Blk.new _ _ _
      have hb5 : Below w4.heap.size w4 w5 := by rw [hw5]; exact balloc (Below.refl _ _) _
      have p0 : World.cell? w4 ⟨gA, 0, none⟩ = some (.slice S9 R0.a.s.length z1) := hk10.cell 0
      have g0 := hk10.frozen 0
      have p1 : World.cell? w4 ⟨gA, 1, none⟩ = some (.slice N9 R0.a.n.length z2) := hk10.cell 1
      have g1 := hk10.frozen 1
      have p2 : World.cell? w4 ⟨gA, 2, none⟩ = some (.slice G9 R0.a.g.length z3) := hk10.cell 2
      have g2 := hk10.frozen 2
      have p3 : World.cell? w4 ⟨gA, 3, none⟩ = some (.slice D9 R0.d.length z4) := hk10.cell 3
      have g3 := hk10.frozen 3
      have p4 : World.cell? w4 ⟨gA, 4, none⟩ = some (.slice T9 R0.t.length z5) := hk10.cell 4
      have g4 := hk10.frozen 4
      have gl := hk10.lt
      go_wp2_with fail
      rw [← hw5]
      clear hw5
      have hB5 := bstep hB4 hb5
      replace rw10 := rw10.keep hb5
      replace rw4 := rw4.keep hb5
      refine (HSW.out S9 N9 G9 D9 T9 S4 N4 G4 D4 T4 z1 z2 z3 z4 z5 y1 y2 y3 y4 y5 _ rw10 rw4).mono ?_
      rintro _ w6 ⟨rfl, hb6⟩
      go_wp2
      go_ret
      exact ⟨rfl, bstep hB5 hb6⟩
theorem workerStays_w (X Y : Option Addr) (cx cy : Nat) (xs ys : List Int) (m s : Int) (n : Int) (A : Option Addr) (c : Nat) (l : List Ev) (at_ : Int) (w : World) (hj : InJ w X Y cx cy xs ys m s) (hn : -9223372036854775808 ≤ n ∧ n ≤ 9223372036854775807) (hA : InE w A c l) (hat : -9223372036854775808 ≤ at_ ∧ at_ ≤ 9223372036854775807) :
    Calls Try.prog 7 #[.agg #[.slice X xs.length cx, .slice Y ys.length cy, .int .i64 m, .int .i64 s], .int .i64 n, .slice A l.length c, .int .i64 at_] w fun e w' => e = .returned (.bool true) ∧ Below w.heap.size w w' :=
  workerStays_walk X Y A cx cy c xs ys m s n l at_ w hj hn hA hat
end Wk
end Go.Proofs.Ytdekbncpodjgnaa
