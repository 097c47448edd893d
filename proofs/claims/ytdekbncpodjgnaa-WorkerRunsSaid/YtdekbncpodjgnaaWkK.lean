/-
  Jobs of layer 19. WorkerParts: the walk (begun).
-/
import Derived.Test.YtdekbncpodjgnaaWkH
import Derived.Test.YtdekbncpodjgnaaWkJ
import Derived.Test.YtdekbncpodjgnaaOpenJ
import Derived.Deep.Onto
import Derived.Test.YtdekbncpodjgnaaAppend
import Derived.Deep.DrawnRows
import Derived.Deep.RegionLaw
import Derived.Laws.CopyOwn
import Derived.Test.YtdekbncpodjgnaaPRgE
import Derived.Test.YtdekbncpodjgnaaPRgT
namespace Go.Proofs.Ytdekbncpodjgnaa
open Go.RowKit
set_option linter.unusedVariables false
set_option linter.unusedSimpArgs false
namespace Wk
open Lagw Reg

theorem great_long (X Y : Option Addr) (cx cy : Nat) (xs ys : List Int) (m s : Int) (w : World) (h : 300 < xs.length ∨ 300 < ys.length) :
    Calls Try.prog 9 #[.agg #[.slice X xs.length cx, .slice Y ys.length cy, .int .i64 m, .int .i64 s]] w fun e w' => e = .returned (.bool true) ∧ Below w.heap.size w w' := by
  have hk := Blk.new w 24 #[.slice X xs.length cx, .slice Y ys.length cy, .int .i64 m, .int .i64 s]
  have hbX : Below w.heap.size w (w.alloc (.cells #[.slice X xs.length cx, .slice Y ys.length cy, .int .i64 m, .int .i64 s] 24)) := balloc (Below.refl _ _) _
  have q0 : World.cell? (w.alloc (.cells #[.slice X xs.length cx, .slice Y ys.length cy, .int .i64 m, .int .i64 s] 24)) ⟨w.heap.size, 0, none⟩ = some (.slice X xs.length cx) := hk.cell 0
  have f0 := hk.frozen 0
  have q1 : World.cell? (w.alloc (.cells #[.slice X xs.length cx, .slice Y ys.length cy, .int .i64 m, .int .i64 s] 24)) ⟨w.heap.size, 1, none⟩ = some (.slice Y ys.length cy) := hk.cell 1
  have f1 := hk.frozen 1
  have q2 : World.cell? (w.alloc (.cells #[.slice X xs.length cx, .slice Y ys.length cy, .int .i64 m, .int .i64 s] 24)) ⟨w.heap.size, 2, none⟩ = some (.int .i64 m) := hk.cell 2
  have f2 := hk.frozen 2
  have q3 : World.cell? (w.alloc (.cells #[.slice X xs.length cx, .slice Y ys.length cy, .int .i64 m, .int .i64 s] 24)) ⟨w.heap.size, 3, none⟩ = some (.int .i64 s) := hk.cell 3
  have f3 := hk.frozen 3
  have fl := hk.lt
  by_cases a1 : 300 < xs.length
  · have d1 : decide (300 < xs.length) = true := decide_eq_true a1
    go_enter Try.func9, Try.ntmps9
    go_wp2_with fail
    refine (long13_any _ _ _ _).mono ?_
    rintro _ _ ⟨rfl, rfl⟩
    go_wp2
    go_ret
    exact ⟨rfl, hbX⟩
  · have d1 : decide (300 < xs.length) = false := decide_eq_false a1
    have d2 : decide (300 < ys.length) = true := decide_eq_true (by omega)
    go_enter Try.func9, Try.ntmps9
    go_wp2_with fail
    refine (long13_any _ _ _ _).mono ?_
    rintro _ _ ⟨rfl, rfl⟩
    go_wp2_with fail
    refine (long13_any _ _ _ _).mono ?_
    rintro _ _ ⟨rfl, rfl⟩
    go_wp2
    go_ret
    exact ⟨rfl, hbX⟩

structure OwnP where
  b0 : Nat
  B : Nat
  X : Option Addr
  Y : Option Addr
  cx : Nat
  cy : Nat
  xs : List Int
  ys : List Int
  m : Int
  s : Int
def OwnP.F (p : OwnP) : Nat → Value → World → Prop
  | 0 => fun v _ => emptyV p.B v
  | 1 => fun v _ => v = .pointer (some ⟨p.b0, 0, none⟩)
  | 2 => fun v _ => v = .slice p.X p.xs.length p.cx
  | 3 => fun v w => ∃ A c, v = .slice A p.xs.length c ∧ Made (encI .i64) 3 1 p.B p.xs A c w
  | 4 => fun v _ => emptyV p.B v
  | 5 => fun v _ => v = .pointer (some ⟨p.b0, 1, none⟩)
  | 6 => fun v _ => v = .slice p.Y p.ys.length p.cy
  | 7 => fun v w => ∃ A c, v = .slice A p.ys.length c ∧ Made (encI .i64) 3 1 p.B p.ys A c w
  | 8 => fun v _ => v = .pointer (some ⟨p.b0, 2, none⟩)
  | 9 => fun v _ => v = .int .i64 p.m
  | 10 => fun v _ => v = .pointer (some ⟨p.b0, 3, none⟩)
  | 11 => fun v _ => v = .int .i64 p.s
  | 12 => fun v w => ∃ A1 c1 A2 c2, v = .agg #[.slice A1 p.xs.length c1, .slice A2 p.ys.length c2, .int .i64 p.m, .int .i64 p.s] ∧ Made (encI .i64) 3 1 p.B p.xs A1 c1 w ∧ Made (encI .i64) 3 1 p.B p.ys A2 c2 w
  | 13 => fun v w => ∃ g, v = .pointer (some ⟨g, 0, none⟩) ∧ p.B ≤ g ∧ Blk w g 24 #[.slice none 0 0, .slice none 0 0, .int .i64 0, .int .i64 0]
  | _ => fun _ _ => True
theorem OwnP.keep (p : OwnP) : ∀ k v w w', Below w.heap.size w w' → p.F k v w → p.F k v w' := by
  intro k v w w' hb h
  match k, h with
  | 0, h => exact h
  | 1, h => exact h
  | 2, h => exact h
  | 3, ⟨A, c, e, h1⟩ => exact ⟨A, c, e, h1.keep hb⟩
  | 4, h => exact h
  | 5, h => exact h
  | 6, h => exact h
  | 7, ⟨A, c, e, h1⟩ => exact ⟨A, c, e, h1.keep hb⟩
  | 8, h => exact h
  | 9, h => exact h
  | 10, h => exact h
  | 11, h => exact h
  | 12, ⟨A1, c1, A2, c2, e, h1, h2⟩ => exact ⟨A1, c1, A2, c2, e, h1.keep hb, h2.keep hb⟩
  | 13, ⟨g, e, hg, h1⟩ => exact ⟨g, e, hg, h1.keep hb⟩
  | n + 14, _ => trivial
def OwnP.E (p : OwnP) (w0 : World) (val : Nat → Value) (w : World) : Prop :=
  ∃ g A1 c1 A2 c2, val 13 = .pointer (some ⟨g, 0, none⟩) ∧ p.B ≤ g ∧ Blk w g 24 #[.slice A1 p.xs.length c1, .slice A2 p.ys.length c2, .int .i64 p.m, .int .i64 p.s] ∧ RI .i64 w A1 p.xs ∧ RI .i64 w A2 p.ys ∧ p.xs.length ≤ c1 ∧ p.ys.length ≤ c2 ∧ Below w0.heap.size w0 w
theorem encI_one1 (y : Int) : ∀ u ∈ encI .i64 y, u.oneCell' = true := fun u hu => encI_one .i64 y u hu

theorem openS_small (xs ys : List Int) (m s n : Int) : (openS xs ys m s n).1.a.s.length ≤ 511 ∧ (openS xs ys m s n).1.a.n.length ≤ 511 ∧ (openS xs ys m s n).1.a.g.length ≤ 64 ∧ (openS xs ys m s n).1.d.length ≤ 64 ∧ (openS xs ys m s n).1.t.length ≤ 6 := by
  unfold openS
  split
  · simp [Work.none, Acc.none]
  · rename_i h
    split
    · simp [Work.none, Acc.none]
    · rename_i h2
      obtain ⟨_, _, M, S, rfl, rfl, hM, _, _, hC⟩ := jobErr_zero (by simpa using h)
      rw [newS_yes (m := M) hM]
      simp
      omega
theorem partS_small (xs ys : List Int) (m s b : Int) : (partS xs ys m s b).1.length ≤ 511 := by
  unfold partS
  split
  · simp
  · rename_i h
    split
    · simp
    · obtain ⟨_, _, M, S, rfl, rfl, hM, _, _, hC⟩ := jobErr_zero (by simpa using h)
      simp only [lagCells_len, Int.toNat_natCast]
      omega
theorem load_job {w : World} {g : Nat} {X Y : Option Addr} {n k cx cy : Nat} {m s : Int} (h : Blk w g 24 #[.slice X n cx, .slice Y k cy, .int .i64 m, .int .i64 s]) :
    (Instr.loadAt 24 (.pointer (some ⟨g, 0, none⟩))).run Try.prog w = .ok (.agg #[.slice X n cx, .slice Y k cy, .int .i64 m, .int .i64 s]) w := by
  have q0 : World.cell? w ⟨g, 0, none⟩ = some (.slice X n cx) := h.cell 0
  have f0 := h.frozen 0
  have q1 : World.cell? w ⟨g, 1, none⟩ = some (.slice Y k cy) := h.cell 1
  have f1 := h.frozen 1
  have q2 : World.cell? w ⟨g, 2, none⟩ = some (.int .i64 m) := h.cell 2
  have f2 := h.frozen 2
  have q3 : World.cell? w ⟨g, 3, none⟩ = some (.int .i64 s) := h.cell 3
  have f3 := h.frozen 3
  have fl := h.lt
  clear h
  go_simp
theorem load_jobf {w : World} {g : Nat} {cs : Array Value} {i : Nat} {A : Option Addr} {n c : Nat} (h : Blk w g 24 cs) (hi : cs[i]? = some (.slice A n c)) :
    (Instr.loadAt 22 (.pointer (some ⟨g, i, none⟩))).run Try.prog w = .ok (.slice A n c) w := by
  have q0 := (h.cell i).trans hi
  have q1 := h.lt
  clear h hi
  go_simp
/-- A variable that holds a state. -/
structure VarW (w : World) (g : Nat) (S N G D T : Option Addr) (c1 c2 c3 c4 c5 : Nat) (r : Work) : Prop where
  blk : Blk w g 42 #[.slice S r.a.s.length c1, .slice N r.a.n.length c2, .slice G r.a.g.length c3, .slice D r.d.length c4, .slice T r.t.length c5]
  rw_ : RW w S N G D T r
theorem VarW.keep {w w' : World} {g : Nat} {S N G D T : Option Addr} {c1 c2 c3 c4 c5 : Nat} {r : Work} (h : VarW w g S N G D T c1 c2 c3 c4 c5 r) (hb : Below w.heap.size w w') : VarW w' g S N G D T c1 c2 c3 c4 c5 r := ⟨h.blk.keep hb, h.rw_.keep hb⟩
theorem VarW.new {w : World} {S N G D T : Option Addr} {r : Work} (h : RW w S N G D T r) (c1 c2 c3 c4 c5 : Nat) : VarW (w.alloc (.cells #[.slice S r.a.s.length c1, .slice N r.a.n.length c2, .slice G r.a.g.length c3, .slice D r.d.length c4, .slice T r.t.length c5] 42)) w.heap.size S N G D T c1 c2 c3 c4 c5 r := ⟨Blk.new _ _ _, h.keep (balloc (Below.refl _ _) _)⟩
theorem load_work {w : World} {g : Nat} {S N G D T : Option Addr} {c1 c2 c3 c4 c5 : Nat} {r : Work} (h : VarW w g S N G D T c1 c2 c3 c4 c5 r) :
    (Instr.loadAt 42 (.pointer (some ⟨g, 0, none⟩))).run Try.prog w = .ok (.agg #[.slice S r.a.s.length c1, .slice N r.a.n.length c2, .slice G r.a.g.length c3, .slice D r.d.length c4, .slice T r.t.length c5]) w := by
  have hb := h.blk
  have q0 : World.cell? w ⟨g, 0, none⟩ = some (.slice S r.a.s.length c1) := hb.cell 0
  have f0 := hb.frozen 0
  have q1 : World.cell? w ⟨g, 1, none⟩ = some (.slice N r.a.n.length c2) := hb.cell 1
  have f1 := hb.frozen 1
  have q2 : World.cell? w ⟨g, 2, none⟩ = some (.slice G r.a.g.length c3) := hb.cell 2
  have f2 := hb.frozen 2
  have q3 : World.cell? w ⟨g, 3, none⟩ = some (.slice D r.d.length c4) := hb.cell 3
  have f3 := hb.frozen 3
  have q4 : World.cell? w ⟨g, 4, none⟩ = some (.slice T r.t.length c5) := hb.cell 4
  have f4 := hb.frozen 4
  have fl := hb.lt
  clear h hb
  go_simp
def wpT (o j x y u v pg pb A1 A2 X Y : Value) (c a e g i : Int) (pg1 pb1 : Value) : Nat → Value
  | 0 => o
  | 1 => .int .i64 c
  | 2 => j
  | 3 => .int .i64 c
  | 6 => .int .i64 a
  | 7 => .int .i64 a
  | 11 => .int .i64 e
  | 12 => .int .i64 e
  | 16 => x
  | 17 => y
  | 21 => .int .i64 g
  | 22 => .int .i64 g
  | 26 => u
  | 27 => v
  | 31 => .int .i64 i
  | 32 => .int .i64 i
  | 36 => pg
  | 37 => A1
  | 38 => pb
  | 39 => X
  | 43 => pg1
  | 44 => A2
  | 45 => pb1
  | 46 => Y
  | _ => .bool true
theorem below_of_drew {e : Ending} {v : Value} {w w' : World} (h : e = .returned v ∧ ∃ n, w' = w.drewN n) : e = .returned v ∧ Below w.heap.size w w' := by
  obtain ⟨h1, n, rfl⟩ := h
  exact ⟨h1, below_drewN (Below.refl _ _) _⟩
set_option maxRecDepth 20000 in
set_option maxHeartbeats 4000000 in
theorem workerParts_walk (X Y : Option Addr) (cx cy : Nat) (xs ys : List Int) (m s : Int) (b n : Int) (w : World) (hj : InJ w X Y cx cy xs ys m s)
    (hb : -9223372036854775808 ≤ b ∧ b ≤ 9223372036854775807) (hn : -9223372036854775808 ≤ n ∧ n ≤ 9223372036854775807) :
    Calls Try.prog 3 #[.agg #[.slice X xs.length cx, .slice Y ys.length cy, .int .i64 m, .int .i64 s], .int .i64 b, .int .i64 n] w fun e w' => e = .returned (.bool true) ∧ Below w.heap.size w w' := by
  have hx := hj.x
  have hy := hj.y
  have hk := Blk.new w 24 #[.slice X xs.length cx, .slice Y ys.length cy, .int .i64 m, .int .i64 s]
  have hbX : Below w.heap.size w (w.alloc (.cells #[.slice X xs.length cx, .slice Y ys.length cy, .int .i64 m, .int .i64 s] 24)) := balloc (Below.refl _ _) _
  have q0 : World.cell? (w.alloc (.cells #[.slice X xs.length cx, .slice Y ys.length cy, .int .i64 m, .int .i64 s] 24)) ⟨w.heap.size, 0, none⟩ = some (.slice X xs.length cx) := hk.cell 0
  have f0 := hk.frozen 0
  have q1 : World.cell? (w.alloc (.cells #[.slice X xs.length cx, .slice Y ys.length cy, .int .i64 m, .int .i64 s] 24)) ⟨w.heap.size, 1, none⟩ = some (.slice Y ys.length cy) := hk.cell 1
  have f1 := hk.frozen 1
  have q2 : World.cell? (w.alloc (.cells #[.slice X xs.length cx, .slice Y ys.length cy, .int .i64 m, .int .i64 s] 24)) ⟨w.heap.size, 2, none⟩ = some (.int .i64 m) := hk.cell 2
  have f2 := hk.frozen 2
  have q3 : World.cell? (w.alloc (.cells #[.slice X xs.length cx, .slice Y ys.length cy, .int .i64 m, .int .i64 s] 24)) ⟨w.heap.size, 3, none⟩ = some (.int .i64 s) := hk.cell 3
  have f3 := hk.frozen 3
  have fl := hk.lt
  have hxk := hx.keep hbX
  have hyk := hy.keep hbX
  cases hgr : greatJ xs ys m s with
  | true =>
    have HG : ∀ w, RI .i64 w X xs → RI .i64 w Y ys → Calls Try.prog 9 #[.agg #[.slice X xs.length cx, .slice Y ys.length cy, .int .i64 m, .int .i64 s]] w fun e w' => e = .returned (.bool true) ∧ Below w.heap.size w w' := by
      intro w hx hy
      by_cases hlo : 300 < xs.length ∨ 300 < ys.length
      · exact great_long X Y cx cy xs ys m s w hlo
      · have := great_any X Y cx cy xs ys m s w hx hy (by omega) (by omega)
        rw [hgr] at this
        exact this
    go_enter Try.func3, Try.ntmps3
    go_wp2_with fail
    refine (HG _ hxk hyk).mono ?_
    rintro _ w1 ⟨rfl, hb1⟩
    go_wp2
    go_ret
    exact ⟨rfl, bstep hbX hb1⟩
  | false =>
    have hll : xs.length ≤ 300 ∧ ys.length ≤ 300 := by
      have := of_decide_eq_false hgr
      omega
    have HG := fun w hx hy => great_any X Y cx cy xs ys m s w hx hy (by omega) (by omega)
    rw [hgr] at HG
    go_enter Try.func3, Try.ntmps3
    go_wp2_with fail
    refine (HG _ hxk hyk).mono ?_
    rintro _ w1 ⟨rfl, hb1⟩
    have hB1 := bstep hbX hb1
    have hkE := hk.keep hb1
    have hxE := hxk.keep hb1
    have hyE := hyk.keep hb1
    obtain ⟨i0, hi0, hz0, hz1, hz2⟩ := info_parts info_int
    clear HG hb1 q0 q1 q2 q3 f0 f1 f2 f3 hbX hgr
    go_wp2_with fail
    refine wp_region_end (by kernel_rfl) (by kernel_rfl) (by kernel_rfl) (OwnP.F ⟨w.heap.size, w1.heap.size, X, Y, cx, cy, xs, ys, m, s⟩) 14 (OwnP.E ⟨w.heap.size, w1.heap.size, X, Y, cx, cy, xs, ys, m, s⟩ w1) (by kernel_rfl) (OwnP.keep _) ⟨?_, ?_, ?_, ?_, ?_, ?_, ?_, ?_, ?_, ?_, ?_, ?_, ?_, ?_, ?_, trivial⟩ ?_
    · refine EndOk.grow ?_ (by decide)
      intro val a wr hb hdep hold K hK
      have hsz := hb.size
      go_simp
      exact hK _ _ (balloc (Below.refl _ _) _) ⟨_, rfl, hsz⟩
    · refine EndOk.grow ?_ (by decide)
      intro val a wr hb hdep hold K hK
      have hsz := hb.size
      have e1 : a.tmps[3]?.getD undef = .pointer (some ⟨w.heap.size, 0, none⟩) := ev_tmps ((hold 3 (by rfl)).trans (by rfl))
      go_simp
      exact hK _ _ (Below.refl _ _) rfl
    · refine EndOk.grow ?_ (by decide)
      intro val a wr hb hdep hold K hK
      have hsz := hb.size
      obtain ⟨e0, h0⟩ := hdep 1 23 _ rfl rfl rfl
      have e1 : a.tmps[23]?.getD undef = .pointer (some ⟨w.heap.size, 0, none⟩) := ev_tmps (e0.trans h0)
      have hk := hkE.keep hb
      have q0 := hk.cell 0
      have ql := hk.lt
      clear e0 h0
      go_simp
      exact hK _ _ (Below.refl _ _) rfl
    · refine EndOk.grow ?_ (by decide)
      intro val a wr hb hdep hold K hK
      have hsz := hb.size
      obtain ⟨e0, h0⟩ := hdep 0 22 _ rfl rfl rfl
      have e2 : a.eval (.tmp 24) = .slice X xs.length cx := (hdep 2 24 _ rfl rfl rfl).1.trans (hdep 2 24 _ rfl rfl rfl).2
      exact step_clone_G rfl (.tmp 22) (.tmp 24) 22 rfl 3 1 8 Try.underlying22 hi0 hz0 hz1 hz2 rfl (Nat.le_refl _) (encI .i64) (encI_len .i64) encI_one1 w1.heap.size _ e0 h0 hsz _ _ xs e2 (news_RI ((hxE).keep hb)) (by unfold maxLen; omega) (by omega) (fun A' c' w' r hb => hK _ _ hb ⟨A', c', rfl, r⟩)
    · refine EndOk.grow ?_ (by decide)
      intro val a wr hb hdep hold K hK
      have hsz := hb.size
      go_simp
      exact hK _ _ (balloc (Below.refl _ _) _) ⟨_, rfl, hsz⟩
    · refine EndOk.grow ?_ (by decide)
      intro val a wr hb hdep hold K hK
      have hsz := hb.size
      have e1 : a.tmps[3]?.getD undef = .pointer (some ⟨w.heap.size, 0, none⟩) := ev_tmps ((hold 3 (by rfl)).trans (by rfl))
      go_simp
      exact hK _ _ (Below.refl _ _) rfl
    · refine EndOk.grow ?_ (by decide)
      intro val a wr hb hdep hold K hK
      have hsz := hb.size
      obtain ⟨e0, h0⟩ := hdep 5 27 _ rfl rfl rfl
      have e1 : a.tmps[27]?.getD undef = .pointer (some ⟨w.heap.size, 1, none⟩) := ev_tmps (e0.trans h0)
      have hk := hkE.keep hb
      have q0 := hk.cell 1
      have ql := hk.lt
      clear e0 h0
      go_simp
      exact hK _ _ (Below.refl _ _) rfl
    · refine EndOk.grow ?_ (by decide)
      intro val a wr hb hdep hold K hK
      have hsz := hb.size
      obtain ⟨e0, h0⟩ := hdep 4 26 _ rfl rfl rfl
      have e2 : a.eval (.tmp 28) = .slice Y ys.length cy := (hdep 6 28 _ rfl rfl rfl).1.trans (hdep 6 28 _ rfl rfl rfl).2
      exact step_clone_G rfl (.tmp 26) (.tmp 28) 22 rfl 3 1 8 Try.underlying22 hi0 hz0 hz1 hz2 rfl (Nat.le_refl _) (encI .i64) (encI_len .i64) encI_one1 w1.heap.size _ e0 h0 hsz _ _ ys e2 (news_RI ((hyE).keep hb)) (by unfold maxLen; omega) (by omega) (fun A' c' w' r hb => hK _ _ hb ⟨A', c', rfl, r⟩)
    · refine EndOk.grow ?_ (by decide)
      intro val a wr hb hdep hold K hK
      have hsz := hb.size
      have e1 : a.tmps[3]?.getD undef = .pointer (some ⟨w.heap.size, 0, none⟩) := ev_tmps ((hold 3 (by rfl)).trans (by rfl))
      go_simp
      exact hK _ _ (Below.refl _ _) rfl
    · refine EndOk.grow ?_ (by decide)
      intro val a wr hb hdep hold K hK
      have hsz := hb.size
      obtain ⟨e0, h0⟩ := hdep 8 30 _ rfl rfl rfl
      have e1 : a.tmps[30]?.getD undef = .pointer (some ⟨w.heap.size, 2, none⟩) := ev_tmps (e0.trans h0)
      have hk := hkE.keep hb
      have q0 := hk.cell 2
      have ql := hk.lt
      clear e0 h0
      go_simp
      exact hK _ _ (Below.refl _ _) rfl
    · refine EndOk.grow ?_ (by decide)
      intro val a wr hb hdep hold K hK
      have hsz := hb.size
      have e1 : a.tmps[3]?.getD undef = .pointer (some ⟨w.heap.size, 0, none⟩) := ev_tmps ((hold 3 (by rfl)).trans (by rfl))
      go_simp
      exact hK _ _ (Below.refl _ _) rfl
    · refine EndOk.grow ?_ (by decide)
      intro val a wr hb hdep hold K hK
      have hsz := hb.size
      obtain ⟨e0, h0⟩ := hdep 10 32 _ rfl rfl rfl
      have e1 : a.tmps[32]?.getD undef = .pointer (some ⟨w.heap.size, 3, none⟩) := ev_tmps (e0.trans h0)
      have hk := hkE.keep hb
      have q0 := hk.cell 3
      have ql := hk.lt
      clear e0 h0
      go_simp
      exact hK _ _ (Below.refl _ _) rfl
    · refine EndOk.grow ?_ (by decide)
      intro val a wr hb hdep hold K hK
      have hsz := hb.size
      obtain ⟨e1, A1, x1, h1, r1⟩ := hdep 3 25 _ rfl rfl rfl
      obtain ⟨e2, A2, x2, h2, r2⟩ := hdep 7 29 _ rfl rfl rfl
      obtain ⟨e3, h3⟩ := hdep 9 31 _ rfl rfl rfl
      obtain ⟨e4, h4⟩ := hdep 11 33 _ rfl rfl rfl
      replace e1 := ev_tmps (e1.trans h1)
      replace e2 := ev_tmps (e2.trans h2)
      replace e3 := ev_tmps (e3.trans h3)
      replace e4 := ev_tmps (e4.trans h4)
      clear h1 h2 h3 h4
      go_simp
      exact hK _ _ (Below.refl _ _) ⟨A1, x1, A2, x2, rfl, r1, r2⟩
    · refine EndOk.grow ?_ (by decide)
      intro val a wr hb hdep hold K hK
      have hsz := hb.size
      go_simp
      exact hK _ _ (balloc (Below.refl _ _) _) ⟨_, rfl, hsz, Blk.new _ _ _⟩
    · refine EndOk.last ?_
      intro val a wr hb hall hdep hold K hK
      obtain ⟨A1, x1, A2, x2, h1, r1, r2⟩ := hall 12 (by decide) (by decide)
      obtain ⟨g, h2, hg, hkG⟩ := hall 13 (by decide) (by decide)
      have e1 := ev_tmps ((hdep 12 34 _ rfl rfl (by decide)).trans h1)
      have e2 := ev_tmps ((hdep 13 7 _ rfl rfl (by decide)).trans h2)
      simp only at hg
      have hFa := hK undef
      clear hall hdep hK h1
      have q0 : World.cell? wr ⟨g, 0, none⟩ = some (.slice none 0 0) := hkG.cell 0
      have f0 := hkG.frozen 0
      have q1 : World.cell? wr ⟨g, 1, none⟩ = some (.slice none 0 0) := hkG.cell 1
      have f1 := hkG.frozen 1
      have q2 : World.cell? wr ⟨g, 2, none⟩ = some (.int .i64 0) := hkG.cell 2
      have f2 := hkG.frozen 2
      have q3 : World.cell? wr ⟨g, 3, none⟩ = some (.int .i64 0) := hkG.cell 3
      have f3 := hkG.frozen 3
      have fl := hkG.lt
      go_simp
      refine hFa _ ⟨g, A1, x1, A2, x2, ?_, hg, (((hkG.put 0 _).put 1 _).put 2 _).put 3 _, ?_, ?_, r1.1, r2.1, ?_⟩
      · rw [upd_ne _ (by decide)]; exact h2
      · exact (((((r1.far (p := ⟨g, 0, none⟩) hkG (by decide) _).far (p := ⟨g, 1, none⟩) (hkG.put 0 _) (by decide) _).far (p := ⟨g, 2, none⟩) ((hkG.put 0 _).put 1 _) (by decide) _).far (p := ⟨g, 3, none⟩) (((hkG.put 0 _).put 1 _).put 2 _) (by decide) _)).ri
      · exact (((((r2.far (p := ⟨g, 0, none⟩) hkG (by decide) _).far (p := ⟨g, 1, none⟩) (hkG.put 0 _) (by decide) _).far (p := ⟨g, 2, none⟩) ((hkG.put 0 _).put 1 _) (by decide) _).far (p := ⟨g, 3, none⟩) (((hkG.put 0 _).put 1 _).put 2 _) (by decide) _)).ri
      · exact (((hb.setCell (p := ⟨g, 0, none⟩) hg _).setCell (p := ⟨g, 1, none⟩) hg _).setCell (p := ⟨g, 2, none⟩) hg _).setCell (p := ⟨g, 3, none⟩) hg _
    · rintro val w2 ⟨g, A1, c1, A2, c2, h13, hg, hkG, r1, r2, l1, l2, hb2⟩
      simp only at hg hkG r1 r2 l1 l2
      have hkJ := hkE.keep hb2
      have hxJ := hxE.keep hb2
      have hyJ := hyE.keep hb2
      have hB2 := bstep hB1 hb2
      simp only [putL, h13]
      clear hkE hxE hyE hB1 hb2 h13
      have HBL := Lib.hid (fun A B c d w hx hy => wkBlocks_any A B c d xs ys m s w hx hy (by omega) (by omega))
      have HBR := Lib.hid (fun w hx hy => refBlocks_any X Y cx cy xs ys m s w hx hy (by omega) (by omega))
      have HPL := Lib.hid (fun A B c d w hx hy hc => wkPart_any A B c d xs ys m s b w hx hy hc (by omega) (by omega))
      have HPR := Lib.hid (fun w hx hy => refPart_any X Y cx cy xs ys m s b w hx hy (by omega) (by omega))
      have HOL := Lib.hid (fun A B c d w hx hy => wkOpen_any A B c d xs ys m s n w hx hy (by omega) (by omega))
      have HOR := Lib.hid (fun w hx hy => refOpen_any X Y cx cy xs ys m s n w hx hy (by omega) (by omega))
      have HCL := Lib.hid (fun A B c d w hx hy => wkCheck_any A B c d xs ys m s w hx hy (by omega) (by omega))
      have HCR := Lib.hid (fun w hx hy => refCheckJ_any X Y cx cy xs ys m s w hx hy (by omega) (by omega))
      have HSX := Lib.hid (fun A c w hx hy => same13_any A X c cx xs xs w hx hy (by omega) (by omega))
      have HSY := Lib.hid (fun A c w hx hy => same13_any A Y c cy ys ys w hx hy (by omega) (by omega))
      rw [decide_eq_true rfl] at HSX HSY
      have sO := openS_small xs ys m s n
      have sP := partS_small xs ys m s b
      generalize openS xs ys m s n = R at *
      generalize partS xs ys m s b = Q at *
      generalize blocksS xs ys m s = Z at *
      generalize jobErr xs ys m s = J at *
      obtain ⟨R, re⟩ := R
      obtain ⟨Q, qe⟩ := Q
      obtain ⟨z, ze⟩ := Z
      simp only at sO sP
      have HSW := Lib.hid (fun S N G D T S' N' G' D' T' c1 c2 c3 c4 c5 d1 d2 d3 d4 d5 w hx hy => same19_yes S N G D T S' N' G' D' T' c1 c2 c3 c4 c5 d1 d2 d3 d4 d5 R w hx hy (by omega) (by omega) (by omega) (by omega) (by omega))
      have HSL := Lib.hid (fun A B c d w hx hy => Lagc.same16_any A B c d Q Q w hx hy (by omega) (by omega))
      rw [decide_eq_true rfl] at HSL
      have p0 : World.cell? w2 ⟨g, 0, none⟩ = some (.slice A1 xs.length c1) := hkG.cell 0
      have f0 := hkG.frozen 0
      have p1 : World.cell? w2 ⟨g, 1, none⟩ = some (.slice A2 ys.length c2) := hkG.cell 1
      have f1 := hkG.frozen 1
      have p2 : World.cell? w2 ⟨g, 2, none⟩ = some (.int .i64 m) := hkG.cell 2
      have f2 := hkG.frozen 2
      have p3 : World.cell? w2 ⟨g, 3, none⟩ = some (.int .i64 s) := hkG.cell 3
      have f3 := hkG.frozen 3
      have fl := hkG.lt
      go_wp2_with fail
      refine (HBL.out A1 A2 c1 c2 _ r1 r2).mono ?_
      rintro _ w3 ⟨rfl, hb3⟩
      clear p0 p1 p2 p3 f0 f1 f2 f3
      replace hB2 := bstep hB2 hb3
      replace hkG := hkG.keep hb3
      replace hkJ := hkJ.keep hb3
      replace r1 := r1.keep hb3
      replace r2 := r2.keep hb3
      replace hxJ := hxJ.keep hb3
      replace hyJ := hyJ.keep hb3
      have p0 : World.cell? w3 ⟨w.heap.size, 0, none⟩ = some (.slice X xs.length cx) := hkJ.cell 0
      have f0 := hkJ.frozen 0
      have p1 : World.cell? w3 ⟨w.heap.size, 1, none⟩ = some (.slice Y ys.length cy) := hkJ.cell 1
      have f1 := hkJ.frozen 1
      have p2 : World.cell? w3 ⟨w.heap.size, 2, none⟩ = some (.int .i64 m) := hkJ.cell 2
      have f2 := hkJ.frozen 2
      have p3 : World.cell? w3 ⟨w.heap.size, 3, none⟩ = some (.int .i64 s) := hkJ.cell 3
      have f3 := hkJ.frozen 3
      have fl := hkJ.lt
      go_wp2_with fail
      refine (HBR.out _ hxJ hyJ).mono ?_
      rintro _ w4 ⟨rfl, hb4⟩
      clear p0 p1 p2 p3 f0 f1 f2 f3
      replace hB2 := bstep hB2 hb4
      replace hkG := hkG.keep hb4
      replace hkJ := hkJ.keep hb4
      replace r1 := r1.keep hb4
      replace r2 := r2.keep hb4
      replace hxJ := hxJ.keep hb4
      replace hyJ := hyJ.keep hb4
      have p0 : World.cell? w4 ⟨g, 0, none⟩ = some (.slice A1 xs.length c1) := hkG.cell 0
      have f0 := hkG.frozen 0
      have p1 : World.cell? w4 ⟨g, 1, none⟩ = some (.slice A2 ys.length c2) := hkG.cell 1
      have f1 := hkG.frozen 1
      have p2 : World.cell? w4 ⟨g, 2, none⟩ = some (.int .i64 m) := hkG.cell 2
      have f2 := hkG.frozen 2
      have p3 : World.cell? w4 ⟨g, 3, none⟩ = some (.int .i64 s) := hkG.cell 3
      have f3 := hkG.frozen 3
      have fl := hkG.lt
      go_wp2_with fail
      refine (HPL.out A1 A2 c1 c2 _ r1 r2 l1).mono ?_
      rintro _ w5 ⟨A5, k5, rfl, ho5, hb5⟩
      clear p0 p1 p2 p3 f0 f1 f2 f3
      replace hB2 := bstep hB2 hb5
      replace hkG := hkG.keep hb5
      replace hkJ := hkJ.keep hb5
      replace r1 := r1.keep hb5
      replace r2 := r2.keep hb5
      replace hxJ := hxJ.keep hb5
      replace hyJ := hyJ.keep hb5
      replace ho5 := own_RL ho5
      have p0 : World.cell? w5 ⟨w.heap.size, 0, none⟩ = some (.slice X xs.length cx) := hkJ.cell 0
      have f0 := hkJ.frozen 0
      have p1 : World.cell? w5 ⟨w.heap.size, 1, none⟩ = some (.slice Y ys.length cy) := hkJ.cell 1
      have f1 := hkJ.frozen 1
      have p2 : World.cell? w5 ⟨w.heap.size, 2, none⟩ = some (.int .i64 m) := hkJ.cell 2
      have f2 := hkJ.frozen 2
      have p3 : World.cell? w5 ⟨w.heap.size, 3, none⟩ = some (.int .i64 s) := hkJ.cell 3
      have f3 := hkJ.frozen 3
      have fl := hkJ.lt
      go_wp2_with fail
      refine (HPR.out _ hxJ hyJ).mono ?_
      rintro _ w6 ⟨A6, k6, rfl, ho6, hb6⟩
      clear p0 p1 p2 p3 f0 f1 f2 f3
      replace hB2 := bstep hB2 hb6
      replace hkG := hkG.keep hb6
      replace hkJ := hkJ.keep hb6
      replace r1 := r1.keep hb6
      replace r2 := r2.keep hb6
      replace hxJ := hxJ.keep hb6
      replace hyJ := hyJ.keep hb6
      replace ho5 := ho5.keep hb6
      replace ho6 := own_RL ho6
      have p0 : World.cell? w6 ⟨g, 0, none⟩ = some (.slice A1 xs.length c1) := hkG.cell 0
      have f0 := hkG.frozen 0
      have p1 : World.cell? w6 ⟨g, 1, none⟩ = some (.slice A2 ys.length c2) := hkG.cell 1
      have f1 := hkG.frozen 1
      have p2 : World.cell? w6 ⟨g, 2, none⟩ = some (.int .i64 m) := hkG.cell 2
      have f2 := hkG.frozen 2
      have p3 : World.cell? w6 ⟨g, 3, none⟩ = some (.int .i64 s) := hkG.cell 3
      have f3 := hkG.frozen 3
      have fl := hkG.lt
      go_wp2_with fail
      refine (HOL.out A1 A2 c1 c2 _ r1 r2).mono ?_
      rintro _ w7 ⟨S7, N7, G7, D7, T7, a7, b7, c7, d7, e7, rfl, rv7, hb7⟩
      clear p0 p1 p2 p3 f0 f1 f2 f3
      replace hB2 := bstep hB2 hb7
      replace hkG := hkG.keep hb7
      replace hkJ := hkJ.keep hb7
      replace r1 := r1.keep hb7
      replace r2 := r2.keep hb7
      replace hxJ := hxJ.keep hb7
      replace hyJ := hyJ.keep hb7
      replace ho5 := ho5.keep hb7
      replace ho6 := ho6.keep hb7
      have p0 : World.cell? w7 ⟨w.heap.size, 0, none⟩ = some (.slice X xs.length cx) := hkJ.cell 0
      have f0 := hkJ.frozen 0
      have p1 : World.cell? w7 ⟨w.heap.size, 1, none⟩ = some (.slice Y ys.length cy) := hkJ.cell 1
      have f1 := hkJ.frozen 1
      have p2 : World.cell? w7 ⟨w.heap.size, 2, none⟩ = some (.int .i64 m) := hkJ.cell 2
      have f2 := hkJ.frozen 2
      have p3 : World.cell? w7 ⟨w.heap.size, 3, none⟩ = some (.int .i64 s) := hkJ.cell 3
      have f3 := hkJ.frozen 3
      have fl := hkJ.lt
      go_wp2_with fail
      clear p0 p1 p2 p3 f0 f1 f2 f3
      obtain ⟨u7, hu7⟩ : ∃ u7, u7 = World.alloc w7 (.cells #[.slice S7 R.a.s.length a7, .slice N7 R.a.n.length b7, .slice G7 R.a.g.length c7, .slice D7 R.d.length d7, .slice T7 R.t.length e7] 42) := ⟨_, rfl⟩
      have v7 : VarW u7 (World.heap w7).size S7 N7 G7 D7 T7 a7 b7 c7 d7 e7 R := by rw [hu7]; exact VarW.new rv7 _ _ _ _ _
      have hbu : Below (World.heap w7).size w7 u7 := by rw [hu7]; exact balloc (Below.refl _ _) _
      rw [← hu7]
      clear hu7
      replace hB2 := bstep hB2 hbu
      replace hkG := hkG.keep hbu
      replace hkJ := hkJ.keep hbu
      replace r1 := r1.keep hbu
      replace r2 := r2.keep hbu
      replace hxJ := hxJ.keep hbu
      replace hyJ := hyJ.keep hbu
      replace ho5 := ho5.keep hbu
      replace ho6 := ho6.keep hbu
      clear hbu
      refine (HOR.out _ hxJ hyJ).mono ?_
      rintro _ w8 ⟨S8, N8, G8, D8, T8, a8, b8, c8, d8, e8, rfl, rv8, hb8⟩
      replace hB2 := bstep hB2 hb8
      replace hkG := hkG.keep hb8
      replace hkJ := hkJ.keep hb8
      replace r1 := r1.keep hb8
      replace r2 := r2.keep hb8
      replace hxJ := hxJ.keep hb8
      replace hyJ := hyJ.keep hb8
      replace ho5 := ho5.keep hb8
      replace ho6 := ho6.keep hb8
      replace v7 := v7.keep hb8
      go_wp2_with fail
      obtain ⟨u8, hu8⟩ : ∃ u8, u8 = World.alloc w8 (.cells #[.slice S8 R.a.s.length a8, .slice N8 R.a.n.length b8, .slice G8 R.a.g.length c8, .slice D8 R.d.length d8, .slice T8 R.t.length e8] 42) := ⟨_, rfl⟩
      have v8 : VarW u8 (World.heap w8).size S8 N8 G8 D8 T8 a8 b8 c8 d8 e8 R := by rw [hu8]; exact VarW.new rv8 _ _ _ _ _
      have hbu : Below (World.heap w8).size w8 u8 := by rw [hu8]; exact balloc (Below.refl _ _) _
      rw [← hu8]
      clear hu8
      replace hB2 := bstep hB2 hbu
      replace hkG := hkG.keep hbu
      replace hkJ := hkJ.keep hbu
      replace r1 := r1.keep hbu
      replace r2 := r2.keep hbu
      replace hxJ := hxJ.keep hbu
      replace hyJ := hyJ.keep hbu
      replace ho5 := ho5.keep hbu
      replace ho6 := ho6.keep hbu
      replace v7 := v7.keep hbu
      clear hbu
      refine wp_region_tab (by kernel_rfl) (by kernel_rfl) (by kernel_rfl) (by kernel_rfl) (wpT (.agg #[.slice A1 xs.length c1, .slice A2 ys.length c2, .int .i64 m, .int .i64 s]) (.agg #[.slice X xs.length cx, .slice Y ys.length cy, .int .i64 m, .int .i64 s]) (.slice A5 Q.length k5) (.slice A6 Q.length k6) (.agg #[.slice S7 R.a.s.length a7, .slice N7 R.a.n.length b7, .slice G7 R.a.g.length c7, .slice D7 R.d.length d7, .slice T7 R.t.length e7]) (.agg #[.slice S8 R.a.s.length a8, .slice N8 R.a.n.length b8, .slice G8 R.a.g.length c8, .slice D8 R.d.length d8, .slice T8 R.t.length e8]) (.pointer (some ⟨g, 0, none⟩)) (.pointer (some ⟨w.heap.size, 0, none⟩)) (.slice A1 xs.length c1) (.slice A2 ys.length c2) (.slice X xs.length cx) (.slice Y ys.length cy) J z ze qe re (.pointer (some ⟨g, 1, none⟩)) (.pointer (some ⟨w.heap.size, 1, none⟩))) ⟨?_, ?_, ?_, ?_, ?_, ?_, ?_, ?_, ?_, ?_, ?_, ?_, ?_, ?_, ?_, ?_, ?_, ?_, ?_, ?_, ?_, ?_, ?_, ?_, ?_, ?_, ?_, ?_, ?_, ?_, ?_, ?_, ?_, ?_, ?_, ?_, ?_, ?_, ?_, ?_, ?_, ?_, ?_, ?_, ?_, ?_, ?_, ?_, ?_, ?_, trivial⟩ ?_
      · exact tab_load rfl (by kernel_rfl) (by kernel_rfl) (by kernel_rfl) (fun w hb => load_job (hkG.keep hb))
      · exact tab_call rfl (by kernel_rfl) (by kernel_rfl) (by kernel_rfl) Try.call16 (fun w hbr => HCL.out A1 A2 c1 c2 _ (r1.keep hbr) (r2.keep hbr))
      · exact tab_load rfl (by kernel_rfl) (by kernel_rfl) (by kernel_rfl) (fun w hb => load_job (hkJ.keep hb))
      · exact tab_call rfl (by kernel_rfl) (by kernel_rfl) (by kernel_rfl) Try.call17 (fun w hbr => HCR.out _ (hxJ.keep hbr) (hyJ.keep hbr))
      · exact tab_eql rfl (by kernel_rfl) (by kernel_rfl) (k := .i64) (m := J) (n := J) (by kernel_rfl) (by kernel_rfl) (by rw [beq_self_eq_true]; kernel_rfl)
      · first
          | exact tab_move rfl (by kernel_rfl) (by kernel_rfl) (by kernel_rfl)
          | exact tab_assign rfl (by kernel_rfl) (by kernel_rfl) (by kernel_rfl)
          | exact tab_pick rfl (by kernel_rfl) (by kernel_rfl) true (by kernel_rfl) (by kernel_rfl)
      · first
          | exact tab_move rfl (by kernel_rfl) (by kernel_rfl) (by kernel_rfl)
          | exact tab_assign rfl (by kernel_rfl) (by kernel_rfl) (by kernel_rfl)
          | exact tab_pick rfl (by kernel_rfl) (by kernel_rfl) true (by kernel_rfl) (by kernel_rfl)
      · first
          | exact tab_move rfl (by kernel_rfl) (by kernel_rfl) (by kernel_rfl)
          | exact tab_assign rfl (by kernel_rfl) (by kernel_rfl) (by kernel_rfl)
          | exact tab_pick rfl (by kernel_rfl) (by kernel_rfl) true (by kernel_rfl) (by kernel_rfl)
      · exact tab_eql rfl (by kernel_rfl) (by kernel_rfl) (k := .i64) (m := z) (n := z) (by kernel_rfl) (by kernel_rfl) (by rw [beq_self_eq_true]; kernel_rfl)
      · first
          | exact tab_move rfl (by kernel_rfl) (by kernel_rfl) (by kernel_rfl)
          | exact tab_assign rfl (by kernel_rfl) (by kernel_rfl) (by kernel_rfl)
          | exact tab_pick rfl (by kernel_rfl) (by kernel_rfl) true (by kernel_rfl) (by kernel_rfl)
      · first
          | exact tab_move rfl (by kernel_rfl) (by kernel_rfl) (by kernel_rfl)
          | exact tab_assign rfl (by kernel_rfl) (by kernel_rfl) (by kernel_rfl)
          | exact tab_pick rfl (by kernel_rfl) (by kernel_rfl) true (by kernel_rfl) (by kernel_rfl)
      · first
          | exact tab_move rfl (by kernel_rfl) (by kernel_rfl) (by kernel_rfl)
          | exact tab_assign rfl (by kernel_rfl) (by kernel_rfl) (by kernel_rfl)
          | exact tab_pick rfl (by kernel_rfl) (by kernel_rfl) true (by kernel_rfl) (by kernel_rfl)
      · first
          | exact tab_move rfl (by kernel_rfl) (by kernel_rfl) (by kernel_rfl)
          | exact tab_assign rfl (by kernel_rfl) (by kernel_rfl) (by kernel_rfl)
          | exact tab_pick rfl (by kernel_rfl) (by kernel_rfl) true (by kernel_rfl) (by kernel_rfl)
      · exact tab_eql rfl (by kernel_rfl) (by kernel_rfl) (k := .i64) (m := ze) (n := ze) (by kernel_rfl) (by kernel_rfl) (by rw [beq_self_eq_true]; kernel_rfl)
      · first
          | exact tab_move rfl (by kernel_rfl) (by kernel_rfl) (by kernel_rfl)
          | exact tab_assign rfl (by kernel_rfl) (by kernel_rfl) (by kernel_rfl)
          | exact tab_pick rfl (by kernel_rfl) (by kernel_rfl) true (by kernel_rfl) (by kernel_rfl)
      · first
          | exact tab_move rfl (by kernel_rfl) (by kernel_rfl) (by kernel_rfl)
          | exact tab_assign rfl (by kernel_rfl) (by kernel_rfl) (by kernel_rfl)
          | exact tab_pick rfl (by kernel_rfl) (by kernel_rfl) true (by kernel_rfl) (by kernel_rfl)
      · first
          | exact tab_move rfl (by kernel_rfl) (by kernel_rfl) (by kernel_rfl)
          | exact tab_assign rfl (by kernel_rfl) (by kernel_rfl) (by kernel_rfl)
          | exact tab_pick rfl (by kernel_rfl) (by kernel_rfl) true (by kernel_rfl) (by kernel_rfl)
      · first
          | exact tab_move rfl (by kernel_rfl) (by kernel_rfl) (by kernel_rfl)
          | exact tab_assign rfl (by kernel_rfl) (by kernel_rfl) (by kernel_rfl)
          | exact tab_pick rfl (by kernel_rfl) (by kernel_rfl) true (by kernel_rfl) (by kernel_rfl)
      · exact tab_call rfl (by kernel_rfl) (by kernel_rfl) (by kernel_rfl) Try.call18 (fun w hbr => (HSL.out A5 A6 k5 k6 _ (ho5.keep hbr) (ho6.keep hbr)).mono (fun _ _ h => below_of_drew h))
      · first
          | exact tab_move rfl (by kernel_rfl) (by kernel_rfl) (by kernel_rfl)
          | exact tab_assign rfl (by kernel_rfl) (by kernel_rfl) (by kernel_rfl)
          | exact tab_pick rfl (by kernel_rfl) (by kernel_rfl) true (by kernel_rfl) (by kernel_rfl)
      · first
          | exact tab_move rfl (by kernel_rfl) (by kernel_rfl) (by kernel_rfl)
          | exact tab_assign rfl (by kernel_rfl) (by kernel_rfl) (by kernel_rfl)
          | exact tab_pick rfl (by kernel_rfl) (by kernel_rfl) true (by kernel_rfl) (by kernel_rfl)
      · first
          | exact tab_move rfl (by kernel_rfl) (by kernel_rfl) (by kernel_rfl)
          | exact tab_assign rfl (by kernel_rfl) (by kernel_rfl) (by kernel_rfl)
          | exact tab_pick rfl (by kernel_rfl) (by kernel_rfl) true (by kernel_rfl) (by kernel_rfl)
      · first
          | exact tab_move rfl (by kernel_rfl) (by kernel_rfl) (by kernel_rfl)
          | exact tab_assign rfl (by kernel_rfl) (by kernel_rfl) (by kernel_rfl)
          | exact tab_pick rfl (by kernel_rfl) (by kernel_rfl) true (by kernel_rfl) (by kernel_rfl)
      · exact tab_eql rfl (by kernel_rfl) (by kernel_rfl) (k := .i64) (m := qe) (n := qe) (by kernel_rfl) (by kernel_rfl) (by rw [beq_self_eq_true]; kernel_rfl)
      · first
          | exact tab_move rfl (by kernel_rfl) (by kernel_rfl) (by kernel_rfl)
          | exact tab_assign rfl (by kernel_rfl) (by kernel_rfl) (by kernel_rfl)
          | exact tab_pick rfl (by kernel_rfl) (by kernel_rfl) true (by kernel_rfl) (by kernel_rfl)
      · first
          | exact tab_move rfl (by kernel_rfl) (by kernel_rfl) (by kernel_rfl)
          | exact tab_assign rfl (by kernel_rfl) (by kernel_rfl) (by kernel_rfl)
          | exact tab_pick rfl (by kernel_rfl) (by kernel_rfl) true (by kernel_rfl) (by kernel_rfl)
      · exact tab_load rfl (by kernel_rfl) (by kernel_rfl) (by kernel_rfl) (fun w hb => load_work (v7.keep hb))
      · exact tab_load rfl (by kernel_rfl) (by kernel_rfl) (by kernel_rfl) (fun w hb => load_work (v8.keep hb))
      · exact tab_call rfl (by kernel_rfl) (by kernel_rfl) (by kernel_rfl) Try.call19 (fun w hbr => HSW.out _ _ _ _ _ _ _ _ _ _ a7 b7 c7 d7 e7 a8 b8 c8 d8 e8 _ (v7.keep hbr).rw_ (v8.keep hbr).rw_)
      · first
          | exact tab_move rfl (by kernel_rfl) (by kernel_rfl) (by kernel_rfl)
          | exact tab_assign rfl (by kernel_rfl) (by kernel_rfl) (by kernel_rfl)
          | exact tab_pick rfl (by kernel_rfl) (by kernel_rfl) true (by kernel_rfl) (by kernel_rfl)
      · first
          | exact tab_move rfl (by kernel_rfl) (by kernel_rfl) (by kernel_rfl)
          | exact tab_assign rfl (by kernel_rfl) (by kernel_rfl) (by kernel_rfl)
          | exact tab_pick rfl (by kernel_rfl) (by kernel_rfl) true (by kernel_rfl) (by kernel_rfl)
      · first
          | exact tab_move rfl (by kernel_rfl) (by kernel_rfl) (by kernel_rfl)
          | exact tab_assign rfl (by kernel_rfl) (by kernel_rfl) (by kernel_rfl)
          | exact tab_pick rfl (by kernel_rfl) (by kernel_rfl) true (by kernel_rfl) (by kernel_rfl)
      · first
          | exact tab_move rfl (by kernel_rfl) (by kernel_rfl) (by kernel_rfl)
          | exact tab_assign rfl (by kernel_rfl) (by kernel_rfl) (by kernel_rfl)
          | exact tab_pick rfl (by kernel_rfl) (by kernel_rfl) true (by kernel_rfl) (by kernel_rfl)
      · exact tab_eql rfl (by kernel_rfl) (by kernel_rfl) (k := .i64) (m := re) (n := re) (by kernel_rfl) (by kernel_rfl) (by rw [beq_self_eq_true]; kernel_rfl)
      · first
          | exact tab_move rfl (by kernel_rfl) (by kernel_rfl) (by kernel_rfl)
          | exact tab_assign rfl (by kernel_rfl) (by kernel_rfl) (by kernel_rfl)
          | exact tab_pick rfl (by kernel_rfl) (by kernel_rfl) true (by kernel_rfl) (by kernel_rfl)
      · first
          | exact tab_move rfl (by kernel_rfl) (by kernel_rfl) (by kernel_rfl)
          | exact tab_assign rfl (by kernel_rfl) (by kernel_rfl) (by kernel_rfl)
          | exact tab_pick rfl (by kernel_rfl) (by kernel_rfl) true (by kernel_rfl) (by kernel_rfl)
      · exact tab_field (v := .pointer (some ⟨g, 0, none⟩)) rfl (by kernel_rfl) (by kernel_rfl) (by kernel_rfl) (fun w => by go_simp; kernel_rfl)
      · exact tab_load rfl (by kernel_rfl) (by kernel_rfl) (by kernel_rfl) (fun w hb => load_jobf (i := 0) (hkG.keep hb) rfl)
      · exact tab_field (v := .pointer (some ⟨w.heap.size, 0, none⟩)) rfl (by kernel_rfl) (by kernel_rfl) (by kernel_rfl) (fun w => by go_simp; kernel_rfl)
      · exact tab_load rfl (by kernel_rfl) (by kernel_rfl) (by kernel_rfl) (fun w hb => load_jobf (i := 0) (hkJ.keep hb) rfl)
      · exact tab_call rfl (by kernel_rfl) (by kernel_rfl) (by kernel_rfl) Try.call20 (fun w hbr => (HSX.out A1 c1 _ (r1.keep hbr) (hxJ.keep hbr)).mono (fun _ _ h => below_of_drew h))
      · first
          | exact tab_move rfl (by kernel_rfl) (by kernel_rfl) (by kernel_rfl)
          | exact tab_assign rfl (by kernel_rfl) (by kernel_rfl) (by kernel_rfl)
          | exact tab_pick rfl (by kernel_rfl) (by kernel_rfl) true (by kernel_rfl) (by kernel_rfl)
      · first
          | exact tab_move rfl (by kernel_rfl) (by kernel_rfl) (by kernel_rfl)
          | exact tab_assign rfl (by kernel_rfl) (by kernel_rfl) (by kernel_rfl)
          | exact tab_pick rfl (by kernel_rfl) (by kernel_rfl) true (by kernel_rfl) (by kernel_rfl)
      · exact tab_field (v := .pointer (some ⟨g, 0, none⟩)) rfl (by kernel_rfl) (by kernel_rfl) (by kernel_rfl) (fun w => by go_simp; kernel_rfl)
      · exact tab_load rfl (by kernel_rfl) (by kernel_rfl) (by kernel_rfl) (fun w hb => load_jobf (i := 1) (hkG.keep hb) rfl)
      · exact tab_field (v := .pointer (some ⟨w.heap.size, 0, none⟩)) rfl (by kernel_rfl) (by kernel_rfl) (by kernel_rfl) (fun w => by go_simp; kernel_rfl)
      · exact tab_load rfl (by kernel_rfl) (by kernel_rfl) (by kernel_rfl) (fun w hb => load_jobf (i := 1) (hkJ.keep hb) rfl)
      · exact tab_call rfl (by kernel_rfl) (by kernel_rfl) (by kernel_rfl) Try.call20 (fun w hbr => (HSY.out A2 c2 _ (r2.keep hbr) (hyJ.keep hbr)).mono (fun _ _ h => below_of_drew h))
      · first
          | exact tab_move rfl (by kernel_rfl) (by kernel_rfl) (by kernel_rfl)
          | exact tab_assign rfl (by kernel_rfl) (by kernel_rfl) (by kernel_rfl)
          | exact tab_pick rfl (by kernel_rfl) (by kernel_rfl) true (by kernel_rfl) (by kernel_rfl)
      · first
          | exact tab_move rfl (by kernel_rfl) (by kernel_rfl) (by kernel_rfl)
          | exact tab_assign rfl (by kernel_rfl) (by kernel_rfl) (by kernel_rfl)
          | exact tab_pick rfl (by kernel_rfl) (by kernel_rfl) true (by kernel_rfl) (by kernel_rfl)
      · intro w' hb'
        generalize hF : putL _ 0 _ _ = aF
        have e : aF.tmps[6]?.getD undef = .bool true := by rw [← hF]; kernel_rfl
        have ed : aF.defers = [] := by rw [← hF]; kernel_rfl
        clear hF
        go_wp2
        exact bodyPost_ret (v := .bool true) (by simp [results, Try.results3, go_sem, e]) ed ⟨rfl, bstep hB2 hb'⟩
end Wk
end Go.Proofs.Ytdekbncpodjgnaa
