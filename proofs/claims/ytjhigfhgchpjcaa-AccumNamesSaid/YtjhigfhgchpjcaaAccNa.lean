/-
  The twelve bad accumulators of AccumNames: made in an order that is drawn. Printed by gen_accn.py.
-/
import Derived.Test.YtjhigfhgchpjcaaAccR
import Derived.Test.YtjhigfhgchpjcaaAccNb
import Derived.Test.YtjhigfhgchpjcaaRegG
import Derived.Test.YtjhigfhgchpjcaaRegD
import Derived.Deep.DeepCutAuto
import Derived.Great.BuildSlice
namespace Go.Proofs.Ytjhigfhgchpjcaa
open Go.RowKit Runs Lagc Frac Reg
set_option linter.unusedVariables false
set_option linter.unusedSimpArgs false

structure BadsA (g : Nat) (W : World) : Prop where
  at_ : ∀ k, k < 12 → ∃ S N G n1 n2 n3 c1 c2 c3 a, W.cell? ⟨g, k * 3, none⟩ = some (.slice S n1 c1) ∧ W.cell? ⟨g, k * 3 + 1, none⟩ = some (.slice N n2 c2) ∧ W.cell? ⟨g, k * 3 + 2, none⟩ = some (.slice G n3 c3) ∧ RA W S N G a ∧ a.s.length = n1 ∧ a.n.length = n2 ∧ a.g.length = n3 ∧ n1 ≤ 2 ∧ n2 ≤ 2 ∧ n3 ≤ 2 ∧ accErr a = 8
  zero : W.cell? ⟨g, 0, none⟩ = some (.slice none 0 0) ∧ W.cell? ⟨g, 1, none⟩ = some (.slice none 0 0) ∧ W.cell? ⟨g, 2, none⟩ = some (.slice none 0 0)
  lt : g < W.heap.size
theorem BadsA.keep {g : Nat} {W W' : World} (H : BadsA g W) (hb : Below W.heap.size W W') : BadsA g W' := by
  refine ⟨fun k hk => ?_, ⟨(hb.cell (p := ⟨g, 0, none⟩) H.lt).trans H.zero.1, (hb.cell (p := ⟨g, 1, none⟩) H.lt).trans H.zero.2.1, (hb.cell (p := ⟨g, 2, none⟩) H.lt).trans H.zero.2.2⟩, Nat.lt_of_lt_of_le H.lt hb.size⟩
  obtain ⟨S, N, G, n1, n2, n3, c1, c2, c3, a, h1, h2, h3, h4, h5⟩ := H.at_ k hk
  exact ⟨S, N, G, n1, n2, n3, c1, c2, c3, a, (hb.cell (p := ⟨g, _, none⟩) H.lt).trans h1, (hb.cell (p := ⟨g, _, none⟩) H.lt).trans h2, (hb.cell (p := ⟨g, _, none⟩) H.lt).trans h3, h4.keep hb, h5⟩
def BadP (gz : Nat) : Nat → Value → World → Prop
  | 0 => fun v w => v = .agg #[.slice none 0 0, .slice none 0 0, .slice none 0 0]
  | 1 => fun v w => v = .slice (some ⟨gz, 0, none⟩) 1 1
  | 2 => fun v w => v = .agg #[.slice (some ⟨gz, 0, none⟩) 1 1, .slice none 0 0, .slice none 0 0]
  | 3 => fun v w => ∃ h3, v = .slice (some ⟨h3, 0, none⟩) 2 2 ∧ RL w (some ⟨h3, 0, none⟩) [(0, 0), (0, 0)]
  | 4 => fun v w => ∃ h4, v = .slice (some ⟨h4, 0, none⟩) 2 2 ∧ RL w (some ⟨h4, 0, none⟩) [(0, 0), (0, 0)]
  | 5 => fun v w => ∃ h3 h4, v = .agg #[.slice (some ⟨h3, 0, none⟩) 2 2, .slice (some ⟨h4, 0, none⟩) 2 2, .slice none 0 0] ∧ RL w (some ⟨h3, 0, none⟩) [(0, 0), (0, 0)] ∧ RL w (some ⟨h4, 0, none⟩) [(0, 0), (0, 0)]
  | 6 => fun v w => v = .slice (some ⟨gz, 0, none⟩) 1 1
  | 7 => fun v w => v = .agg #[.int .i64 (-1), .int .i64 0]
  | 8 => fun v w => ∃ h8, v = .slice (some ⟨h8, 0, none⟩) 1 1 ∧ RL w (some ⟨h8, 0, none⟩) [(-1, 0)]
  | 9 => fun v w => ∃ h8, v = .agg #[.slice (some ⟨gz, 0, none⟩) 1 1, .slice (some ⟨h8, 0, none⟩) 1 1, .slice none 0 0] ∧ RL w (some ⟨h8, 0, none⟩) [(-1, 0)]
  | 10 => fun v w => v = .agg #[.int .i64 0, .int .i64 (-1)]
  | 11 => fun v w => ∃ h11, v = .slice (some ⟨h11, 0, none⟩) 1 1 ∧ RL w (some ⟨h11, 0, none⟩) [(0, -1)]
  | 12 => fun v w => v = .slice (some ⟨gz, 0, none⟩) 1 1
  | 13 => fun v w => ∃ h11, v = .agg #[.slice (some ⟨h11, 0, none⟩) 1 1, .slice (some ⟨gz, 0, none⟩) 1 1, .slice none 0 0] ∧ RL w (some ⟨h11, 0, none⟩) [(0, -1)]
  | 14 => fun v w => v = .agg #[.int .i64 0, .int .i64 1000000000]
  | 15 => fun v w => ∃ h15, v = .slice (some ⟨h15, 0, none⟩) 1 1 ∧ RL w (some ⟨h15, 0, none⟩) [(0, 1000000000)]
  | 16 => fun v w => v = .slice (some ⟨gz, 0, none⟩) 1 1
  | 17 => fun v w => ∃ h15, v = .agg #[.slice (some ⟨h15, 0, none⟩) 1 1, .slice (some ⟨gz, 0, none⟩) 1 1, .slice none 0 0] ∧ RL w (some ⟨h15, 0, none⟩) [(0, 1000000000)]
  | 18 => fun v w => v = .agg #[.int .i64 1000000000, .int .i64 0]
  | 19 => fun v w => ∃ h19, v = .slice (some ⟨h19, 0, none⟩) 1 1 ∧ RL w (some ⟨h19, 0, none⟩) [(1000000000, 0)]
  | 20 => fun v w => v = .slice (some ⟨gz, 0, none⟩) 1 1
  | 21 => fun v w => ∃ h19, v = .agg #[.slice (some ⟨h19, 0, none⟩) 1 1, .slice (some ⟨gz, 0, none⟩) 1 1, .slice none 0 0] ∧ RL w (some ⟨h19, 0, none⟩) [(1000000000, 0)]
  | 22 => fun v w => v = .agg #[.int .i64 (-1000000001), .int .i64 0]
  | 23 => fun v w => ∃ h23, v = .slice (some ⟨h23, 0, none⟩) 1 1 ∧ RL w (some ⟨h23, 0, none⟩) [(-1000000001, 0)]
  | 24 => fun v w => v = .slice (some ⟨gz, 0, none⟩) 1 1
  | 25 => fun v w => ∃ h23, v = .agg #[.slice (some ⟨h23, 0, none⟩) 1 1, .slice (some ⟨gz, 0, none⟩) 1 1, .slice none 0 0] ∧ RL w (some ⟨h23, 0, none⟩) [(-1000000001, 0)]
  | 26 => fun v w => v = .slice (some ⟨gz, 0, none⟩) 1 1
  | 27 => fun v w => v = .slice (some ⟨gz, 0, none⟩) 1 1
  | 28 => fun v w => v = .agg #[.int .i64 0, .int .i64 0]
  | 29 => fun v w => ∃ h29, v = .slice (some ⟨h29, 0, none⟩) 1 1 ∧ RL w (some ⟨h29, 0, none⟩) [(0, 0)]
  | 30 => fun v w => ∃ h29, v = .agg #[.slice (some ⟨gz, 0, none⟩) 1 1, .slice (some ⟨gz, 0, none⟩) 1 1, .slice (some ⟨h29, 0, none⟩) 1 1] ∧ RL w (some ⟨h29, 0, none⟩) [(0, 0)]
  | 31 => fun v w => v = .slice (some ⟨gz, 0, none⟩) 1 1
  | 32 => fun v w => v = .slice (some ⟨gz, 0, none⟩) 1 1
  | 33 => fun v w => v = .agg #[.int .i64 0, .int .i64 2]
  | 34 => fun v w => v = .agg #[.int .i64 2, .int .i64 1]
  | 35 => fun v w => ∃ h35, v = .slice (some ⟨h35, 0, none⟩) 2 2 ∧ RL w (some ⟨h35, 0, none⟩) [(0, 2), (2, 1)]
  | 36 => fun v w => ∃ h35, v = .agg #[.slice (some ⟨gz, 0, none⟩) 1 1, .slice (some ⟨gz, 0, none⟩) 1 1, .slice (some ⟨h35, 0, none⟩) 2 2] ∧ RL w (some ⟨h35, 0, none⟩) [(0, 2), (2, 1)]
  | 37 => fun v w => v = .slice (some ⟨gz, 0, none⟩) 1 1
  | 38 => fun v w => v = .slice (some ⟨gz, 0, none⟩) 1 1
  | 39 => fun v w => v = .agg #[.int .i64 (-1), .int .i64 1]
  | 40 => fun v w => ∃ h40, v = .slice (some ⟨h40, 0, none⟩) 1 1 ∧ RL w (some ⟨h40, 0, none⟩) [(-1, 1)]
  | 41 => fun v w => ∃ h40, v = .agg #[.slice (some ⟨gz, 0, none⟩) 1 1, .slice (some ⟨gz, 0, none⟩) 1 1, .slice (some ⟨h40, 0, none⟩) 1 1] ∧ RL w (some ⟨h40, 0, none⟩) [(-1, 1)]
  | 42 => fun v w => v = .slice (some ⟨gz, 0, none⟩) 1 1
  | 43 => fun v w => v = .slice (some ⟨gz, 0, none⟩) 1 1
  | 44 => fun v w => v = .agg #[.int .i64 1000000000, .int .i64 1]
  | 45 => fun v w => ∃ h45, v = .slice (some ⟨h45, 0, none⟩) 1 1 ∧ RL w (some ⟨h45, 0, none⟩) [(1000000000, 1)]
  | 46 => fun v w => ∃ h45, v = .agg #[.slice (some ⟨gz, 0, none⟩) 1 1, .slice (some ⟨gz, 0, none⟩) 1 1, .slice (some ⟨h45, 0, none⟩) 1 1] ∧ RL w (some ⟨h45, 0, none⟩) [(1000000000, 1)]
  | 47 => fun v w => ∃ g, v = .slice (some ⟨g, 0, none⟩) 12 12 ∧ BadsA g w
  | 48 => fun v w => ∃ g, v = .slice (some ⟨g, 0, none⟩) 12 12 ∧ BadsA g w
  | _ => fun _ _ => True
theorem BadP.keep (gz : Nat) : ∀ k v w w', Below w.heap.size w w' → BadP gz k v w → BadP gz k v w' := by
  intro k v w w' hb h
  match k, h with
  | 0, h => exact h
  | 1, h => exact h
  | 2, h => exact h
  | 3, ⟨g, e, h1⟩ => exact ⟨g, e, h1.keep hb⟩
  | 4, ⟨g, e, h1⟩ => exact ⟨g, e, h1.keep hb⟩
  | 5, ⟨g0, g1, e, h0, h1⟩ => exact ⟨g0, g1, e, h0.keep hb, h1.keep hb⟩
  | 6, h => exact h
  | 7, h => exact h
  | 8, ⟨g, e, h1⟩ => exact ⟨g, e, h1.keep hb⟩
  | 9, ⟨g0, e, h0⟩ => exact ⟨g0, e, h0.keep hb⟩
  | 10, h => exact h
  | 11, ⟨g, e, h1⟩ => exact ⟨g, e, h1.keep hb⟩
  | 12, h => exact h
  | 13, ⟨g0, e, h0⟩ => exact ⟨g0, e, h0.keep hb⟩
  | 14, h => exact h
  | 15, ⟨g, e, h1⟩ => exact ⟨g, e, h1.keep hb⟩
  | 16, h => exact h
  | 17, ⟨g0, e, h0⟩ => exact ⟨g0, e, h0.keep hb⟩
  | 18, h => exact h
  | 19, ⟨g, e, h1⟩ => exact ⟨g, e, h1.keep hb⟩
  | 20, h => exact h
  | 21, ⟨g0, e, h0⟩ => exact ⟨g0, e, h0.keep hb⟩
  | 22, h => exact h
  | 23, ⟨g, e, h1⟩ => exact ⟨g, e, h1.keep hb⟩
  | 24, h => exact h
  | 25, ⟨g0, e, h0⟩ => exact ⟨g0, e, h0.keep hb⟩
  | 26, h => exact h
  | 27, h => exact h
  | 28, h => exact h
  | 29, ⟨g, e, h1⟩ => exact ⟨g, e, h1.keep hb⟩
  | 30, ⟨g0, e, h0⟩ => exact ⟨g0, e, h0.keep hb⟩
  | 31, h => exact h
  | 32, h => exact h
  | 33, h => exact h
  | 34, h => exact h
  | 35, ⟨g, e, h1⟩ => exact ⟨g, e, h1.keep hb⟩
  | 36, ⟨g0, e, h0⟩ => exact ⟨g0, e, h0.keep hb⟩
  | 37, h => exact h
  | 38, h => exact h
  | 39, h => exact h
  | 40, ⟨g, e, h1⟩ => exact ⟨g, e, h1.keep hb⟩
  | 41, ⟨g0, e, h0⟩ => exact ⟨g0, e, h0.keep hb⟩
  | 42, h => exact h
  | 43, h => exact h
  | 44, h => exact h
  | 45, ⟨g, e, h1⟩ => exact ⟨g, e, h1.keep hb⟩
  | 46, ⟨g0, e, h0⟩ => exact ⟨g0, e, h0.keep hb⟩
  | 47, ⟨g, e, h1⟩ => exact ⟨g, e, h1.keep hb⟩
  | 48, ⟨g, e, h1⟩ => exact ⟨g, e, h1.keep hb⟩
  | n + 49, _ => trivial
theorem badA0 : accErr ⟨[], [], []⟩ = 8 := by decide +kernel
theorem badA1 : accErr ⟨[(0, 0)], [], []⟩ = 8 := by decide +kernel
theorem badA2 : accErr ⟨[(0, 0), (0, 0)], [(0, 0), (0, 0)], []⟩ = 8 := by decide +kernel
theorem badA3 : accErr ⟨[(0, 0)], [(-1, 0)], []⟩ = 8 := by decide +kernel
theorem badA4 : accErr ⟨[(0, -1)], [(0, 0)], []⟩ = 8 := by decide +kernel
theorem badA5 : accErr ⟨[(0, 1000000000)], [(0, 0)], []⟩ = 8 := by decide +kernel
theorem badA6 : accErr ⟨[(1000000000, 0)], [(0, 0)], []⟩ = 8 := by decide +kernel
theorem badA7 : accErr ⟨[(-1000000001, 0)], [(0, 0)], []⟩ = 8 := by decide +kernel
theorem badA8 : accErr ⟨[(0, 0)], [(0, 0)], [(0, 0)]⟩ = 8 := by decide +kernel
theorem badA9 : accErr ⟨[(0, 0)], [(0, 0)], [(0, 2), (2, 1)]⟩ = 8 := by decide +kernel
theorem badA10 : accErr ⟨[(0, 0)], [(0, 0)], [(-1, 1)]⟩ = 8 := by decide +kernel
theorem badA11 : accErr ⟨[(0, 0)], [(0, 0)], [(1000000000, 1)]⟩ = 8 := by decide +kernel
theorem zC_RL {w : World} {g : Nat} {t : TypeId} (h : Blk w g t ((List.replicate 2 ((0 : Int), (0 : Int))).flatMap encP).toArray) : RL w (some ⟨g, 0, none⟩) [(0, 0), (0, 0)] := RL_lit [(0, 0), (0, 0)] _ h rfl
theorem info_acc : (Try.prog.info? 25).map (fun i => (i.zero, i.size, i.bytes)) = some (some (.agg #[.slice none 0 0, .slice none 0 0, .slice none 0 0]), 3, 72) := by kernel_rfl
theorem mkC2 (w : World) : (Instr.makeSlice 22 (.int .i64 2) (.int .i64 2)).run Try.prog w = .ok (.slice (some ⟨w.heap.size, 0, none⟩) 2 2) (w.alloc (.cells ((List.replicate 2 ((0 : Int), (0 : Int))).flatMap encP).toArray 60)) := by
  obtain ⟨i0, hi0, hz0, hz1, hz2⟩ := info_parts info_count
  exact mk_row (P := Try.prog) 22 60 Try.underlying22 hi0 hz0 hz1 hz2 encP encP_len (by omega) (0, 0) rfl 2 (by omega) (by omega) w
theorem check_lit {a : Acc} {x : Int} {n1 n2 n3 : Nat} (hr : accErr a = x) (h1 : a.s.length = n1) (h2 : a.n.length = n2) (h3 : a.g.length = n3) (b1 : n1 ≤ 1000) (b2 : n2 ≤ 1000) (b3 : n3 ≤ 1000) (S N G : Option Addr) (c1 c2 c3 : Nat) (w : World) (hx : RA w S N G a) :
    Calls Try.prog 16 #[.agg #[.slice S n1 c1, .slice N n2 c2, .slice G n3 c3]] w fun e w' => e = .returned (.int .i64 x) ∧ Below w.heap.size w w' := by
  subst h1; subst h2; subst h3; subst hr
  exact accCheck_any S N G c1 c2 c3 a w hx (by omega) (by omega) (by omega)
theorem merge_lit {a b r : Acc} {x : Int} {n1 n2 n3 m1 m2 m3 k1 k2 k3 : Nat} (hr : mergeS a b = (r, x)) (h1 : a.s.length = n1) (h2 : a.n.length = n2) (h3 : a.g.length = n3) (g1 : b.s.length = m1) (g2 : b.n.length = m2) (g3 : b.g.length = m3) (e1 : r.s.length = k1) (e2 : r.n.length = k2) (e3 : r.g.length = k3)
    (b1 : n1 ≤ 1000) (b2 : n2 ≤ 1000) (b3 : n3 ≤ 1000) (b4 : m1 ≤ 1000) (b5 : m2 ≤ 1000) (b6 : m3 ≤ 1000) (S N G S' N' G' : Option Addr) (c1 c2 c3 d1 d2 d3 : Nat) (w : World) (hx : RA w S N G a) (hy : RA w S' N' G' b) :
    Calls Try.prog 20 #[.agg #[.slice S n1 c1, .slice N n2 c2, .slice G n3 c3], .agg #[.slice S' m1 d1, .slice N' m2 d2, .slice G' m3 d3]] w (RetN w r k1 k2 k3 x) := by
  subst h1; subst h2; subst h3; subst g1; subst g2; subst g3
  exact (accMerge_any S N G S' N' G' c1 c2 c3 d1 d2 d3 a b w hx hy (by omega) (by omega) (by omega) (by omega) (by omega) (by omega)).mono fun _ _ h => h.toN hr e1 e2 e3
theorem info_lagN : (Try.prog.info? 65).map (fun i => (i.zero, i.size, i.bytes)) = some (some (.agg #[.int .i64 0, .int .i64 0]), 2, 16) := by kernel_rfl
theorem mkC512 (w : World) : (Instr.makeSlice 22 (.int .i64 512) (.int .i64 512)).run Try.prog w = .ok (.slice (some ⟨w.heap.size, 0, none⟩) 512 512) (w.alloc (.cells ((List.replicate 512 ((0 : Int), (0 : Int))).flatMap encP).toArray 60)) := by
  obtain ⟨i0, hi0, hz0, hz1, hz2⟩ := info_parts info_count
  exact mk_row (P := Try.prog) 22 60 Try.underlying22 hi0 hz0 hz1 hz2 encP encP_len (by omega) (0, 0) rfl 512 (by omega) (by omega) w
theorem mkG65 (w : World) : (Instr.makeSlice 23 (.int .i64 65) (.int .i64 65)).run Try.prog w = .ok (.slice (some ⟨w.heap.size, 0, none⟩) 65 65) (w.alloc (.cells ((List.replicate 65 ((0 : Int), (0 : Int))).flatMap encP).toArray 62)) := by
  obtain ⟨i0, hi0, hz0, hz1, hz2⟩ := info_parts info_gap
  exact mk_row (P := Try.prog) 23 62 Try.underlying23 hi0 hz0 hz1 hz2 encP encP_len (by omega) (0, 0) rfl 65 (by omega) (by omega) w
theorem mkL3 (w : World) : (Instr.makeSlice 26 (.int .i64 3) (.int .i64 3)).run Try.prog w = .ok (.slice (some ⟨w.heap.size, 0, none⟩) 3 3) (w.alloc (.cells ((List.replicate 3 ((0 : Int), (0 : Int))).flatMap encP).toArray 65)) := by
  obtain ⟨i0, hi0, hz0, hz1, hz2⟩ := info_parts info_lagN
  exact mk_row (P := Try.prog) 26 65 Try.underlying26 hi0 hz0 hz1 hz2 encP encP_len (by omega) (0, 0) rfl 3 (by omega) (by omega) w
theorem zR_RL {w : World} {g n : Nat} {t : TypeId} (h : Blk w g t ((List.replicate n ((0 : Int), (0 : Int))).flatMap encP).toArray) : RL w (some ⟨g, 0, none⟩) (List.replicate n (0, 0)) := blk_RL h
def ErA.F (gf gz gd B : Nat) : Nat → Value → World → Prop
  | 0 => fun v w => v = .agg #[.slice (some ⟨gf, 0, none⟩) 1 1, .slice (some ⟨gz, 0, none⟩) 1 1, .slice none 0 0]
  | 1 => fun v w => ∃ g, v = .slice (some ⟨g, 0, none⟩) 3 3 ∧ RL w (some ⟨g, 0, none⟩) (List.replicate 3 (0, 0))
  | 2 => fun v _ => ∃ S N G c1 c2 c3, v = .tuple #[.agg #[.slice S 0 c1, .slice N 0 c2, .slice G 0 c3], .int .i64 2]
  | 3 => fun v _ => ∃ S N G c1 c2 c3, v = .tuple #[.agg #[.slice S 0 c1, .slice N 0 c2, .slice G 0 c3], .int .i64 2]
  | 4 => fun v _ => ∃ S N G c1 c2 c3, v = .agg #[.slice S 0 c1, .slice N 0 c2, .slice G 0 c3]
  | 5 => fun v _ => v = .int .i64 2
  | 6 => fun v w => ∃ g, v = .pointer (some ⟨g, 0, none⟩) ∧ B ≤ g ∧ Blk w g 25 #[.slice none 0 0, .slice none 0 0, .slice none 0 0]
  | 8 => fun v _ => v = .int .i64 2
  | _ => fun _ _ => True
def ErA.P : Nat → Value → Prop
  | 3 => fun v => ∃ y, v = .tuple #[y, .int .i64 2]
  | 5 => fun v => v = .int .i64 2
  | 8 => fun v => v = .int .i64 2
  | _ => fun _ => True
theorem ErA.keep (gf gz gd B : Nat) : ∀ k v w w', Below w.heap.size w w' → ErA.F gf gz gd B k v w → ErA.F gf gz gd B k v w' := by
  intro k v w w' hb h
  match k, h with
  | 0, h => exact h
  | 1, ⟨g, e, h1⟩ => exact ⟨g, e, h1.keep hb⟩
  | 2, h => exact h
  | 3, h => exact h
  | 4, h => exact h
  | 5, h => exact h
  | 6, ⟨g, e, hg, h1⟩ => exact ⟨g, e, hg, h1.keep hb⟩
  | 7, _ => trivial
  | 8, h => exact h
  | n + 9, _ => trivial
theorem ErA.val (gf gz gd B : Nat) : ∀ k v w, ErA.F gf gz gd B k v w → ErA.P k v := by
  intro k v w h
  match k, h with
  | 0, _ => trivial
  | 1, _ => trivial
  | 2, _ => trivial
  | 3, ⟨S, N, G, c1, c2, c3, e⟩ => exact ⟨_, e⟩
  | 4, _ => trivial
  | 5, h => exact h
  | 6, _ => trivial
  | 7, _ => trivial
  | 8, h => exact h
  | n + 9, _ => trivial
def ErA.E (w0 : World) (val : Nat → Value) (w : World) : Prop := (∃ g, val 6 = .pointer (some ⟨g, 0, none⟩)) ∧ Below w0.heap.size w0 w
theorem ErA.upd (w0 : World) : ∀ val i v w, (i == 5 || i == 8) = true → ErA.E w0 val w → ErA.E w0 (upd val i v) w := by
  rintro val i v w hi ⟨⟨g, e⟩, h⟩
  have hne : 6 ≠ i := by
    simp only [Bool.or_eq_true, beq_iff_eq] at hi
    omega
  exact ⟨⟨g, by rw [upd_ne _ hne]; exact e⟩, h⟩
def ErB.F (gf gz gd B : Nat) : Nat → Value → World → Prop
  | 0 => fun v w => v = .agg #[.slice (some ⟨gf, 0, none⟩) 1 1, .slice (some ⟨gz, 0, none⟩) 1 1, .slice none 0 0]
  | 1 => fun v w => v = .slice (some ⟨gd, 0, none⟩) 12 12
  | 2 => fun v w => v = .pointer (some ⟨gd, 0, none⟩)
  | 3 => fun v w => v = .agg #[.slice none 0 0, .slice none 0 0, .slice none 0 0]
  | 4 => fun v _ => ∃ S N G c1 c2 c3, v = .tuple #[.agg #[.slice S 0 c1, .slice N 0 c2, .slice G 0 c3], .int .i64 8]
  | 5 => fun v _ => ∃ S N G c1 c2 c3, v = .tuple #[.agg #[.slice S 0 c1, .slice N 0 c2, .slice G 0 c3], .int .i64 8]
  | 6 => fun v _ => ∃ S N G c1 c2 c3, v = .agg #[.slice S 0 c1, .slice N 0 c2, .slice G 0 c3]
  | 7 => fun v _ => v = .int .i64 8
  | 8 => fun v w => ∃ g, v = .pointer (some ⟨g, 0, none⟩) ∧ B ≤ g ∧ Blk w g 25 #[.slice none 0 0, .slice none 0 0, .slice none 0 0]
  | 10 => fun v _ => v = .int .i64 8
  | _ => fun _ _ => True
def ErB.P : Nat → Value → Prop
  | 5 => fun v => ∃ y, v = .tuple #[y, .int .i64 8]
  | 7 => fun v => v = .int .i64 8
  | 10 => fun v => v = .int .i64 8
  | _ => fun _ => True
theorem ErB.keep (gf gz gd B : Nat) : ∀ k v w w', Below w.heap.size w w' → ErB.F gf gz gd B k v w → ErB.F gf gz gd B k v w' := by
  intro k v w w' hb h
  match k, h with
  | 0, h => exact h
  | 1, h => exact h
  | 2, h => exact h
  | 3, h => exact h
  | 4, h => exact h
  | 5, h => exact h
  | 6, h => exact h
  | 7, h => exact h
  | 8, ⟨g, e, hg, h1⟩ => exact ⟨g, e, hg, h1.keep hb⟩
  | 9, _ => trivial
  | 10, h => exact h
  | n + 11, _ => trivial
theorem ErB.val (gf gz gd B : Nat) : ∀ k v w, ErB.F gf gz gd B k v w → ErB.P k v := by
  intro k v w h
  match k, h with
  | 0, _ => trivial
  | 1, _ => trivial
  | 2, _ => trivial
  | 3, _ => trivial
  | 4, _ => trivial
  | 5, ⟨S, N, G, c1, c2, c3, e⟩ => exact ⟨_, e⟩
  | 6, _ => trivial
  | 7, h => exact h
  | 8, _ => trivial
  | 9, _ => trivial
  | 10, h => exact h
  | n + 11, _ => trivial
def ErB.E (w0 : World) (val : Nat → Value) (w : World) : Prop := (∃ g, val 8 = .pointer (some ⟨g, 0, none⟩)) ∧ Below w0.heap.size w0 w
theorem ErB.upd (w0 : World) : ∀ val i v w, (i == 7 || i == 10) = true → ErB.E w0 val w → ErB.E w0 (upd val i v) w := by
  rintro val i v w hi ⟨⟨g, e⟩, h⟩
  have hne : 8 ≠ i := by
    simp only [Bool.or_eq_true, beq_iff_eq] at hi
    omega
  exact ⟨⟨g, by rw [upd_ne _ hne]; exact e⟩, h⟩
set_option maxRecDepth 100000 in
set_option maxHeartbeats 200000000 in
theorem accumNames_walk (w : World) : Calls Try.prog 5 #[] w fun e w' => e = .returned (.bool true) ∧ Below w.heap.size w w' := by
  have m1 := mkC2
  have m2 := mkC512
  have m3 := mkG65
  have m4 := mkL3
  go_enter Try.func5, Try.ntmps5
  go_upto_region 3 with (fail)
  obtain ⟨W3, hW3⟩ : ∃ W3, W3 = ((w.alloc (.cells #[.int .i64 0, .int .i64 0] 60)).alloc (.cells #[.int .i64 999999999, .int .i64 999999999] 60)).alloc (.cells #[.slice (some ⟨w.heap.size + 1, 0, none⟩) 1 1, .slice (some ⟨w.heap.size, 0, none⟩) 1 1, .slice none 0 0] 25) := ⟨_, rfl⟩
  have hz : RL W3 (some ⟨w.heap.size, 0, none⟩) [(0, 0)] := by rw [hW3]; exact RL_lit [(0, 0)] _ (((Blk.new w 60 #[.int .i64 0, .int .i64 0]).alloc _).alloc _) rfl
  have hf : RL W3 (some ⟨w.heap.size + 1, 0, none⟩) [(999999999, 999999999)] := by rw [hW3]; exact RL_lit [(999999999, 999999999)] _ ((Blk.newAt (w := w.alloc (.cells #[.int .i64 0, .int .i64 0] 60)) (g := w.heap.size + 1) 60 #[.int .i64 999999999, .int .i64 999999999] (by simp)).alloc _) rfl
  have hbx : Blk W3 (w.heap.size + 1 + 1) 25 #[.slice (some ⟨w.heap.size + 1, 0, none⟩) 1 1, .slice (some ⟨w.heap.size, 0, none⟩) 1 1, .slice none 0 0] := by rw [hW3]; exact Blk.newAt (w := (w.alloc (.cells #[.int .i64 0, .int .i64 0] 60)).alloc (.cells #[.int .i64 999999999, .int .i64 999999999] 60)) (g := w.heap.size + 1 + 1) 25 _ (by simp)
  have hB : Below w.heap.size w W3 := by rw [hW3]; exact balloc (balloc (balloc (Below.refl _ _) _) _) _
  rw [← hW3]
  clear hW3
  obtain ⟨gb, hgb⟩ : ∃ gb, gb = w.heap.size + 1 + 1 := ⟨_, rfl⟩
  rw [← hgb] at hbx ⊢
  clear hgb
  obtain ⟨gf, hgf⟩ : ∃ gf, gf = w.heap.size + 1 := ⟨_, rfl⟩
  rw [← hgf] at hf hbx
  clear hgf
  obtain ⟨gz, hgz⟩ : ∃ gz, gz = w.heap.size := ⟨_, rfl⟩
  rw [← hgz] at hz hbx ⊢
  clear hgz
  go_cut [3] from 55 to 55 (fun sa wc => ∃ g, sa = .slice (some ⟨g, 0, none⟩) 12 12 ∧ BadsA g wc ∧ Below W3.heap.size W3 wc)
  case first =>
      refine wp_region_grow (by kernel_rfl) (by kernel_rfl) (by kernel_rfl) (BadP gz) (BadP.keep gz) ⟨?_, ?_, ?_, ?_, ?_, ?_, ?_, ?_, ?_, ?_, ?_, ?_, ?_, ?_, ?_, ?_, ?_, ?_, ?_, ?_, ?_, ?_, ?_, ?_, ?_, ?_, ?_, ?_, ?_, ?_, ?_, ?_, ?_, ?_, ?_, ?_, ?_, ?_, ?_, ?_, ?_, ?_, ?_, ?_, ?_, ?_, ?_, ?_, ?_, trivial⟩ ?_
      · intro val a w9 hb9 hdep hold K hK
        clear hdep hold
        go_simp
        exact hK _ _ (Below.refl _ _) rfl
      · intro val a w9 hb9 hdep hold K hK
        have b1 : a.tmps[1]?.getD undef = .slice (some ⟨gz, 0, none⟩) 1 1 := ev_tmps ((hold 1 (by rfl)).trans (by rfl))
        clear hdep hold
        go_simp
        exact hK _ _ (Below.refl _ _) rfl
      · intro val a w9 hb9 hdep hold K hK
        have b1 := ev_tmps ((hdep 1 56 _ rfl rfl rfl).1.trans (hdep 1 56 _ rfl rfl rfl).2)
        clear hdep hold
        go_simp
        exact hK _ _ (Below.refl _ _) rfl
      · intro val a w9 hb9 hdep hold K hK
        clear hdep hold
        go_simp
        exact hK _ _ (balloc (Below.refl _ _) _) ⟨_, rfl, zC_RL (Blk.new _ _ _)⟩
      · intro val a w9 hb9 hdep hold K hK
        clear hdep hold
        go_simp
        exact hK _ _ (balloc (Below.refl _ _) _) ⟨_, rfl, zC_RL (Blk.new _ _ _)⟩
      · intro val a w9 hb9 hdep hold K hK
        obtain ⟨b0, h3, e0, r3⟩ := hdep 3 58 _ rfl rfl rfl
        replace b0 := ev_tmps (b0.trans e0)
        clear e0
        obtain ⟨b1, h4, e1, r4⟩ := hdep 4 59 _ rfl rfl rfl
        replace b1 := ev_tmps (b1.trans e1)
        clear e1
        clear hdep hold
        go_simp
        exact hK _ _ (Below.refl _ _) ⟨_, _, rfl, r3, r4⟩
      · intro val a w9 hb9 hdep hold K hK
        have b1 : a.tmps[1]?.getD undef = .slice (some ⟨gz, 0, none⟩) 1 1 := ev_tmps ((hold 1 (by rfl)).trans (by rfl))
        clear hdep hold
        go_simp
        exact hK _ _ (Below.refl _ _) rfl
      · intro val a w9 hb9 hdep hold K hK
        clear hdep hold
        go_simp
        exact hK _ _ (Below.refl _ _) rfl
      · intro val a w9 hb9 hdep hold K hK
        have b0 := ev_tmps ((hdep 7 62 _ rfl rfl rfl).1.trans (hdep 7 62 _ rfl rfl rfl).2)
        clear hdep hold
        go_simp
        exact hK _ _ (balloc (Below.refl _ _) _) ⟨_, rfl, RL_lit [(-1, 0)] _ (Blk.new _ _ _) rfl⟩
      · intro val a w9 hb9 hdep hold K hK
        have b0 := ev_tmps ((hdep 6 61 _ rfl rfl rfl).1.trans (hdep 6 61 _ rfl rfl rfl).2)
        obtain ⟨b1, h8, e1, r8⟩ := hdep 8 63 _ rfl rfl rfl
        replace b1 := ev_tmps (b1.trans e1)
        clear e1
        clear hdep hold
        go_simp
        exact hK _ _ (Below.refl _ _) ⟨_, rfl, r8⟩
      · intro val a w9 hb9 hdep hold K hK
        clear hdep hold
        go_simp
        exact hK _ _ (Below.refl _ _) rfl
      · intro val a w9 hb9 hdep hold K hK
        have b0 := ev_tmps ((hdep 10 65 _ rfl rfl rfl).1.trans (hdep 10 65 _ rfl rfl rfl).2)
        clear hdep hold
        go_simp
        exact hK _ _ (balloc (Below.refl _ _) _) ⟨_, rfl, RL_lit [(0, -1)] _ (Blk.new _ _ _) rfl⟩
      · intro val a w9 hb9 hdep hold K hK
        have b1 : a.tmps[1]?.getD undef = .slice (some ⟨gz, 0, none⟩) 1 1 := ev_tmps ((hold 1 (by rfl)).trans (by rfl))
        clear hdep hold
        go_simp
        exact hK _ _ (Below.refl _ _) rfl
      · intro val a w9 hb9 hdep hold K hK
        obtain ⟨b0, h11, e0, r11⟩ := hdep 11 66 _ rfl rfl rfl
        replace b0 := ev_tmps (b0.trans e0)
        clear e0
        have b1 := ev_tmps ((hdep 12 67 _ rfl rfl rfl).1.trans (hdep 12 67 _ rfl rfl rfl).2)
        clear hdep hold
        go_simp
        exact hK _ _ (Below.refl _ _) ⟨_, rfl, r11⟩
      · intro val a w9 hb9 hdep hold K hK
        clear hdep hold
        go_simp
        exact hK _ _ (Below.refl _ _) rfl
      · intro val a w9 hb9 hdep hold K hK
        have b0 := ev_tmps ((hdep 14 69 _ rfl rfl rfl).1.trans (hdep 14 69 _ rfl rfl rfl).2)
        clear hdep hold
        go_simp
        exact hK _ _ (balloc (Below.refl _ _) _) ⟨_, rfl, RL_lit [(0, 1000000000)] _ (Blk.new _ _ _) rfl⟩
      · intro val a w9 hb9 hdep hold K hK
        have b1 : a.tmps[1]?.getD undef = .slice (some ⟨gz, 0, none⟩) 1 1 := ev_tmps ((hold 1 (by rfl)).trans (by rfl))
        clear hdep hold
        go_simp
        exact hK _ _ (Below.refl _ _) rfl
      · intro val a w9 hb9 hdep hold K hK
        obtain ⟨b0, h15, e0, r15⟩ := hdep 15 70 _ rfl rfl rfl
        replace b0 := ev_tmps (b0.trans e0)
        clear e0
        have b1 := ev_tmps ((hdep 16 71 _ rfl rfl rfl).1.trans (hdep 16 71 _ rfl rfl rfl).2)
        clear hdep hold
        go_simp
        exact hK _ _ (Below.refl _ _) ⟨_, rfl, r15⟩
      · intro val a w9 hb9 hdep hold K hK
        clear hdep hold
        go_simp
        exact hK _ _ (Below.refl _ _) rfl
      · intro val a w9 hb9 hdep hold K hK
        have b0 := ev_tmps ((hdep 18 73 _ rfl rfl rfl).1.trans (hdep 18 73 _ rfl rfl rfl).2)
        clear hdep hold
        go_simp
        exact hK _ _ (balloc (Below.refl _ _) _) ⟨_, rfl, RL_lit [(1000000000, 0)] _ (Blk.new _ _ _) rfl⟩
      · intro val a w9 hb9 hdep hold K hK
        have b1 : a.tmps[1]?.getD undef = .slice (some ⟨gz, 0, none⟩) 1 1 := ev_tmps ((hold 1 (by rfl)).trans (by rfl))
        clear hdep hold
        go_simp
        exact hK _ _ (Below.refl _ _) rfl
      · intro val a w9 hb9 hdep hold K hK
        obtain ⟨b0, h19, e0, r19⟩ := hdep 19 74 _ rfl rfl rfl
        replace b0 := ev_tmps (b0.trans e0)
        clear e0
        have b1 := ev_tmps ((hdep 20 75 _ rfl rfl rfl).1.trans (hdep 20 75 _ rfl rfl rfl).2)
        clear hdep hold
        go_simp
        exact hK _ _ (Below.refl _ _) ⟨_, rfl, r19⟩
      · intro val a w9 hb9 hdep hold K hK
        clear hdep hold
        go_simp
        exact hK _ _ (Below.refl _ _) rfl
      · intro val a w9 hb9 hdep hold K hK
        have b0 := ev_tmps ((hdep 22 77 _ rfl rfl rfl).1.trans (hdep 22 77 _ rfl rfl rfl).2)
        clear hdep hold
        go_simp
        exact hK _ _ (balloc (Below.refl _ _) _) ⟨_, rfl, RL_lit [(-1000000001, 0)] _ (Blk.new _ _ _) rfl⟩
      · intro val a w9 hb9 hdep hold K hK
        have b1 : a.tmps[1]?.getD undef = .slice (some ⟨gz, 0, none⟩) 1 1 := ev_tmps ((hold 1 (by rfl)).trans (by rfl))
        clear hdep hold
        go_simp
        exact hK _ _ (Below.refl _ _) rfl
      · intro val a w9 hb9 hdep hold K hK
        obtain ⟨b0, h23, e0, r23⟩ := hdep 23 78 _ rfl rfl rfl
        replace b0 := ev_tmps (b0.trans e0)
        clear e0
        have b1 := ev_tmps ((hdep 24 79 _ rfl rfl rfl).1.trans (hdep 24 79 _ rfl rfl rfl).2)
        clear hdep hold
        go_simp
        exact hK _ _ (Below.refl _ _) ⟨_, rfl, r23⟩
      · intro val a w9 hb9 hdep hold K hK
        have b1 : a.tmps[1]?.getD undef = .slice (some ⟨gz, 0, none⟩) 1 1 := ev_tmps ((hold 1 (by rfl)).trans (by rfl))
        clear hdep hold
        go_simp
        exact hK _ _ (Below.refl _ _) rfl
      · intro val a w9 hb9 hdep hold K hK
        have b1 : a.tmps[1]?.getD undef = .slice (some ⟨gz, 0, none⟩) 1 1 := ev_tmps ((hold 1 (by rfl)).trans (by rfl))
        clear hdep hold
        go_simp
        exact hK _ _ (Below.refl _ _) rfl
      · intro val a w9 hb9 hdep hold K hK
        clear hdep hold
        go_simp
        exact hK _ _ (Below.refl _ _) rfl
      · intro val a w9 hb9 hdep hold K hK
        have b0 := ev_tmps ((hdep 28 83 _ rfl rfl rfl).1.trans (hdep 28 83 _ rfl rfl rfl).2)
        clear hdep hold
        go_simp
        exact hK _ _ (balloc (Below.refl _ _) _) ⟨_, rfl, RL_lit [(0, 0)] _ (Blk.new _ _ _) rfl⟩
      · intro val a w9 hb9 hdep hold K hK
        have b0 := ev_tmps ((hdep 26 81 _ rfl rfl rfl).1.trans (hdep 26 81 _ rfl rfl rfl).2)
        have b1 := ev_tmps ((hdep 27 82 _ rfl rfl rfl).1.trans (hdep 27 82 _ rfl rfl rfl).2)
        obtain ⟨b2, h29, e2, r29⟩ := hdep 29 84 _ rfl rfl rfl
        replace b2 := ev_tmps (b2.trans e2)
        clear e2
        clear hdep hold
        go_simp
        exact hK _ _ (Below.refl _ _) ⟨_, rfl, r29⟩
      · intro val a w9 hb9 hdep hold K hK
        have b1 : a.tmps[1]?.getD undef = .slice (some ⟨gz, 0, none⟩) 1 1 := ev_tmps ((hold 1 (by rfl)).trans (by rfl))
        clear hdep hold
        go_simp
        exact hK _ _ (Below.refl _ _) rfl
      · intro val a w9 hb9 hdep hold K hK
        have b1 : a.tmps[1]?.getD undef = .slice (some ⟨gz, 0, none⟩) 1 1 := ev_tmps ((hold 1 (by rfl)).trans (by rfl))
        clear hdep hold
        go_simp
        exact hK _ _ (Below.refl _ _) rfl
      · intro val a w9 hb9 hdep hold K hK
        clear hdep hold
        go_simp
        exact hK _ _ (Below.refl _ _) rfl
      · intro val a w9 hb9 hdep hold K hK
        clear hdep hold
        go_simp
        exact hK _ _ (Below.refl _ _) rfl
      · intro val a w9 hb9 hdep hold K hK
        have b0 := ev_tmps ((hdep 33 88 _ rfl rfl rfl).1.trans (hdep 33 88 _ rfl rfl rfl).2)
        have b1 := ev_tmps ((hdep 34 89 _ rfl rfl rfl).1.trans (hdep 34 89 _ rfl rfl rfl).2)
        clear hdep hold
        go_simp
        exact hK _ _ (balloc (Below.refl _ _) _) ⟨_, rfl, RL_lit [(0, 2), (2, 1)] _ (Blk.new _ _ _) rfl⟩
      · intro val a w9 hb9 hdep hold K hK
        have b0 := ev_tmps ((hdep 31 86 _ rfl rfl rfl).1.trans (hdep 31 86 _ rfl rfl rfl).2)
        have b1 := ev_tmps ((hdep 32 87 _ rfl rfl rfl).1.trans (hdep 32 87 _ rfl rfl rfl).2)
        obtain ⟨b2, h35, e2, r35⟩ := hdep 35 90 _ rfl rfl rfl
        replace b2 := ev_tmps (b2.trans e2)
        clear e2
        clear hdep hold
        go_simp
        exact hK _ _ (Below.refl _ _) ⟨_, rfl, r35⟩
      · intro val a w9 hb9 hdep hold K hK
        have b1 : a.tmps[1]?.getD undef = .slice (some ⟨gz, 0, none⟩) 1 1 := ev_tmps ((hold 1 (by rfl)).trans (by rfl))
        clear hdep hold
        go_simp
        exact hK _ _ (Below.refl _ _) rfl
      · intro val a w9 hb9 hdep hold K hK
        have b1 : a.tmps[1]?.getD undef = .slice (some ⟨gz, 0, none⟩) 1 1 := ev_tmps ((hold 1 (by rfl)).trans (by rfl))
        clear hdep hold
        go_simp
        exact hK _ _ (Below.refl _ _) rfl
      · intro val a w9 hb9 hdep hold K hK
        clear hdep hold
        go_simp
        exact hK _ _ (Below.refl _ _) rfl
      · intro val a w9 hb9 hdep hold K hK
        have b0 := ev_tmps ((hdep 39 94 _ rfl rfl rfl).1.trans (hdep 39 94 _ rfl rfl rfl).2)
        clear hdep hold
        go_simp
        exact hK _ _ (balloc (Below.refl _ _) _) ⟨_, rfl, RL_lit [(-1, 1)] _ (Blk.new _ _ _) rfl⟩
      · intro val a w9 hb9 hdep hold K hK
        have b0 := ev_tmps ((hdep 37 92 _ rfl rfl rfl).1.trans (hdep 37 92 _ rfl rfl rfl).2)
        have b1 := ev_tmps ((hdep 38 93 _ rfl rfl rfl).1.trans (hdep 38 93 _ rfl rfl rfl).2)
        obtain ⟨b2, h40, e2, r40⟩ := hdep 40 95 _ rfl rfl rfl
        replace b2 := ev_tmps (b2.trans e2)
        clear e2
        clear hdep hold
        go_simp
        exact hK _ _ (Below.refl _ _) ⟨_, rfl, r40⟩
      · intro val a w9 hb9 hdep hold K hK
        have b1 : a.tmps[1]?.getD undef = .slice (some ⟨gz, 0, none⟩) 1 1 := ev_tmps ((hold 1 (by rfl)).trans (by rfl))
        clear hdep hold
        go_simp
        exact hK _ _ (Below.refl _ _) rfl
      · intro val a w9 hb9 hdep hold K hK
        have b1 : a.tmps[1]?.getD undef = .slice (some ⟨gz, 0, none⟩) 1 1 := ev_tmps ((hold 1 (by rfl)).trans (by rfl))
        clear hdep hold
        go_simp
        exact hK _ _ (Below.refl _ _) rfl
      · intro val a w9 hb9 hdep hold K hK
        clear hdep hold
        go_simp
        exact hK _ _ (Below.refl _ _) rfl
      · intro val a w9 hb9 hdep hold K hK
        have b0 := ev_tmps ((hdep 44 99 _ rfl rfl rfl).1.trans (hdep 44 99 _ rfl rfl rfl).2)
        clear hdep hold
        go_simp
        exact hK _ _ (balloc (Below.refl _ _) _) ⟨_, rfl, RL_lit [(1000000000, 1)] _ (Blk.new _ _ _) rfl⟩
      · intro val a w9 hb9 hdep hold K hK
        have b0 := ev_tmps ((hdep 42 97 _ rfl rfl rfl).1.trans (hdep 42 97 _ rfl rfl rfl).2)
        have b1 := ev_tmps ((hdep 43 98 _ rfl rfl rfl).1.trans (hdep 43 98 _ rfl rfl rfl).2)
        obtain ⟨b2, h45, e2, r45⟩ := hdep 45 100 _ rfl rfl rfl
        replace b2 := ev_tmps (b2.trans e2)
        clear e2
        clear hdep hold
        go_simp
        exact hK _ _ (Below.refl _ _) ⟨_, rfl, r45⟩
      · intro val a w9 hb9 hdep hold K hK
        have b0 := (hdep 0 55 _ rfl rfl rfl).1.trans (hdep 0 55 _ rfl rfl rfl).2
        have b1 := (hdep 2 57 _ rfl rfl rfl).1.trans (hdep 2 57 _ rfl rfl rfl).2
        obtain ⟨b2, h3, h4, e2, r3, r4⟩ := hdep 5 60 _ rfl rfl rfl
        replace b2 := b2.trans e2
        clear e2
        obtain ⟨b3, h8, e3, r8⟩ := hdep 9 64 _ rfl rfl rfl
        replace b3 := b3.trans e3
        clear e3
        obtain ⟨b4, h11, e4, r11⟩ := hdep 13 68 _ rfl rfl rfl
        replace b4 := b4.trans e4
        clear e4
        obtain ⟨b5, h15, e5, r15⟩ := hdep 17 72 _ rfl rfl rfl
        replace b5 := b5.trans e5
        clear e5
        obtain ⟨b6, h19, e6, r19⟩ := hdep 21 76 _ rfl rfl rfl
        replace b6 := b6.trans e6
        clear e6
        obtain ⟨b7, h23, e7, r23⟩ := hdep 25 80 _ rfl rfl rfl
        replace b7 := b7.trans e7
        clear e7
        obtain ⟨b8, h29, e8, r29⟩ := hdep 30 85 _ rfl rfl rfl
        replace b8 := b8.trans e8
        clear e8
        obtain ⟨b9, h35, e9, r35⟩ := hdep 36 91 _ rfl rfl rfl
        replace b9 := b9.trans e9
        clear e9
        obtain ⟨b10, h40, e10, r40⟩ := hdep 41 96 _ rfl rfl rfl
        replace b10 := b10.trans e10
        clear e10
        obtain ⟨b11, h45, e11, r45⟩ := hdep 46 101 _ rfl rfl rfl
        replace b11 := b11.trans e11
        clear e11
        have hz9 := hz.keep hb9
        obtain ⟨i0, hi0, hz0, hz1, hz2⟩ := info_parts info_acc
        clear hdep hold hz
        rw [if_pos (by rfl)]
        have ha : Below w9.heap.size w9 (w9.alloc (.cells #[.slice none 0 0, .slice none 0 0, .slice none 0 0, .slice (some ⟨gz, 0, none⟩) 1 1, .slice none 0 0, .slice none 0 0, .slice (some ⟨h3, 0, none⟩) 2 2, .slice (some ⟨h4, 0, none⟩) 2 2, .slice none 0 0, .slice (some ⟨gz, 0, none⟩) 1 1, .slice (some ⟨h8, 0, none⟩) 1 1, .slice none 0 0, .slice (some ⟨h11, 0, none⟩) 1 1, .slice (some ⟨gz, 0, none⟩) 1 1, .slice none 0 0, .slice (some ⟨h15, 0, none⟩) 1 1, .slice (some ⟨gz, 0, none⟩) 1 1, .slice none 0 0, .slice (some ⟨h19, 0, none⟩) 1 1, .slice (some ⟨gz, 0, none⟩) 1 1, .slice none 0 0, .slice (some ⟨h23, 0, none⟩) 1 1, .slice (some ⟨gz, 0, none⟩) 1 1, .slice none 0 0, .slice (some ⟨gz, 0, none⟩) 1 1, .slice (some ⟨gz, 0, none⟩) 1 1, .slice (some ⟨h29, 0, none⟩) 1 1, .slice (some ⟨gz, 0, none⟩) 1 1, .slice (some ⟨gz, 0, none⟩) 1 1, .slice (some ⟨h35, 0, none⟩) 2 2, .slice (some ⟨gz, 0, none⟩) 1 1, .slice (some ⟨gz, 0, none⟩) 1 1, .slice (some ⟨h40, 0, none⟩) 1 1, .slice (some ⟨gz, 0, none⟩) 1 1, .slice (some ⟨gz, 0, none⟩) 1 1, .slice (some ⟨h45, 0, none⟩) 1 1] 25)) := balloc (Below.refl _ _) _
        have hk := Blk.new w9 25 #[.slice none 0 0, .slice none 0 0, .slice none 0 0, .slice (some ⟨gz, 0, none⟩) 1 1, .slice none 0 0, .slice none 0 0, .slice (some ⟨h3, 0, none⟩) 2 2, .slice (some ⟨h4, 0, none⟩) 2 2, .slice none 0 0, .slice (some ⟨gz, 0, none⟩) 1 1, .slice (some ⟨h8, 0, none⟩) 1 1, .slice none 0 0, .slice (some ⟨h11, 0, none⟩) 1 1, .slice (some ⟨gz, 0, none⟩) 1 1, .slice none 0 0, .slice (some ⟨h15, 0, none⟩) 1 1, .slice (some ⟨gz, 0, none⟩) 1 1, .slice none 0 0, .slice (some ⟨h19, 0, none⟩) 1 1, .slice (some ⟨gz, 0, none⟩) 1 1, .slice none 0 0, .slice (some ⟨h23, 0, none⟩) 1 1, .slice (some ⟨gz, 0, none⟩) 1 1, .slice none 0 0, .slice (some ⟨gz, 0, none⟩) 1 1, .slice (some ⟨gz, 0, none⟩) 1 1, .slice (some ⟨h29, 0, none⟩) 1 1, .slice (some ⟨gz, 0, none⟩) 1 1, .slice (some ⟨gz, 0, none⟩) 1 1, .slice (some ⟨h35, 0, none⟩) 2 2, .slice (some ⟨gz, 0, none⟩) 1 1, .slice (some ⟨gz, 0, none⟩) 1 1, .slice (some ⟨h40, 0, none⟩) 1 1, .slice (some ⟨gz, 0, none⟩) 1 1, .slice (some ⟨gz, 0, none⟩) 1 1, .slice (some ⟨h45, 0, none⟩) 1 1]
        refine wp_buildSlice 63 25 12 _ rfl #[.slice none 0 0, .slice none 0 0, .slice none 0 0, .slice (some ⟨gz, 0, none⟩) 1 1, .slice none 0 0, .slice none 0 0, .slice (some ⟨h3, 0, none⟩) 2 2, .slice (some ⟨h4, 0, none⟩) 2 2, .slice none 0 0, .slice (some ⟨gz, 0, none⟩) 1 1, .slice (some ⟨h8, 0, none⟩) 1 1, .slice none 0 0, .slice (some ⟨h11, 0, none⟩) 1 1, .slice (some ⟨gz, 0, none⟩) 1 1, .slice none 0 0, .slice (some ⟨h15, 0, none⟩) 1 1, .slice (some ⟨gz, 0, none⟩) 1 1, .slice none 0 0, .slice (some ⟨h19, 0, none⟩) 1 1, .slice (some ⟨gz, 0, none⟩) 1 1, .slice none 0 0, .slice (some ⟨h23, 0, none⟩) 1 1, .slice (some ⟨gz, 0, none⟩) 1 1, .slice none 0 0, .slice (some ⟨gz, 0, none⟩) 1 1, .slice (some ⟨gz, 0, none⟩) 1 1, .slice (some ⟨h29, 0, none⟩) 1 1, .slice (some ⟨gz, 0, none⟩) 1 1, .slice (some ⟨gz, 0, none⟩) 1 1, .slice (some ⟨h35, 0, none⟩) 2 2, .slice (some ⟨gz, 0, none⟩) 1 1, .slice (some ⟨gz, 0, none⟩) 1 1, .slice (some ⟨h40, 0, none⟩) 1 1, .slice (some ⟨gz, 0, none⟩) 1 1, .slice (some ⟨gz, 0, none⟩) 1 1, .slice (some ⟨h45, 0, none⟩) 1 1] i0 _ Try.underlying63 hi0 hz0 (by rw [hz1]; omega) (by rw [hz1]; omega) ?_ (hK _ _ ha ⟨_, rfl, ?_⟩)
        · rw [hz1]
          simp only [List.map_toArray, List.map_cons, List.map_nil, b0, b1, b2, b3, b4, b5, b6, b7, b8, b9, b10, b11]
          exact (Great.fill_whole (s := 3) (by omega) [.agg #[.slice none 0 0, .slice none 0 0, .slice none 0 0], .agg #[.slice (some ⟨gz, 0, none⟩) 1 1, .slice none 0 0, .slice none 0 0], .agg #[.slice (some ⟨h3, 0, none⟩) 2 2, .slice (some ⟨h4, 0, none⟩) 2 2, .slice none 0 0], .agg #[.slice (some ⟨gz, 0, none⟩) 1 1, .slice (some ⟨h8, 0, none⟩) 1 1, .slice none 0 0], .agg #[.slice (some ⟨h11, 0, none⟩) 1 1, .slice (some ⟨gz, 0, none⟩) 1 1, .slice none 0 0], .agg #[.slice (some ⟨h15, 0, none⟩) 1 1, .slice (some ⟨gz, 0, none⟩) 1 1, .slice none 0 0], .agg #[.slice (some ⟨h19, 0, none⟩) 1 1, .slice (some ⟨gz, 0, none⟩) 1 1, .slice none 0 0], .agg #[.slice (some ⟨h23, 0, none⟩) 1 1, .slice (some ⟨gz, 0, none⟩) 1 1, .slice none 0 0], .agg #[.slice (some ⟨gz, 0, none⟩) 1 1, .slice (some ⟨gz, 0, none⟩) 1 1, .slice (some ⟨h29, 0, none⟩) 1 1], .agg #[.slice (some ⟨gz, 0, none⟩) 1 1, .slice (some ⟨gz, 0, none⟩) 1 1, .slice (some ⟨h35, 0, none⟩) 2 2], .agg #[.slice (some ⟨gz, 0, none⟩) 1 1, .slice (some ⟨gz, 0, none⟩) 1 1, .slice (some ⟨h40, 0, none⟩) 1 1], .agg #[.slice (some ⟨gz, 0, none⟩) 1 1, .slice (some ⟨gz, 0, none⟩) 1 1, .slice (some ⟨h45, 0, none⟩) 1 1]] _ (by intro v hv; simp only [List.mem_cons, List.not_mem_nil, or_false] at hv; rcases hv with rfl | rfl | rfl | rfl | rfl | rfl | rfl | rfl | rfl | rfl | rfl | rfl <;> rfl) (by simp)).trans (congrArg some (by rfl))
        refine ⟨fun k hk2 => ?_, ⟨hk.cell 0, hk.cell 1, hk.cell 2⟩, hk.lt⟩
        rcases (show k = 0 ∨ k = 1 ∨ k = 2 ∨ k = 3 ∨ k = 4 ∨ k = 5 ∨ k = 6 ∨ k = 7 ∨ k = 8 ∨ k = 9 ∨ k = 10 ∨ k = 11 by omega) with rfl | rfl | rfl | rfl | rfl | rfl | rfl | rfl | rfl | rfl | rfl | rfl
        · exact ⟨_, _, _, _, _, _, _, _, _, ⟨[], [], []⟩, hk.cell 0, hk.cell 1, hk.cell 2, ⟨RL.nil, RL.nil, RL.nil⟩, rfl, rfl, rfl, by omega, by omega, by omega, badA0⟩
        · exact ⟨_, _, _, _, _, _, _, _, _, ⟨[(0, 0)], [], []⟩, hk.cell 3, hk.cell 4, hk.cell 5, ⟨hz9.keep ha, RL.nil, RL.nil⟩, rfl, rfl, rfl, by omega, by omega, by omega, badA1⟩
        · exact ⟨_, _, _, _, _, _, _, _, _, ⟨[(0, 0), (0, 0)], [(0, 0), (0, 0)], []⟩, hk.cell 6, hk.cell 7, hk.cell 8, ⟨r3.keep ha, r4.keep ha, RL.nil⟩, rfl, rfl, rfl, by omega, by omega, by omega, badA2⟩
        · exact ⟨_, _, _, _, _, _, _, _, _, ⟨[(0, 0)], [(-1, 0)], []⟩, hk.cell 9, hk.cell 10, hk.cell 11, ⟨hz9.keep ha, r8.keep ha, RL.nil⟩, rfl, rfl, rfl, by omega, by omega, by omega, badA3⟩
        · exact ⟨_, _, _, _, _, _, _, _, _, ⟨[(0, -1)], [(0, 0)], []⟩, hk.cell 12, hk.cell 13, hk.cell 14, ⟨r11.keep ha, hz9.keep ha, RL.nil⟩, rfl, rfl, rfl, by omega, by omega, by omega, badA4⟩
        · exact ⟨_, _, _, _, _, _, _, _, _, ⟨[(0, 1000000000)], [(0, 0)], []⟩, hk.cell 15, hk.cell 16, hk.cell 17, ⟨r15.keep ha, hz9.keep ha, RL.nil⟩, rfl, rfl, rfl, by omega, by omega, by omega, badA5⟩
        · exact ⟨_, _, _, _, _, _, _, _, _, ⟨[(1000000000, 0)], [(0, 0)], []⟩, hk.cell 18, hk.cell 19, hk.cell 20, ⟨r19.keep ha, hz9.keep ha, RL.nil⟩, rfl, rfl, rfl, by omega, by omega, by omega, badA6⟩
        · exact ⟨_, _, _, _, _, _, _, _, _, ⟨[(-1000000001, 0)], [(0, 0)], []⟩, hk.cell 21, hk.cell 22, hk.cell 23, ⟨r23.keep ha, hz9.keep ha, RL.nil⟩, rfl, rfl, rfl, by omega, by omega, by omega, badA7⟩
        · exact ⟨_, _, _, _, _, _, _, _, _, ⟨[(0, 0)], [(0, 0)], [(0, 0)]⟩, hk.cell 24, hk.cell 25, hk.cell 26, ⟨hz9.keep ha, hz9.keep ha, r29.keep ha⟩, rfl, rfl, rfl, by omega, by omega, by omega, badA8⟩
        · exact ⟨_, _, _, _, _, _, _, _, _, ⟨[(0, 0)], [(0, 0)], [(0, 2), (2, 1)]⟩, hk.cell 27, hk.cell 28, hk.cell 29, ⟨hz9.keep ha, hz9.keep ha, r35.keep ha⟩, rfl, rfl, rfl, by omega, by omega, by omega, badA9⟩
        · exact ⟨_, _, _, _, _, _, _, _, _, ⟨[(0, 0)], [(0, 0)], [(-1, 1)]⟩, hk.cell 30, hk.cell 31, hk.cell 32, ⟨hz9.keep ha, hz9.keep ha, r40.keep ha⟩, rfl, rfl, rfl, by omega, by omega, by omega, badA10⟩
        · exact ⟨_, _, _, _, _, _, _, _, _, ⟨[(0, 0)], [(0, 0)], [(1000000000, 1)]⟩, hk.cell 33, hk.cell 34, hk.cell 35, ⟨hz9.keep ha, hz9.keep ha, r45.keep ha⟩, rfl, rfl, rfl, by omega, by omega, by omega, badA11⟩
      · intro val a w9 hb9 hdep hold K hK
        obtain ⟨b1, g1, h1, r1⟩ := hdep 47 102 _ rfl rfl rfl
        replace b1 := ev_tmps (b1.trans h1)
        clear hdep hold h1
        go_simp
        exact hK _ _ (Below.refl _ _) ⟨_, rfl, r1⟩
      · intro val wc hbc hall
        obtain ⟨g, h1, h2⟩ := hall 48 (by decide)
        clear hall
        generalize hF : putL val 0 _ _ = aF
        have hE : aF = ⟨#[.bool false, .slice (some ⟨gz, 0, none⟩) 1 1, .pointer (some ⟨gb, 0, none⟩), val 48, undef, undef, undef, undef, undef, undef, undef, undef, undef, undef, undef, undef, undef, undef, undef, undef, undef, undef, undef, undef, undef, undef, undef, undef, undef, undef, undef, undef, undef, undef, undef, undef, undef, undef, undef, undef, undef, undef, undef, undef, undef, undef, undef, undef, undef, .agg #[.int .i64 0, .int .i64 0], .slice (some ⟨gz, 0, none⟩) 1 1, .agg #[.int .i64 999999999, .int .i64 999999999], .slice (some ⟨gz + 1, 0, none⟩) 1 1, .slice (some ⟨gz, 0, none⟩) 1 1, .agg #[.slice (some ⟨gz + 1, 0, none⟩) 1 1, .slice (some ⟨gz, 0, none⟩) 1 1, .slice none 0 0], val 0, val 1, val 2, val 3, val 4, val 5, val 6, val 7, val 8, val 9, val 10, val 11, val 12, val 13, val 14, val 15, val 16, val 17, val 18, val 19, val 20, val 21, val 22, val 23, val 24, val 25, val 26, val 27, val 28, val 29, val 30, val 31, val 32, val 33, val 34, val 35, val 36, val 37, val 38, val 39, val 40, val 41, val 42, val 43, val 44, val 45, val 46, val 47, undef, undef, undef, undef, undef, undef, undef, undef, undef, undef, undef, undef, undef, undef, undef, undef, undef, undef, undef, undef, undef, undef, undef, undef, undef, undef, undef, undef, undef, undef, undef, undef, undef, undef, undef, undef, undef, undef, undef, undef, undef, undef, undef, undef, undef, undef, undef, undef, undef, undef, undef, undef, undef, undef, undef, undef, undef, undef, undef, undef, undef, undef, undef, undef, undef, undef, undef, undef, undef, undef, undef, undef, undef, undef, undef, undef, undef, undef, undef, undef, undef, undef, undef, undef, undef, undef, undef, undef, undef, undef, undef, undef, undef, undef, undef, undef, undef, undef, undef, undef, undef, undef, undef, undef, undef, undef, undef, undef, undef, undef, undef, undef, undef, undef, undef, undef, undef, undef, undef, undef, undef, undef, undef, undef, undef, undef, undef, undef, undef, undef, undef, undef, undef, undef, undef, undef, undef, undef, undef, undef, undef, undef, undef, undef, undef, undef, undef, undef, undef, undef, undef, undef, undef, undef, undef, undef, undef, undef, undef, undef, undef, undef, undef, undef, undef, undef, undef, undef, undef, undef, undef, undef, undef, undef, undef, undef, undef, undef, undef, undef, undef, undef, undef, undef, undef, undef, undef, undef, undef, undef, undef, undef, undef, undef, undef, undef, undef, undef, undef, undef, undef, undef, undef, undef, undef, undef, undef, undef, undef, undef, undef, undef, undef, undef, undef, undef, undef, undef, undef, undef, undef, undef, undef, undef, undef, undef, undef, undef, undef, undef, undef, undef, undef, undef, undef, undef, undef, undef, undef, undef, undef, undef, undef, undef, undef, undef, undef, undef, undef, undef, undef, undef, undef, undef, undef, undef, undef, undef, undef], []⟩ := by rw [← hF]; kernel_rfl
        clear hF
        subst hE
        rw [h1]
        go_wp2_with fail
        refine Met.intro ?_
        go_step
        exact ⟨.slice (some ⟨g, 0, none⟩) 12 12, val 0, val 1, val 2, val 3, val 4, val 5, val 6, val 7, val 8, val 9, val 10, val 11, val 12, val 13, val 14, val 15, val 16, val 17, val 18, val 19, val 20, val 21, val 22, val 23, val 24, val 25, val 26, val 27, val 28, val 29, val 30, val 31, val 32, val 33, val 34, val 35, val 36, val 37, val 38, val 39, val 40, val 41, val 42, val 43, val 44, val 45, val 46, val 47, ⟨g, rfl, h2, hbc⟩, rfl⟩
  case rest => as_aux_lemma =>
  obtain ⟨gd, rfl, hbad, hb4⟩ := hcut
  obtain ⟨W4, rfl⟩ : ∃ W4, W4 = wc := ⟨_, rfl⟩
  replace hB := bstep hB hb4
  replace hz := hz.keep hb4
  replace hf := hf.keep hb4
  replace hbx := hbx.keep hb4
  clear hb4
  have g1 := eqg_gap
  have g2 := fun w => eqf_gap (0, 4) (0, 4) w
  have g3 := eqg_count
  have g4 := fun w => eqf_count (999999999, 999999998) (999999999, 999999998) w
  rw [decide_eq_true rfl] at g2 g4
  go_wp2_with fail
  go_loopg [4, 5, 6] 12 (fun gk i _ _ wr => ∃ k : Nat, k + gk = 12 ∧ i = .int .i64 k ∧ Below W4.heap.size W4 wr)
  case atStart => exact ⟨0, by omega, rfl, Below.refl _ _⟩
  case round =>
    obtain ⟨k, hk, rfl, hb5⟩ := hrel
    have HK := Lib.hid hk
    have hk' : k ≤ 12 := by omega
    clear hk
    obtain ⟨W5, rfl⟩ : ∃ W5, W5 = wr := ⟨_, rfl⟩
    by_cases hlt : k < 12
    · have hbad5 := hbad.keep hb5
      obtain ⟨S, N, G, n1, n2, n3, c1, c2, c3, a, q0, q1, q2, ra, e1, e2, e3, b1, b2, b3, ea⟩ := hbad5.at_ k hlt
      have ht : timS a = (0, 8) := by unfold timS; rw [if_pos (by rw [ea]; decide), ea]
      have fl := hbad5.lt
      clear hbad5
      go_wp2_with fail
      refine (times_lit (n1 := n1) (n2 := n2) (n3 := n3) ht e1 e2 e3 (by omega) (by omega) (by omega) S N G c1 c2 c3 _ ra).mono ?_
      rintro _ w6 ⟨rfl, hb6⟩
      have hB6 := bstep hb5 hb6
      clear q0 q1 q2
      obtain ⟨S', N', G', n1', n2', n3', c1', c2', c3', a', q0, q1, q2, ra', e1', e2', e3', b1', b2', b3', ea'⟩ := (hbad.keep hB6).at_ k hlt
      have fl' := (hbad.keep hB6).lt
      go_wp2_with fail
      refine (check_lit (n1 := n1') (n2 := n2') (n3 := n3') ea' e1' e2' e3' (by omega) (by omega) (by omega) S' N' G' c1' c2' c3' _ ra').mono ?_
      rintro _ w7 ⟨rfl, hb7⟩
      go_wp2
      go_roundg (gk - 1)
      case rel => exact ⟨k + 1, by have := HK.out; omega, by go_num, bstep hB6 hb7⟩
      case measure => have := HK.out; omega
    obtain rfl : k = 12 := by omega
    replace hB := bstep hB hb5
    replace hz := hz.keep hb5
    replace hf := hf.keep hb5
    replace hbx := hbx.keep hb5
    replace hbad := hbad.keep hb5
    clear hb5 hk' hlt HK
    go_wp2_with fail
    refine (new_lit (n1 := 0) (n2 := 0) (n3 := 0) n256 rfl rfl rfl (by omega) _).mono ?_
    rintro _ w6 ⟨S6, N6, G6, x6, y6, z6, rfl, _, _, hb6⟩
    replace hB := bstep hB hb6
    replace hz := hz.keep hb6
    replace hf := hf.keep hb6
    replace hbx := hbx.keep hb6
    replace hbad := hbad.keep hb6
    clear hb6
    go_wp2_with fail
    obtain ⟨u6, hu6⟩ : ∃ u6, u6 = w6.alloc (.cells #[.slice S6 0 x6, .slice N6 0 y6, .slice G6 0 z6] 25) := ⟨_, rfl⟩
    have hbu : Below w6.heap.size w6 u6 := by rw [hu6]; exact balloc (Below.refl _ _) _
    have hzu : Hid (u6.heap.size = w6.heap.size + 1) := Lib.hid (by rw [hu6]; simp)
    rw [← hu6]
    replace hB := bstep hB hbu
    replace hz := hz.keep hbu
    replace hf := hf.keep hbu
    replace hbx := hbx.keep hbu
    replace hbad := hbad.keep hbu
    clear hu6 hbu
    clear hzu
    refine (new_lit (n1 := 0) (n2 := 0) (n3 := 0) nNeg rfl rfl rfl (by omega) _).mono ?_
    rintro _ w7 ⟨S7, N7, G7, x7, y7, z7, rfl, _, _, hb7⟩
    replace hB := bstep hB hb7
    replace hz := hz.keep hb7
    replace hf := hf.keep hb7
    replace hbx := hbx.keep hb7
    replace hbad := hbad.keep hb7
    clear hb7
    go_wp2_with fail
    obtain ⟨u7, hu7⟩ : ∃ u7, u7 = w7.alloc (.cells #[.slice S7 0 x7, .slice N7 0 y7, .slice G7 0 z7] 25) := ⟨_, rfl⟩
    have hbu : Below w7.heap.size w7 u7 := by rw [hu7]; exact balloc (Below.refl _ _) _
    have hzu : Hid (u7.heap.size = w7.heap.size + 1) := Lib.hid (by rw [hu7]; simp)
    rw [← hu7]
    replace hB := bstep hB hbu
    replace hz := hz.keep hbu
    replace hf := hf.keep hbu
    replace hbx := hbx.keep hbu
    replace hbad := hbad.keep hbu
    clear hu7 hbu
    refine (check_lit (n1 := 512) (n2 := 0) (n3 := 0) f512 List.length_replicate rfl rfl (by omega) (by omega) (by omega) _ _ _ _ _ _ _ ⟨zR_RL (Blk.newAt _ _ hzu.out), RL.nil, RL.nil⟩).mono ?_
    rintro _ w8 ⟨rfl, hb8⟩
    replace hb8 := bstep (balloc (Below.refl _ _) _) hb8
    replace hB := bstep hB hb8
    replace hz := hz.keep hb8
    replace hf := hf.keep hb8
    replace hbx := hbx.keep hb8
    replace hbad := hbad.keep hb8
    clear hb8
    clear hzu
    go_wp2_with fail
    refine (check_lit (n1 := 0) (n2 := 0) (n3 := 65) f65 rfl rfl List.length_replicate (by omega) (by omega) (by omega) _ _ _ _ _ _ _ ⟨RL.nil, RL.nil, zR_RL (Blk.newAt _ _ rfl)⟩).mono ?_
    rintro _ w9 ⟨rfl, hb9⟩
    replace hb9 := bstep (balloc (Below.refl _ _) _) hb9
    replace hB := bstep hB hb9
    replace hz := hz.keep hb9
    replace hf := hf.keep hb9
    replace hbx := hbx.keep hb9
    replace hbad := hbad.keep hb9
    clear hb9
    have q0 : World.cell? w9 ⟨gb, 0, none⟩ = some (.slice (some ⟨gf, 0, none⟩) 1 1) := hbx.cell 0
    have f0 := hbx.frozen 0
    have q1 : World.cell? w9 ⟨gb, 1, none⟩ = some (.slice (some ⟨gz, 0, none⟩) 1 1) := hbx.cell 1
    have f1 := hbx.frozen 1
    have q2 : World.cell? w9 ⟨gb, 2, none⟩ = some (.slice none 0 0) := hbx.cell 2
    have f2 := hbx.frozen 2
    have fl := hbx.lt
    go_wp2_with fail
    obtain ⟨U9, hU9⟩ : ∃ U9, U9 = w9.alloc (.cells #[.int .i64 1, .int .i64 1] 65) := ⟨_, rfl⟩
    have ho : RL U9 (some ⟨w9.heap.size, 0, none⟩) [(1, 1)] := by rw [hU9]; exact RL_lit [(1, 1)] _ (Blk.new w9 65 #[.int .i64 1, .int .i64 1]) rfl
    have hbu : Below w9.heap.size w9 U9 := by rw [hU9]; exact balloc (Below.refl _ _) _
    rw [← hU9]
    replace hB := bstep hB hbu
    replace hz := hz.keep hbu
    replace hf := hf.keep hbu
    replace hbx := hbx.keep hbu
    replace hbad := hbad.keep hbu
    clear hbu
    clear hU9
    clear q0 q1 q2 f0 f1 f2 fl
    generalize w9.heap.size = go at *
    refine (add_lit (n1 := 1) (n2 := 1) (n3 := 0) (nl := 1) (k1 := 0) (k2 := 0) (k3 := 0) ad1 rfl rfl rfl rfl rfl rfl rfl (by omega) (by omega) (by omega) (by omega) (by omega) (by omega) _ _ _ _ _ _ _ _ _ ⟨hf, hz, RL.nil⟩ ho).mono ?_
    rintro _ w10 ⟨S10, N10, G10, x10, y10, z10, rfl, r10, f10, hb10⟩
    replace hB := bstep hB hb10
    replace hz := hz.keep hb10
    replace hf := hf.keep hb10
    replace hbx := hbx.keep hb10
    replace hbad := hbad.keep hb10
    replace ho := ho.keep hb10
    clear hb10
    have q0 : World.cell? w10 ⟨gb, 0, none⟩ = some (.slice (some ⟨gf, 0, none⟩) 1 1) := hbx.cell 0
    have f0 := hbx.frozen 0
    have q1 : World.cell? w10 ⟨gb, 1, none⟩ = some (.slice (some ⟨gz, 0, none⟩) 1 1) := hbx.cell 1
    have f1 := hbx.frozen 1
    have q2 : World.cell? w10 ⟨gb, 2, none⟩ = some (.slice none 0 0) := hbx.cell 2
    have f2 := hbx.frozen 2
    have fl := hbx.lt
    go_wp2_with fail
    obtain ⟨u10, hu10⟩ : ∃ u10, u10 = w10.alloc (.cells #[.slice S10 0 x10, .slice N10 0 y10, .slice G10 0 z10] 25) := ⟨_, rfl⟩
    have hbu : Below w10.heap.size w10 u10 := by rw [hu10]; exact balloc (Below.refl _ _) _
    have hzu : Hid (u10.heap.size = w10.heap.size + 1) := Lib.hid (by rw [hu10]; simp)
    rw [← hu10]
    replace hB := bstep hB hbu
    replace hz := hz.keep hbu
    replace hf := hf.keep hbu
    replace hbx := hbx.keep hbu
    replace hbad := hbad.keep hbu
    replace ho := ho.keep hbu
    clear hu10 hbu
    clear q0 q1 q2 f0 f1 f2 fl
    have l1 : RL (u10.alloc (.cells #[.int .i64 (-1), .int .i64 1] 65)) (some ⟨(w10.heap.size + 1), 0, none⟩) [((-1), 1)] := RL_lit [((-1), 1)] _ (Blk.newAt (w := u10) (g := (w10.heap.size + 1)) 65 #[.int .i64 (-1), .int .i64 1] hzu.out) rfl
    refine (add_lit (n1 := 1) (n2 := 1) (n3 := 0) (nl := 1) (k1 := 1) (k2 := 1) (k3 := 1) ad2 rfl rfl rfl rfl rfl rfl rfl (by omega) (by omega) (by omega) (by omega) (by omega) (by omega) _ _ _ _ _ _ _ _ _ ⟨hf.keep (balloc (Below.refl _ _) _), hz.keep (balloc (Below.refl _ _) _), RL.nil⟩ l1).mono ?_
    rintro _ w11 ⟨S11, N11, G11, x11, y11, z11, rfl, r11, f11, hb11⟩
    replace hb11 := bstep (balloc (Below.refl _ _) _) hb11
    replace hB := bstep hB hb11
    replace hz := hz.keep hb11
    replace hf := hf.keep hb11
    replace hbx := hbx.keep hb11
    replace hbad := hbad.keep hb11
    replace ho := ho.keep hb11
    clear hb11
    clear l1 hzu
    have q0 : World.cell? w11 ⟨gb, 0, none⟩ = some (.slice (some ⟨gf, 0, none⟩) 1 1) := hbx.cell 0
    have f0 := hbx.frozen 0
    have q1 : World.cell? w11 ⟨gb, 1, none⟩ = some (.slice (some ⟨gz, 0, none⟩) 1 1) := hbx.cell 1
    have f1 := hbx.frozen 1
    have q2 : World.cell? w11 ⟨gb, 2, none⟩ = some (.slice none 0 0) := hbx.cell 2
    have f2 := hbx.frozen 2
    have fl := hbx.lt
    go_wp2_with fail
    obtain ⟨u11, hu11⟩ : ∃ u11, u11 = w11.alloc (.cells #[.slice S11 1 x11, .slice N11 1 y11, .slice G11 1 z11] 25) := ⟨_, rfl⟩
    have v11 : Blk u11 w11.heap.size 25 #[.slice S11 1 x11, .slice N11 1 y11, .slice G11 1 z11] := by rw [hu11]; exact Blk.new _ _ _
    have hbu : Below w11.heap.size w11 u11 := by rw [hu11]; exact balloc (Below.refl _ _) _
    rw [← hu11]
    replace r11 := r11.s
    replace hB := bstep hB hbu
    replace hz := hz.keep hbu
    replace hf := hf.keep hbu
    replace hbx := hbx.keep hbu
    replace hbad := hbad.keep hbu
    replace ho := ho.keep hbu
    replace r11 := r11.keep hbu
    clear hbu
    clear hu11 f11
    clear q0 q1 q2 f0 f1 f2 fl
    generalize w11.heap.size = g11 at *
    refine (add_lit (n1 := 1) (n2 := 1) (n3 := 0) (nl := 1) (k1 := 0) (k2 := 0) (k3 := 0) ad3 rfl rfl rfl rfl rfl rfl rfl (by omega) (by omega) (by omega) (by omega) (by omega) (by omega) _ _ _ _ _ _ _ _ _ ⟨hf, hz, RL.nil⟩ ho).mono ?_
    rintro _ w12 ⟨S12, N12, G12, x12, y12, z12, rfl, r12, f12, hb12⟩
    replace hB := bstep hB hb12
    replace hz := hz.keep hb12
    replace hf := hf.keep hb12
    replace hbx := hbx.keep hb12
    replace hbad := hbad.keep hb12
    replace ho := ho.keep hb12
    replace v11 := v11.keep hb12
    replace r11 := r11.keep hb12
    clear hb12
    have q0 : World.cell? w12 ⟨gb, 0, none⟩ = some (.slice (some ⟨gf, 0, none⟩) 1 1) := hbx.cell 0
    have f0 := hbx.frozen 0
    have q1 : World.cell? w12 ⟨gb, 1, none⟩ = some (.slice (some ⟨gz, 0, none⟩) 1 1) := hbx.cell 1
    have f1 := hbx.frozen 1
    have q2 : World.cell? w12 ⟨gb, 2, none⟩ = some (.slice none 0 0) := hbx.cell 2
    have f2 := hbx.frozen 2
    have fl := hbx.lt
    go_wp2_with fail
    obtain ⟨u12, hu12⟩ : ∃ u12, u12 = w12.alloc (.cells #[.slice S12 0 x12, .slice N12 0 y12, .slice G12 0 z12] 25) := ⟨_, rfl⟩
    have hbu : Below w12.heap.size w12 u12 := by rw [hu12]; exact balloc (Below.refl _ _) _
    have hzu : Hid (u12.heap.size = w12.heap.size + 1) := Lib.hid (by rw [hu12]; simp)
    rw [← hu12]
    replace hB := bstep hB hbu
    replace hz := hz.keep hbu
    replace hf := hf.keep hbu
    replace hbx := hbx.keep hbu
    replace hbad := hbad.keep hbu
    replace ho := ho.keep hbu
    replace v11 := v11.keep hbu
    replace r11 := r11.keep hbu
    clear hu12 hbu
    clear q0 q1 q2 f0 f1 f2 fl
    clear hzu r12 f12
    refine (add_lit (n1 := 1) (n2 := 1) (n3 := 0) (nl := 1) (k1 := 0) (k2 := 0) (k3 := 0) ad4 rfl rfl rfl rfl rfl rfl rfl (by omega) (by omega) (by omega) (by omega) (by omega) (by omega) _ _ _ _ _ _ _ _ _ ⟨hf, hz, RL.nil⟩ ho).mono ?_
    rintro _ w13 ⟨S13, N13, G13, x13, y13, z13, rfl, r13, f13, hb13⟩
    replace hB := bstep hB hb13
    replace hz := hz.keep hb13
    replace hf := hf.keep hb13
    replace hbx := hbx.keep hb13
    replace hbad := hbad.keep hb13
    replace ho := ho.keep hb13
    replace v11 := v11.keep hb13
    replace r11 := r11.keep hb13
    clear hb13
    have q0 : World.cell? w13 ⟨gb, 0, none⟩ = some (.slice (some ⟨gf, 0, none⟩) 1 1) := hbx.cell 0
    have f0 := hbx.frozen 0
    have q1 : World.cell? w13 ⟨gb, 1, none⟩ = some (.slice (some ⟨gz, 0, none⟩) 1 1) := hbx.cell 1
    have f1 := hbx.frozen 1
    have q2 : World.cell? w13 ⟨gb, 2, none⟩ = some (.slice none 0 0) := hbx.cell 2
    have f2 := hbx.frozen 2
    have fl := hbx.lt
    go_wp2_with fail
    obtain ⟨u13, hu13⟩ : ∃ u13, u13 = w13.alloc (.cells #[.slice S13 0 x13, .slice N13 0 y13, .slice G13 0 z13] 25) := ⟨_, rfl⟩
    have hbu : Below w13.heap.size w13 u13 := by rw [hu13]; exact balloc (Below.refl _ _) _
    have hzu : Hid (u13.heap.size = w13.heap.size + 1) := Lib.hid (by rw [hu13]; simp)
    rw [← hu13]
    replace hB := bstep hB hbu
    replace hz := hz.keep hbu
    replace hf := hf.keep hbu
    replace hbx := hbx.keep hbu
    replace hbad := hbad.keep hbu
    replace ho := ho.keep hbu
    replace v11 := v11.keep hbu
    replace r11 := r11.keep hbu
    clear hu13 hbu
    clear q0 q1 q2 f0 f1 f2 fl
    clear hzu r13 f13
    refine (add_lit (n1 := 1) (n2 := 1) (n3 := 0) (nl := 1) (k1 := 0) (k2 := 0) (k3 := 0) ad5 rfl rfl rfl rfl rfl rfl rfl (by omega) (by omega) (by omega) (by omega) (by omega) (by omega) _ _ _ _ _ _ _ _ _ ⟨hf, hz, RL.nil⟩ ho).mono ?_
    rintro _ w14 ⟨S14, N14, G14, x14, y14, z14, rfl, r14, f14, hb14⟩
    replace hB := bstep hB hb14
    replace hz := hz.keep hb14
    replace hf := hf.keep hb14
    replace hbx := hbx.keep hb14
    replace hbad := hbad.keep hb14
    replace ho := ho.keep hb14
    replace v11 := v11.keep hb14
    replace r11 := r11.keep hb14
    clear hb14
    have q0 : World.cell? w14 ⟨gb, 0, none⟩ = some (.slice (some ⟨gf, 0, none⟩) 1 1) := hbx.cell 0
    have f0 := hbx.frozen 0
    have q1 : World.cell? w14 ⟨gb, 1, none⟩ = some (.slice (some ⟨gz, 0, none⟩) 1 1) := hbx.cell 1
    have f1 := hbx.frozen 1
    have q2 : World.cell? w14 ⟨gb, 2, none⟩ = some (.slice none 0 0) := hbx.cell 2
    have f2 := hbx.frozen 2
    have fl := hbx.lt
    clear q0 q1 q2 f0 f1 f2 fl
    clear r14 f14
    go_upto_region 20 with (fail)
    obtain ⟨u14, hu14⟩ : ∃ u14, u14 = w14.alloc (.cells #[.slice S14 0 x14, .slice N14 0 y14, .slice G14 0 z14] 25) := ⟨_, rfl⟩
    have hbu : Below w14.heap.size w14 u14 := by rw [hu14]; exact balloc (Below.refl _ _) _
    rw [← hu14]
    replace hB := bstep hB hbu
    replace hz := hz.keep hbu
    replace hf := hf.keep hbu
    replace hbx := hbx.keep hbu
    replace hbad := hbad.keep hbu
    replace ho := ho.keep hbu
    replace v11 := v11.keep hbu
    replace r11 := r11.keep hbu
    clear hbu
    clear hu14
    go_upto_region 20 with (fail)
    go_cut [24, 25] from 174 to 174 (fun sa sb wc => (∃ g, sa = .pointer (some ⟨g, 0, none⟩)) ∧ sb = .int .i64 2 ∧ Below u14.heap.size u14 wc)
    case first => as_aux_lemma =>
      refine wp_region_mid (by kernel_rfl) (by kernel_rfl) (by kernel_rfl) (ErA.F gf gz gd u14.heap.size) ErA.P 7 (ErA.E u14) (fun i => i == 5 || i == 8) (by kernel_rfl) (ErA.keep _ _ _ _) (ErA.val _ _ _ _) (ErA.upd _) ⟨?_, ?_, ?_, ?_, ?_, ?_, ?_, ?_, ?_, trivial⟩ ?_
      · refine MidOk.grow ?_ (by decide) rfl
        intro val a w9 hb9 hdep hold K hK
        have b1 : a.tmps[2]?.getD undef = .pointer (some ⟨gb, 0, none⟩) := ev_tmps ((hold 2 (by rfl)).trans (by rfl))
        have hkr := hbx.keep hb9
        have p0 : World.cell? w9 ⟨gb, 0, none⟩ = some (.slice (some ⟨gf, 0, none⟩) 1 1) := hkr.cell 0
        have g0 := hkr.frozen 0
        have p1 : World.cell? w9 ⟨gb, 1, none⟩ = some (.slice (some ⟨gz, 0, none⟩) 1 1) := hkr.cell 1
        have g1 := hkr.frozen 1
        have p2 : World.cell? w9 ⟨gb, 2, none⟩ = some (.slice none 0 0) := hkr.cell 2
        have g2 := hkr.frozen 2
        have gl := hkr.lt
        clear hdep hold
        go_simp
        exact hK _ _ (Below.refl _ _) rfl
      · refine MidOk.grow ?_ (by decide) rfl
        intro val a w9 hb9 hdep hold K hK
        clear hdep hold
        go_simp
        exact hK _ _ (balloc (Below.refl _ _) _) ⟨_, rfl, zR_RL (Blk.new _ _ _)⟩
      · refine MidOk.grow ?_ (by decide) rfl
        intro val a w9 hb9 hdep hold K hK
        have b1 := (hdep 0 175 _ rfl rfl rfl).1.trans (hdep 0 175 _ rfl rfl rfl).2
        obtain ⟨b2, g2, h2, r2⟩ := hdep 1 176 _ rfl rfl rfl
        replace b2 := b2.trans h2
        refine grow_call (vs := #[.agg #[.slice (some ⟨gf, 0, none⟩) 1 1, .slice (some ⟨gz, 0, none⟩) 1 1, .slice none 0 0], .slice (some ⟨g2, 0, none⟩) 3 3, .int .i64 0, .int .i64 1]) rfl rfl (by simp [b1, b2]; exact ⟨rfl, rfl⟩) Try.call14 ((add_lit (n1 := 1) (n2 := 1) (n3 := 0) (nl := 3) (k1 := 0) (k2 := 0) (k3 := 0) ad6 rfl rfl rfl rfl rfl rfl rfl (by omega) (by omega) (by omega) (by omega) (by omega) (by omega) _ _ _ _ _ _ _ _ w9 ⟨hf.keep hb9, hz.keep hb9, RL.nil⟩ r2).mono ?_)
        rintro e w' ⟨S7, N7, G7, x7, y7, z7, rfl, r7, f7, hb7⟩
        exact ⟨_, rfl, hK _ _ hb7 ⟨S7, N7, G7, x7, y7, z7, rfl⟩⟩
      · refine MidOk.grow ?_ (by decide) rfl
        intro val a w9 hb9 hdep hold K hK
        obtain ⟨b1, S7, N7, G7, x7, y7, z7, h1⟩ := hdep 2 177 _ rfl rfl rfl
        replace b1 := ev_tmps (b1.trans h1)
        clear hdep hold h1
        go_simp
        exact hK _ _ (Below.refl _ _) ⟨S7, N7, G7, x7, y7, z7, rfl⟩
      · refine MidOk.grow ?_ (by decide) rfl
        intro val a w9 hb9 hdep hold K hK
        obtain ⟨b1, S7, N7, G7, x7, y7, z7, h1⟩ := hdep 3 174 _ rfl rfl rfl
        replace b1 := ev_tmps (b1.trans h1)
        clear hdep hold h1
        go_simp
        exact hK _ _ (Below.refl _ _) ⟨S7, N7, G7, x7, y7, z7, rfl⟩
      · refine MidOk.both ?_ ?_ (by decide)
        · intro val a w9 hb9 hdep hold K hK
          obtain ⟨b1, S7, N7, G7, x7, y7, z7, h1⟩ := hdep 3 174 _ rfl rfl rfl
          replace b1 := ev_tmps (b1.trans h1)
          clear hdep hold h1
          go_simp
          exact hK _ _ (Below.refl _ _) rfl
        · intro val a w9 hdep hold K hK
          obtain ⟨b1, y9, h1⟩ := hdep 3 174 _ rfl rfl rfl
          replace b1 := ev_tmps (b1.trans h1)
          clear hdep hold h1
          go_simp
          exact hK _ rfl
      · refine MidOk.grow ?_ (by decide) rfl
        intro val a w9 hb9 hdep hold K hK
        have hs9 := hb9.size
        clear hdep hold
        go_simp
        exact hK _ _ (balloc (Below.refl _ _) _) ⟨_, rfl, hs9, Blk.new _ _ _⟩
      · refine MidOk.store ?_ rfl
        intro val a w9 hb9 hall hdep hold K hK
        obtain ⟨g, h2, hg, hkG⟩ := hall 6 (by decide) (by decide) rfl
        obtain ⟨S7, N7, G7, x7, y7, z7, h1⟩ := hall 4 (by decide) (by decide) rfl
        have b1 := ev_tmps ((hdep 6 24 _ rfl rfl (by decide) rfl).trans h2)
        have b2 := ev_tmps ((hdep 4 178 _ rfl rfl (by decide) rfl).trans h1)
        have hFa := hK undef
        clear hall hdep hold hK h1
        have q0 : World.cell? w9 ⟨g, 0, none⟩ = some (.slice none 0 0) := hkG.cell 0
        have f0 := hkG.frozen 0
        have q1 : World.cell? w9 ⟨g, 1, none⟩ = some (.slice none 0 0) := hkG.cell 1
        have f1 := hkG.frozen 1
        have q2 : World.cell? w9 ⟨g, 2, none⟩ = some (.slice none 0 0) := hkG.cell 2
        have f2 := hkG.frozen 2
        have fl := hkG.lt
        go_simp
        exact hFa _ ⟨⟨g, by rw [upd_ne _ (by decide)]; exact h2⟩, ((hb9.setCell (p := ⟨g, 0, none⟩) hg _).setCell (p := ⟨g, 1, none⟩) hg _).setCell (p := ⟨g, 2, none⟩) hg _⟩ trivial
      · refine MidOk.both ?_ ?_ (by decide)
        · intro val a w9 hb9 hdep hold K hK
          have b1 : a.tmps[179]?.getD undef = .int .i64 2 := ev_tmps ((hdep 5 179 _ rfl rfl rfl).1.trans (hdep 5 179 _ rfl rfl rfl).2)
          clear hdep hold
          go_simp
          exact hK _ _ (Below.refl _ _) rfl
        · intro val a w9 hdep hold K hK
          have b1 : a.tmps[179]?.getD undef = .int .i64 2 := ev_tmps ((hdep 5 179 _ rfl rfl rfl).1.trans (hdep 5 179 _ rfl rfl rfl).2)
          clear hdep hold
          go_simp
          exact hK _ rfl
      · rintro val w' ⟨⟨g, h10⟩, hb7⟩ hP
        have h12 : val 8 = .int .i64 2 := hP 8 (by decide)
        clear hP
        simp only [putL, Act.put, List.setIfInBounds_toArray, List.set_cons_zero, List.set_cons_succ, h10, h12]
        go_wp2_with fail
        go_meet
        exact ⟨⟨g, rfl⟩, rfl, hb7⟩
    case rest => as_aux_lemma =>
    obtain ⟨⟨g24, rfl⟩, rfl, hb7⟩ := hcut
    obtain ⟨W20, rfl⟩ : ∃ W20, W20 = wc := ⟨_, rfl⟩
    replace hB := bstep hB hb7
    replace hz := hz.keep hb7
    replace hf := hf.keep hb7
    replace hbx := hbx.keep hb7
    replace hbad := hbad.keep hb7
    replace ho := ho.keep hb7
    replace v11 := v11.keep hb7
    replace r11 := r11.keep hb7
    clear hb7
    have q0 : World.cell? W20 ⟨gb, 0, none⟩ = some (.slice (some ⟨gf, 0, none⟩) 1 1) := hbx.cell 0
    have f0 := hbx.frozen 0
    have q1 : World.cell? W20 ⟨gb, 1, none⟩ = some (.slice (some ⟨gz, 0, none⟩) 1 1) := hbx.cell 1
    have f1 := hbx.frozen 1
    have q2 : World.cell? W20 ⟨gb, 2, none⟩ = some (.slice none 0 0) := hbx.cell 2
    have f2 := hbx.frozen 2
    have fl := hbx.lt
    go_wp2_with fail
    clear q0 q1 q2 f0 f1 f2 fl
    have l1 : RL (W20.alloc (.cells #[.int .i64 0, .int .i64 1] 65)) (some ⟨W20.heap.size, 0, none⟩) [(0, 1)] := RL_lit [(0, 1)] _ (Blk.newAt (w := W20) (g := W20.heap.size) 65 #[.int .i64 0, .int .i64 1] rfl) rfl
    refine (add_lit (n1 := 1) (n2 := 1) (n3 := 0) (nl := 1) (k1 := 0) (k2 := 0) (k3 := 0) ad7 rfl rfl rfl rfl rfl rfl rfl (by omega) (by omega) (by omega) (by omega) (by omega) (by omega) _ _ _ _ _ _ _ _ _ ⟨hf.keep (balloc (Below.refl _ _) _), hz.keep (balloc (Below.refl _ _) _), RL.nil⟩ l1).mono ?_
    rintro _ w21 ⟨S21, N21, G21, x21, y21, z21, rfl, r21, f21, hb21⟩
    replace hb21 := bstep (balloc (Below.refl _ _) _) hb21
    replace hB := bstep hB hb21
    replace hz := hz.keep hb21
    replace hf := hf.keep hb21
    replace hbx := hbx.keep hb21
    replace hbad := hbad.keep hb21
    replace ho := ho.keep hb21
    replace v11 := v11.keep hb21
    replace r11 := r11.keep hb21
    clear hb21
    clear l1 r21 f21
    go_wp2_with fail
    obtain ⟨u21, hu21⟩ : ∃ u21, u21 = w21.alloc (.cells #[.slice S21 0 x21, .slice N21 0 y21, .slice G21 0 z21] 25) := ⟨_, rfl⟩
    have hbu : Below w21.heap.size w21 u21 := by rw [hu21]; exact balloc (Below.refl _ _) _
    have hzu : Hid (u21.heap.size = w21.heap.size + 1) := Lib.hid (by rw [hu21]; simp)
    rw [← hu21]
    replace hB := bstep hB hbu
    replace hz := hz.keep hbu
    replace hf := hf.keep hbu
    replace hbx := hbx.keep hbu
    replace hbad := hbad.keep hbu
    replace ho := ho.keep hbu
    replace v11 := v11.keep hbu
    replace r11 := r11.keep hbu
    clear hu21 hbu
    clear hzu
    refine (new_lit (n1 := 3) (n2 := 3) (n3 := 0) n1 rfl rfl rfl (by omega) _).mono ?_
    rintro _ w22 ⟨S22, N22, G22, x22, y22, z22, rfl, r22, f22, hb22⟩
    replace hB := bstep hB hb22
    replace hz := hz.keep hb22
    replace hf := hf.keep hb22
    replace hbx := hbx.keep hb22
    replace hbad := hbad.keep hb22
    replace ho := ho.keep hb22
    replace v11 := v11.keep hb22
    replace r11 := r11.keep hb22
    clear hb22
    have q0 : World.cell? w22 ⟨gb, 0, none⟩ = some (.slice (some ⟨gf, 0, none⟩) 1 1) := hbx.cell 0
    have f0 := hbx.frozen 0
    have q1 : World.cell? w22 ⟨gb, 1, none⟩ = some (.slice (some ⟨gz, 0, none⟩) 1 1) := hbx.cell 1
    have f1 := hbx.frozen 1
    have q2 : World.cell? w22 ⟨gb, 2, none⟩ = some (.slice none 0 0) := hbx.cell 2
    have f2 := hbx.frozen 2
    have fl := hbx.lt
    go_wp2_with fail
    obtain ⟨u22, hu22⟩ : ∃ u22, u22 = w22.alloc (.cells #[.slice S22 3 x22, .slice N22 3 y22, .slice G22 0 z22] 25) := ⟨_, rfl⟩
    have hbu : Below w22.heap.size w22 u22 := by rw [hu22]; exact balloc (Below.refl _ _) _
    rw [← hu22]
    clear q0 q1 q2 f0 f1 f2 fl
    replace hB := bstep hB hbu
    replace hz := hz.keep hbu
    replace hf := hf.keep hbu
    replace hbx := hbx.keep hbu
    replace hbad := hbad.keep hbu
    replace ho := ho.keep hbu
    replace v11 := v11.keep hbu
    replace r11 := r11.keep hbu
    replace r22 := r22.keep hbu
    clear hbu
    clear hu22
    refine (merge_lit (n1 := 1) (n2 := 1) (n3 := 0) (m1 := 3) (m2 := 3) (m3 := 0) (k1 := 0) (k2 := 0) (k3 := 0) mg1 rfl rfl rfl rfl rfl rfl rfl rfl rfl (by omega) (by omega) (by omega) (by omega) (by omega) (by omega) _ _ _ _ _ _ _ _ _ _ _ _ _ ⟨hf, hz, RL.nil⟩ r22).mono ?_
    rintro _ w23 ⟨S23, N23, G23, x23, y23, z23, rfl, r23, f23, hb23⟩
    replace hB := bstep hB hb23
    replace hz := hz.keep hb23
    replace hf := hf.keep hb23
    replace hbx := hbx.keep hb23
    replace hbad := hbad.keep hb23
    replace ho := ho.keep hb23
    replace v11 := v11.keep hb23
    replace r11 := r11.keep hb23
    clear hb23
    clear r22 f22 r23 f23
    go_upto_region 24 with (fail)
    obtain ⟨u23, hu23⟩ : ∃ u23, u23 = w23.alloc (.cells #[.slice S23 0 x23, .slice N23 0 y23, .slice G23 0 z23] 25) := ⟨_, rfl⟩
    have hbu : Below w23.heap.size w23 u23 := by rw [hu23]; exact balloc (Below.refl _ _) _
    rw [← hu23]
    replace hB := bstep hB hbu
    replace hz := hz.keep hbu
    replace hf := hf.keep hbu
    replace hbx := hbx.keep hbu
    replace hbad := hbad.keep hbu
    replace ho := ho.keep hbu
    replace v11 := v11.keep hbu
    replace r11 := r11.keep hbu
    clear hbu
    clear hu23
    go_upto_region 24 with (fail)
    go_cut [32, 33] from 197 to 197 (fun sa sb wc => (∃ g, sa = .pointer (some ⟨g, 0, none⟩)) ∧ sb = .int .i64 8 ∧ Below u23.heap.size u23 wc)
    case first => as_aux_lemma =>
      refine wp_region_mid (by kernel_rfl) (by kernel_rfl) (by kernel_rfl) (ErB.F gf gz gd u23.heap.size) ErB.P 9 (ErB.E u23) (fun i => i == 7 || i == 10) (by kernel_rfl) (ErB.keep _ _ _ _) (ErB.val _ _ _ _) (ErB.upd _) ⟨?_, ?_, ?_, ?_, ?_, ?_, ?_, ?_, ?_, ?_, ?_, trivial⟩ ?_
      · refine MidOk.grow ?_ (by decide) rfl
        intro val a w9 hb9 hdep hold K hK
        have b1 : a.tmps[2]?.getD undef = .pointer (some ⟨gb, 0, none⟩) := ev_tmps ((hold 2 (by rfl)).trans (by rfl))
        have hkr := hbx.keep hb9
        have p0 : World.cell? w9 ⟨gb, 0, none⟩ = some (.slice (some ⟨gf, 0, none⟩) 1 1) := hkr.cell 0
        have g0 := hkr.frozen 0
        have p1 : World.cell? w9 ⟨gb, 1, none⟩ = some (.slice (some ⟨gz, 0, none⟩) 1 1) := hkr.cell 1
        have g1 := hkr.frozen 1
        have p2 : World.cell? w9 ⟨gb, 2, none⟩ = some (.slice none 0 0) := hkr.cell 2
        have g2 := hkr.frozen 2
        have gl := hkr.lt
        clear hdep hold
        go_simp
        exact hK _ _ (Below.refl _ _) rfl
      · refine MidOk.grow ?_ (by decide) rfl
        intro val a w9 hb9 hdep hold K hK
        have b1 : a.tmps[3]?.getD undef = .slice (some ⟨gd, 0, none⟩) 12 12 := ev_tmps ((hold 3 (by rfl)).trans (by rfl))
        clear hdep hold
        go_simp
        exact hK _ _ (Below.refl _ _) rfl
      · refine MidOk.grow ?_ (by decide) rfl
        intro val a w9 hb9 hdep hold K hK
        have b1 := ev_tmps ((hdep 1 199 _ rfl rfl rfl).1.trans (hdep 1 199 _ rfl rfl rfl).2)
        clear hdep hold
        go_simp
        exact hK _ _ (Below.refl _ _) rfl
      · refine MidOk.grow ?_ (by decide) rfl
        intro val a w9 hb9 hdep hold K hK
        have b1 := ev_tmps ((hdep 2 200 _ rfl rfl rfl).1.trans (hdep 2 200 _ rfl rfl rfl).2)
        obtain ⟨p0, p1, p2⟩ := (hbad.keep hb9).zero
        have g0 := (hbad.keep hb9).lt
        clear hdep hold
        go_simp
        exact hK _ _ (Below.refl _ _) rfl
      · refine MidOk.grow ?_ (by decide) rfl
        intro val a w9 hb9 hdep hold K hK
        have b1 := (hdep 0 198 _ rfl rfl rfl).1.trans (hdep 0 198 _ rfl rfl rfl).2
        have b2 := (hdep 3 201 _ rfl rfl rfl).1.trans (hdep 3 201 _ rfl rfl rfl).2
        refine grow_call (vs := #[.agg #[.slice (some ⟨gf, 0, none⟩) 1 1, .slice (some ⟨gz, 0, none⟩) 1 1, .slice none 0 0], .agg #[.slice none 0 0, .slice none 0 0, .slice none 0 0]]) rfl rfl (by simp [b1, b2]) Try.call20 ((merge_lit (n1 := 1) (n2 := 1) (n3 := 0) (m1 := 0) (m2 := 0) (m3 := 0) (k1 := 0) (k2 := 0) (k3 := 0) mg2 rfl rfl rfl rfl rfl rfl rfl rfl rfl (by omega) (by omega) (by omega) (by omega) (by omega) (by omega) _ _ _ _ _ _ _ _ _ _ _ _ w9 ⟨hf.keep hb9, hz.keep hb9, RL.nil⟩ ⟨RL.nil, RL.nil, RL.nil⟩).mono ?_)
        rintro e w' ⟨S7, N7, G7, x7, y7, z7, rfl, r7, f7, hb7⟩
        exact ⟨_, rfl, hK _ _ hb7 ⟨S7, N7, G7, x7, y7, z7, rfl⟩⟩
      · refine MidOk.grow ?_ (by decide) rfl
        intro val a w9 hb9 hdep hold K hK
        obtain ⟨b1, S7, N7, G7, x7, y7, z7, h1⟩ := hdep 4 202 _ rfl rfl rfl
        replace b1 := ev_tmps (b1.trans h1)
        clear hdep hold h1
        go_simp
        exact hK _ _ (Below.refl _ _) ⟨S7, N7, G7, x7, y7, z7, rfl⟩
      · refine MidOk.grow ?_ (by decide) rfl
        intro val a w9 hb9 hdep hold K hK
        obtain ⟨b1, S7, N7, G7, x7, y7, z7, h1⟩ := hdep 5 197 _ rfl rfl rfl
        replace b1 := ev_tmps (b1.trans h1)
        clear hdep hold h1
        go_simp
        exact hK _ _ (Below.refl _ _) ⟨S7, N7, G7, x7, y7, z7, rfl⟩
      · refine MidOk.both ?_ ?_ (by decide)
        · intro val a w9 hb9 hdep hold K hK
          obtain ⟨b1, S7, N7, G7, x7, y7, z7, h1⟩ := hdep 5 197 _ rfl rfl rfl
          replace b1 := ev_tmps (b1.trans h1)
          clear hdep hold h1
          go_simp
          exact hK _ _ (Below.refl _ _) rfl
        · intro val a w9 hdep hold K hK
          obtain ⟨b1, y9, h1⟩ := hdep 5 197 _ rfl rfl rfl
          replace b1 := ev_tmps (b1.trans h1)
          clear hdep hold h1
          go_simp
          exact hK _ rfl
      · refine MidOk.grow ?_ (by decide) rfl
        intro val a w9 hb9 hdep hold K hK
        have hs9 := hb9.size
        clear hdep hold
        go_simp
        exact hK _ _ (balloc (Below.refl _ _) _) ⟨_, rfl, hs9, Blk.new _ _ _⟩
      · refine MidOk.store ?_ rfl
        intro val a w9 hb9 hall hdep hold K hK
        obtain ⟨g, h2, hg, hkG⟩ := hall 8 (by decide) (by decide) rfl
        obtain ⟨S7, N7, G7, x7, y7, z7, h1⟩ := hall 6 (by decide) (by decide) rfl
        have b1 := ev_tmps ((hdep 8 32 _ rfl rfl (by decide) rfl).trans h2)
        have b2 := ev_tmps ((hdep 6 203 _ rfl rfl (by decide) rfl).trans h1)
        have hFa := hK undef
        clear hall hdep hold hK h1
        have q0 : World.cell? w9 ⟨g, 0, none⟩ = some (.slice none 0 0) := hkG.cell 0
        have f0 := hkG.frozen 0
        have q1 : World.cell? w9 ⟨g, 1, none⟩ = some (.slice none 0 0) := hkG.cell 1
        have f1 := hkG.frozen 1
        have q2 : World.cell? w9 ⟨g, 2, none⟩ = some (.slice none 0 0) := hkG.cell 2
        have f2 := hkG.frozen 2
        have fl := hkG.lt
        go_simp
        exact hFa _ ⟨⟨g, by rw [upd_ne _ (by decide)]; exact h2⟩, ((hb9.setCell (p := ⟨g, 0, none⟩) hg _).setCell (p := ⟨g, 1, none⟩) hg _).setCell (p := ⟨g, 2, none⟩) hg _⟩ trivial
      · refine MidOk.both ?_ ?_ (by decide)
        · intro val a w9 hb9 hdep hold K hK
          have b1 : a.tmps[204]?.getD undef = .int .i64 8 := ev_tmps ((hdep 7 204 _ rfl rfl rfl).1.trans (hdep 7 204 _ rfl rfl rfl).2)
          clear hdep hold
          go_simp
          exact hK _ _ (Below.refl _ _) rfl
        · intro val a w9 hdep hold K hK
          have b1 : a.tmps[204]?.getD undef = .int .i64 8 := ev_tmps ((hdep 7 204 _ rfl rfl rfl).1.trans (hdep 7 204 _ rfl rfl rfl).2)
          clear hdep hold
          go_simp
          exact hK _ rfl
      · rintro val w' ⟨⟨g, h10⟩, hb7⟩ hP
        have h12 : val 10 = .int .i64 8 := hP 10 (by decide)
        clear hP
        simp only [putL, Act.put, List.setIfInBounds_toArray, List.set_cons_zero, List.set_cons_succ, h10, h12]
        go_wp2_with fail
        go_meet
        exact ⟨⟨g, rfl⟩, rfl, hb7⟩
    case rest => as_aux_lemma =>
    obtain ⟨⟨g32, rfl⟩, rfl, hb7⟩ := hcut
    obtain ⟨W24, rfl⟩ : ∃ W24, W24 = wc := ⟨_, rfl⟩
    replace hB := bstep hB hb7
    replace hz := hz.keep hb7
    replace hf := hf.keep hb7
    replace hbx := hbx.keep hb7
    replace hbad := hbad.keep hb7
    replace ho := ho.keep hb7
    replace v11 := v11.keep hb7
    replace r11 := r11.keep hb7
    clear hb7
    clear hbad
    have q0 : World.cell? W24 ⟨gb, 0, none⟩ = some (.slice (some ⟨gf, 0, none⟩) 1 1) := hbx.cell 0
    have f0 := hbx.frozen 0
    have q1 : World.cell? W24 ⟨gb, 1, none⟩ = some (.slice (some ⟨gz, 0, none⟩) 1 1) := hbx.cell 1
    have f1 := hbx.frozen 1
    have q2 : World.cell? W24 ⟨gb, 2, none⟩ = some (.slice none 0 0) := hbx.cell 2
    have f2 := hbx.frozen 2
    have fl := hbx.lt
    go_wp2_with fail
    refine (value_lit (n1 := 1) (n2 := 1) (n3 := 0) vl1 rfl rfl rfl (by omega) (by omega) (by omega) (by omega) _ _ _ _ _ _ _ ⟨hf, hz, RL.nil⟩).mono ?_
    rintro _ w25 ⟨rfl, hb25⟩
    clear q0 q1 q2 f0 f1 f2 fl
    replace hB := bstep hB hb25
    replace hz := hz.keep hb25
    replace hf := hf.keep hb25
    replace hbx := hbx.keep hb25
    replace ho := ho.keep hb25
    replace v11 := v11.keep hb25
    replace r11 := r11.keep hb25
    clear hb25
    have q0 : World.cell? w25 ⟨gb, 0, none⟩ = some (.slice (some ⟨gf, 0, none⟩) 1 1) := hbx.cell 0
    have f0 := hbx.frozen 0
    have q1 : World.cell? w25 ⟨gb, 1, none⟩ = some (.slice (some ⟨gz, 0, none⟩) 1 1) := hbx.cell 1
    have f1 := hbx.frozen 1
    have q2 : World.cell? w25 ⟨gb, 2, none⟩ = some (.slice none 0 0) := hbx.cell 2
    have f2 := hbx.frozen 2
    have fl := hbx.lt
    go_wp2_with fail
    refine (mean_lit (n1 := 1) (n2 := 1) (n3 := 0) mn0 rfl rfl rfl (by omega) (by omega) (by omega) (by omega) _ _ _ _ _ _ _ ⟨hf, hz, RL.nil⟩).mono ?_
    rintro _ w26 ⟨rfl, hb26⟩
    clear q0 q1 q2 f0 f1 f2 fl
    replace hB := bstep hB hb26
    replace hz := hz.keep hb26
    replace hf := hf.keep hb26
    replace hbx := hbx.keep hb26
    replace ho := ho.keep hb26
    replace v11 := v11.keep hb26
    replace r11 := r11.keep hb26
    clear hb26
    have q0 : World.cell? w26 ⟨gb, 0, none⟩ = some (.slice (some ⟨gf, 0, none⟩) 1 1) := hbx.cell 0
    have f0 := hbx.frozen 0
    have q1 : World.cell? w26 ⟨gb, 1, none⟩ = some (.slice (some ⟨gz, 0, none⟩) 1 1) := hbx.cell 1
    have f1 := hbx.frozen 1
    have q2 : World.cell? w26 ⟨gb, 2, none⟩ = some (.slice none 0 0) := hbx.cell 2
    have f2 := hbx.frozen 2
    have fl := hbx.lt
    go_wp2_with fail
    obtain ⟨u26, hu26⟩ : ∃ u26, u26 = w26.alloc (.cells #[.int .i64 0, .int .i64 0] 49) := ⟨_, rfl⟩
    have hbu : Below w26.heap.size w26 u26 := by rw [hu26]; exact balloc (Below.refl _ _) _
    rw [← hu26]
    clear q0 q1 q2 f0 f1 f2 fl
    replace hB := bstep hB hbu
    replace hz := hz.keep hbu
    replace hf := hf.keep hbu
    replace hbx := hbx.keep hbu
    replace ho := ho.keep hbu
    replace v11 := v11.keep hbu
    replace r11 := r11.keep hbu
    clear hbu
    clear hu26
    refine (value_lit (n1 := 1) (n2 := 1) (n3 := 0) vl0 rfl rfl rfl (by omega) (by omega) (by omega) (by omega) _ _ _ _ _ _ _ ⟨hf, hz, RL.nil⟩).mono ?_
    rintro _ w27 ⟨rfl, hb27⟩
    replace hB := bstep hB hb27
    replace hz := hz.keep hb27
    replace hf := hf.keep hb27
    replace hbx := hbx.keep hb27
    replace ho := ho.keep hb27
    replace v11 := v11.keep hb27
    replace r11 := r11.keep hb27
    clear hb27
    clear hbx hf
    obtain ⟨i0, hi0, hz0, hz1, hz2⟩ := info_parts info_gap
    go_wp2_with fail
    obtain ⟨U27, hU27⟩ : ∃ U27, U27 = w27.alloc (.cells #[.slice (some ⟨gz, 0, none⟩) 1 1, .slice (some ⟨gz, 0, none⟩) 1 1, .slice none 0 0] 25) := ⟨_, rfl⟩
    have vM : Blk U27 w27.heap.size 25 #[.slice (some ⟨gz, 0, none⟩) 1 1, .slice (some ⟨gz, 0, none⟩) 1 1, .slice none 0 0] := by rw [hU27]; exact Blk.new _ _ _
    have hbM : Below w27.heap.size w27 U27 := by rw [hU27]; exact balloc (Below.refl _ _) _
    have hsM : U27.heap.size = w27.heap.size + 1 := by rw [hU27]; simp
    rw [← hU27]
    clear hU27
    go_loopg [43] 64 (fun gk i wr => ∃ (k : Nat) (v : Value), k + gk = 64 ∧ i = .int .i64 k ∧ Blk wr w27.heap.size 25 #[.slice (some ⟨gz, 0, none⟩) 1 1, .slice (some ⟨gz, 0, none⟩) 1 1, v] ∧ wr.ownsRow (w27.heap.size + 1) 62 2 v k ((fullL gapF k).flatMap encP) ∧ Below w27.heap.size w27 wr)
    case atStart => exact ⟨0, _, by omega, rfl, vM, World.ownsRow_nil _ _ _ _, hbM⟩
    case round =>
      obtain ⟨k, v, hk, rfl, hG, hO, hb28⟩ := hrel
      have HK := Lib.hid hk
      have hk' : k ≤ 64 := by omega
      clear hk vM hbM hsM
      obtain ⟨W28, rfl⟩ : ∃ W28, W28 = wr := ⟨_, rfl⟩
      have hs28 := hG.lt
      by_cases hlt : k < 64
      · have r0 : World.cell? W28 ⟨w27.heap.size, 0, none⟩ = some (.slice (some ⟨gz, 0, none⟩) 1 1) := hG.cell 0
        have y0 := hG.frozen 0
        have r1 : World.cell? W28 ⟨w27.heap.size, 1, none⟩ = some (.slice (some ⟨gz, 0, none⟩) 1 1) := hG.cell 1
        have y1 := hG.frozen 1
        have r2 : World.cell? W28 ⟨w27.heap.size, 2, none⟩ = some (v) := hG.cell 2
        have y2 := hG.frozen 2
        have yl := hG.lt
        go_wp2_with (at_builtin; refine wpList_append_lies _ rfl _ _ 23 rfl (w27.heap.size + 1) 62 i0 _ 2 16 Try.underlying23 hi0 hz0 hz1 hz2 rfl (by decide) _ k _ rfl (hO.alloc _) ⟨W28.heap.size, 0, none⟩ 1 1 (encP (3 * (k : Int), 1)) rfl rfl (encP_news _ _ _) (encP_one _) (by omega) (by unfold maxLen; omega) (by omega) (by simp; omega) (W28.heap.size + 1) (by simp) ?_; intro g4 c4 w4 hown4 hgrow4 hat4 hlt4; have hG7 := (hG.alloc (.cells #[.int .i64 (3 * (k : Int)), .int .i64 1] 62)).grown hgrow4 (by intro e; have := ((hO.alloc (.cells #[.int .i64 (3 * (k : Int)), .int .i64 1] 62)).lt _ e.symm).1; omega); have r4 := hG7.cell 2; have y4 := hG7.frozen 2; have y5 := hG7.lt)
        have hB7 := own_below (balloc hb28 (.cells #[.int .i64 (3 * (k : Int)), .int .i64 1] 62)) (hO.alloc (.cells #[.int .i64 (3 * (k : Int)), .int .i64 1] 62)) hgrow4 (by omega) (by simp; omega)
        go_roundg (gk - 1)
        case rel => exact ⟨k + 1, _, by have := HK.out; omega, by go_num, hG7.put 2 _, by rw [fullL_succ, flat_snoc]; exact ownsRow_setCell_below hown4 (a := ⟨w27.heap.size, 2, none⟩) (by simp) _, hB7.setCell (p := ⟨w27.heap.size, 2, none⟩) (Nat.le_refl _) _⟩
        case measure => have := HK.out; omega
      obtain rfl : k = 64 := by omega
      obtain ⟨A28, c28, rfl⟩ := own_shape hO
      have hgap : RL W28 A28 gaps64 := own_RL_at (l := gaps64) (fullL_len _ _) hO
      replace hB := bstep hB hb28
      replace hz := hz.keep hb28
      replace ho := ho.keep hb28
      replace v11 := v11.keep hb28
      replace r11 := r11.keep hb28
      clear hO hb28 hs28 hk' hlt HK
      have q0 : World.cell? W28 ⟨w27.heap.size, 0, none⟩ = some (.slice (some ⟨gz, 0, none⟩) 1 1) := hG.cell 0
      have f0 := hG.frozen 0
      have q1 : World.cell? W28 ⟨w27.heap.size, 1, none⟩ = some (.slice (some ⟨gz, 0, none⟩) 1 1) := hG.cell 1
      have f1 := hG.frozen 1
      have q2 : World.cell? W28 ⟨w27.heap.size, 2, none⟩ = some (.slice A28 64 c28) := hG.cell 2
      have f2 := hG.frozen 2
      have fl := hG.lt
      go_wp2_with fail
      refine (add_lit (n1 := 1) (n2 := 1) (n3 := 64) (nl := 1) (k1 := 0) (k2 := 0) (k3 := 0) ad8 rfl rfl (fullL_len _ _) rfl rfl rfl rfl (by omega) (by omega) (by omega) (by omega) (by omega) (by omega) _ _ _ _ _ _ _ _ _ ⟨hz, hz, hgap⟩ ho).mono ?_
      rintro _ w29 ⟨S29, N29, G29, x29, y29, z29, rfl, r29, f29, hb29⟩
      replace hB := bstep hB hb29
      replace hz := hz.keep hb29
      replace ho := ho.keep hb29
      replace v11 := v11.keep hb29
      replace r11 := r11.keep hb29
      replace hG := hG.keep hb29
      replace hgap := hgap.keep hb29
      clear hb29
      clear q0 q1 q2 f0 f1 f2 fl
      clear r29 f29
      have q0 : World.cell? w29 ⟨w27.heap.size, 0, none⟩ = some (.slice (some ⟨gz, 0, none⟩) 1 1) := hG.cell 0
      have f0 := hG.frozen 0
      have q1 : World.cell? w29 ⟨w27.heap.size, 1, none⟩ = some (.slice (some ⟨gz, 0, none⟩) 1 1) := hG.cell 1
      have f1 := hG.frozen 1
      have q2 : World.cell? w29 ⟨w27.heap.size, 2, none⟩ = some (.slice A28 64 c28) := hG.cell 2
      have f2 := hG.frozen 2
      have fl := hG.lt
      go_wp2_with fail
      obtain ⟨u29, hu29⟩ : ∃ u29, u29 = w29.alloc (.cells #[.slice S29 0 x29, .slice N29 0 y29, .slice G29 0 z29] 25) := ⟨_, rfl⟩
      have hbu : Below w29.heap.size w29 u29 := by rw [hu29]; exact balloc (Below.refl _ _) _
      have hzu : Hid (u29.heap.size = w29.heap.size + 1) := Lib.hid (by rw [hu29]; simp)
      rw [← hu29]
      replace hB := bstep hB hbu
      replace hz := hz.keep hbu
      replace ho := ho.keep hbu
      replace v11 := v11.keep hbu
      replace r11 := r11.keep hbu
      replace hgap := hgap.keep hbu
      clear hu29 hbu
      clear hzu hG
      clear q0 q1 q2 f0 f1 f2 fl
      refine (add_lit (n1 := 1) (n2 := 1) (n3 := 64) (nl := 1) (k1 := 1) (k2 := 1) (k3 := 63) ad9 rfl rfl (fullL_len _ _) rfl rfl rfl rfl (by omega) (by omega) (by omega) (by omega) (by omega) (by omega) _ _ _ _ _ _ _ _ _ ⟨hz, hz, hgap⟩ ho).mono ?_
      rintro _ w30 ⟨S30, N30, G30, x30, y30, z30, rfl, r30, f30, hb30⟩
      replace hB := bstep hB hb30
      replace v11 := v11.keep hb30
      replace r11 := r11.keep hb30
      clear hb30
      clear f30 hz ho hgap
      go_wp2_with fail
      obtain ⟨u30, hu30⟩ : ∃ u30, u30 = w30.alloc (.cells #[.slice S30 1 x30, .slice N30 1 y30, .slice G30 63 z30] 25) := ⟨_, rfl⟩
      have v30 : Blk u30 w30.heap.size 25 #[.slice S30 1 x30, .slice N30 1 y30, .slice G30 63 z30] := by rw [hu30]; exact Blk.new _ _ _
      have hbu : Below w30.heap.size w30 u30 := by rw [hu30]; exact balloc (Below.refl _ _) _
      rw [← hu30]
      replace r30 := r30.g
      replace hB := bstep hB hbu
      replace v11 := v11.keep hbu
      replace r11 := r11.keep hbu
      replace r30 := r30.keep hbu
      clear hbu
      clear hu30
      refine (alive18 _).mono ?_
      rintro _ w31 ⟨rfl, hb31⟩
      replace hB := bstep hB hb31
      replace v11 := v11.keep hb31
      replace r11 := r11.keep hb31
      replace v30 := v30.keep hb31
      replace r30 := r30.keep hb31
      clear hb31
      obtain ⟨b1, o1, e1, _, p1, p2⟩ := r11.at_ (i := 0) (by simp [aLow])
      obtain ⟨b2, o2, e2, _, p3, p4⟩ := r30.at_ (i := 0) (by simp [aNear, near63])
      subst e1
      subst e2
      simp only [aLow, aNear, near63, Nat.zero_mul, Nat.add_zero, List.getD_cons_zero] at p1 p2 p3 p4
      have q0 : World.cell? w31 ⟨g11, 0, none⟩ = some (.slice (some ⟨b1, o1, none⟩) 1 x11) := v11.cell 0
      have f0 := v11.frozen 0
      have q1 : World.cell? w31 ⟨g11, 1, none⟩ = some (.slice N11 1 y11) := v11.cell 1
      have f1 := v11.frozen 1
      have q2 : World.cell? w31 ⟨g11, 2, none⟩ = some (.slice G11 1 z11) := v11.cell 2
      have f2 := v11.frozen 2
      have fl := v11.lt
      have p0 : World.cell? w31 ⟨w30.heap.size, 0, none⟩ = some (.slice S30 1 x30) := v30.cell 0
      have pf0 := v30.frozen 0
      have p1 : World.cell? w31 ⟨w30.heap.size, 1, none⟩ = some (.slice N30 1 y30) := v30.cell 1
      have pf1 := v30.frozen 1
      have p2 : World.cell? w31 ⟨w30.heap.size, 2, none⟩ = some (.slice (some ⟨b2, o2, none⟩) 63 z30) := v30.cell 2
      have pf2 := v30.frozen 2
      have pfl := v30.lt
      clear v11 r11 v30 r30
      go_wp2
      go_ret
      exact ⟨rfl, by (repeat (first | with_reducible exact Below.refl _ _ | assumption | with_reducible refine below_drewN ?_ _ | with_reducible refine Below.drew ?_ | with_reducible refine balloc ?_ _ | (with_reducible refine Below.setCell ?_ ?_ _; rotate_left; focus (first | (simp; done) | (simp; omega) | omega))))⟩
end Go.Proofs.Ytjhigfhgchpjcaa
