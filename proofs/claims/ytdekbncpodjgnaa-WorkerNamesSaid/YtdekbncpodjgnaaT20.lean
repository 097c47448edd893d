/-
  Parts of the proof of WorkerNames: WkH.
-/
import Derived.Test.YtdekbncpodjgnaaT13
import Derived.Deep.Onto
import Derived.Test.YtdekbncpodjgnaaT03
import Derived.Deep.DrawnRows
import Derived.Deep.RegionLaw
import Derived.Laws.CopyOwn
namespace Go.Proofs.Ytdekbncpodjgnaa
open Go.RowKit
set_option linter.unusedVariables false
set_option linter.unusedSimpArgs false
namespace Wk
open Lagw
theorem open_fin2 {w w6 : World} {g base : Nat} {S N G : Option Addr} {a : Acc} {C K D T x1 x2 x3 : Nat} {r : Work × Int} (hD : w6.heap.size = D) (hT : Blk w6 T 3 ((List.replicate K (-1 : Int)).flatMap (encI .i64)).toArray) (ra : RA w6 S N G a) (fa : FA base S N G) (hg : g < base) (hgT : T ≠ g) (hb : Below w.heap.size w w6) (hgw : w.heap.size ≤ g) (hr : r = (⟨a, List.replicate C false, List.replicate K (-1)⟩, 0)) (v0 v1 v2 v3 v4 : Value) :
 RetW w r (.returned (.tuple #[.agg #[.slice S a.s.length x1, .slice N a.n.length x2, .slice G a.g.length x3, .slice (some ⟨D, 0, none⟩) C C, .slice (some ⟨T, 0, none⟩) K K], .int .i64 0])) ((((((w6.setCell ⟨g, 0, none⟩ v0).setCell ⟨g, 1, none⟩ v1).setCell ⟨g, 2, none⟩ v2).setCell ⟨g, 3, none⟩ v3).setCell ⟨g, 4, none⟩ v4).alloc (.cells ((List.replicate C false).flatMap encB).toArray 4)) := by
 subst hr
 refine ⟨S, N, G, some ⟨D, 0, none⟩, some ⟨T, 0, none⟩, x1, x2, x3, C, K, by simp, ⟨?_, ?_, ?_⟩, ?_⟩
 ·exact (((((ra.far fa (p := ⟨g, 0, none⟩) hg _).far fa (p := ⟨g, 1, none⟩) hg _).far fa (p := ⟨g, 2, none⟩) hg _).far fa (p := ⟨g, 3, none⟩) hg _).far fa (p := ⟨g, 4, none⟩) hg _).keep (balloc (Below.refl _ _) _)
 ·exact blk_RBo (Blk.newAt _ _ (by simpa [World.setCell] using hD))
 ·exact blk_RI ((((((hT.far (p := ⟨g, 0, none⟩) hgT _).far (p := ⟨g, 1, none⟩) hgT _).far (p := ⟨g, 2, none⟩) hgT _).far (p := ⟨g, 3, none⟩) hgT _).far (p := ⟨g, 4, none⟩) hgT _).alloc _)
 ·exact balloc (((((hb.setCell (p := ⟨g, 0, none⟩) hgw _).setCell (p := ⟨g, 1, none⟩) hgw _).setCell (p := ⟨g, 2, none⟩) hgw _).setCell (p := ⟨g, 3, none⟩) hgw _).setCell (p := ⟨g, 4, none⟩) hgw _) _
set_option maxRecDepth 20000 in
set_option maxHeartbeats 4000000 in
theorem wkOpen_any (X Y : Option Addr) (cx cy : Nat) (xs ys : List Int) (m s n : Int) (w : World) (hx : RI .i64 w X xs) (hy : RI .i64 w Y ys) (hl : xs.length ≤ 140737488355328) (hl2 : ys.length ≤ 140737488355328) :
 Calls Try.prog 14 #[.agg #[.slice X xs.length cx, .slice Y ys.length cy, .int .i64 m, .int .i64 s], .int .i64 n] w (RetW w (openS xs ys m s n)) := by
 have hk := Blk.new w 24 #[.slice X xs.length cx, .slice Y ys.length cy, .int .i64 m, .int .i64 s]
 have hbX : Below w.heap.size w (w.alloc (.cells #[.slice X xs.length cx, .slice Y ys.length cy, .int .i64 m, .int .i64 s] 24)) := balloc (Below.refl _ _) _
 have q0 : World.cell? (w.alloc (.cells #[.slice X xs.length cx, .slice Y ys.length cy, .int .i64 m, .int .i64 s] 24)) ⟨w.heap.size, 0, none⟩ = some (.slice X xs.length cx) := hk.cell 0
 have f0 := hk.frozen 0
 have q1 : World.cell? (w.alloc (.cells #[.slice X xs.length cx, .slice Y ys.length cy, .int .i64 m, .int .i64 s] 24)) ⟨w.heap.size, 1, none⟩ = some (.slice Y ys.length cy) := hk.cell 1
 have f1 := hk.frozen 1
 have q2 : World.cell? (w.alloc (.cells #[.slice X xs.length cx, .slice Y ys.length cy, .int .i64 m, .int .i64 s] 24)) ⟨w.heap.size, 2, none⟩ = some (.int .i64 m) := hk.cell 2
 have f2 := hk.frozen 2
 have q3 : World.cell? (w.alloc (.cells #[.slice X xs.length cx, .slice Y ys.length cy, .int .i64 m, .int .i64 s] 24)) ⟨w.heap.size, 3, none⟩ = some (.int .i64 s) := hk.cell 3
 have f3 := hk.frozen 3
 have fl := hk.lt
 have hxk := hx.keep hbX
 have hyk := hy.keep hbX
 have hz := Blk.newAt (w := w.alloc (.cells #[.slice X xs.length cx, .slice Y ys.length cy, .int .i64 m, .int .i64 s] 24)) (g := w.heap.size + 1) 42 #[.slice .none 0 0, .slice .none 0 0, .slice .none 0 0, .slice .none 0 0, .slice .none 0 0] (by simp)
 have hkz := hk.alloc (.cells #[.slice .none 0 0, .slice .none 0 0, .slice .none 0 0, .slice .none 0 0, .slice .none 0 0] 42)
 have hbZ : Below w.heap.size w ((w.alloc (.cells #[.slice X xs.length cx, .slice Y ys.length cy, .int .i64 m, .int .i64 s] 24)).alloc (.cells #[.slice .none 0 0, .slice .none 0 0, .slice .none 0 0, .slice .none 0 0, .slice .none 0 0] 42)) := balloc hbX _
 have HK := fun w hx hy => wkCheck_any X Y cx cy xs ys m s w hx hy hl hl2
 rcases (Decidable.em (jobErr xs ys m s = 0)).symm with he | he
 ·have e1 : (jobErr xs ys m s != 0) = true := by simp [he]
  have HR := Lib.hid (openS_err (n := n) he)
  clear he
  generalize jobErr xs ys m s = J at HK e1 HR
  go_enter Try.func14, Try.ntmps14
  go_wp2_with fail
  refine (HK _ (hx.keep hbZ) (hy.keep hbZ)).mono ?_
  rintro _ w1 ⟨rfl, hb1⟩
  have hz1 := hz.keep hb1
  have q0 : World.cell? w1 ⟨w.heap.size + 1, 0, none⟩ = some (.slice .none 0 0) := hz1.cell 0
  have f0 := hz1.frozen 0
  have q1 : World.cell? w1 ⟨w.heap.size + 1, 1, none⟩ = some (.slice .none 0 0) := hz1.cell 1
  have f1 := hz1.frozen 1
  have q2 : World.cell? w1 ⟨w.heap.size + 1, 2, none⟩ = some (.slice .none 0 0) := hz1.cell 2
  have f2 := hz1.frozen 2
  have q3 : World.cell? w1 ⟨w.heap.size + 1, 3, none⟩ = some (.slice .none 0 0) := hz1.cell 3
  have f3 := hz1.frozen 3
  have q4 : World.cell? w1 ⟨w.heap.size + 1, 4, none⟩ = some (.slice .none 0 0) := hz1.cell 4
  have f4 := hz1.frozen 4
  have fl := hz1.lt
  go_wp2
  have hB1 := bstep hbZ hb1
  exact bodyPost_ret (v := .tuple #[.agg #[.slice .none 0 0, .slice .none 0 0, .slice .none 0 0, .slice .none 0 0, .slice .none 0 0], .int .i64 J]) (by simp [results, Try.results14, go_sem, q0, q1, q2, q3, q4, f0, f1, f2, f3, f4, fl]) rfl (RetW.no HR.out (((((hB1.setCell (p := ⟨(w.heap.size + 1), 0, none⟩) (by first | simp | (simp; omega) | omega) _).setCell (p := ⟨(w.heap.size + 1), 1, none⟩) (by first | simp | (simp; omega) | omega) _).setCell (p := ⟨(w.heap.size + 1), 2, none⟩) (by first | simp | (simp; omega) | omega) _).setCell (p := ⟨(w.heap.size + 1), 3, none⟩) (by first | simp | (simp; omega) | omega) _).setCell (p := ⟨(w.heap.size + 1), 4, none⟩) (by first | simp | (simp; omega) | omega) _))
 ·obtain ⟨hs1, hs2, M, S, rfl, rfl, hM, hS1, hS2, hC⟩ := jobErr_zero he
  have hl5 := (streamErr_zero hs1).1
  have HR1 := Lib.hid (fun n h2 => openS_arg (n := n) he h2)
  have HR2 := Lib.hid (fun n h2 => openS_ok (n := n) he h2)
  rw [he] at HK
  clear hs1 hs2 he
  by_cases hn1 : n < 1
  ·have HR := Lib.hid (HR1.out n (.inl hn1))
   clear HR1 HR2
   go_enter Try.func14, Try.ntmps14
   go_wp2_with fail
   refine (HK _ (hx.keep hbZ) (hy.keep hbZ)).mono ?_
   rintro _ w1 ⟨rfl, hb1⟩
   have hz1 := hz.keep hb1
   have q0 : World.cell? w1 ⟨w.heap.size + 1, 0, none⟩ = some (.slice .none 0 0) := hz1.cell 0
   have f0 := hz1.frozen 0
   have q1 : World.cell? w1 ⟨w.heap.size + 1, 1, none⟩ = some (.slice .none 0 0) := hz1.cell 1
   have f1 := hz1.frozen 1
   have q2 : World.cell? w1 ⟨w.heap.size + 1, 2, none⟩ = some (.slice .none 0 0) := hz1.cell 2
   have f2 := hz1.frozen 2
   have q3 : World.cell? w1 ⟨w.heap.size + 1, 3, none⟩ = some (.slice .none 0 0) := hz1.cell 3
   have f3 := hz1.frozen 3
   have q4 : World.cell? w1 ⟨w.heap.size + 1, 4, none⟩ = some (.slice .none 0 0) := hz1.cell 4
   have f4 := hz1.frozen 4
   have fl := hz1.lt
   go_wp2
   have hB1 := bstep hbZ hb1
   exact bodyPost_ret (v := .tuple #[.agg #[.slice .none 0 0, .slice .none 0 0, .slice .none 0 0, .slice .none 0 0, .slice .none 0 0], .int .i64 2]) (by simp [results, Try.results14, go_sem, q0, q1, q2, q3, q4, f0, f1, f2, f3, f4, fl]) rfl (RetW.no HR.out (((((hB1.setCell (p := ⟨(w.heap.size + 1), 0, none⟩) (by first | simp | (simp; omega) | omega) _).setCell (p := ⟨(w.heap.size + 1), 1, none⟩) (by first | simp | (simp; omega) | omega) _).setCell (p := ⟨(w.heap.size + 1), 2, none⟩) (by first | simp | (simp; omega) | omega) _).setCell (p := ⟨(w.heap.size + 1), 3, none⟩) (by first | simp | (simp; omega) | omega) _).setCell (p := ⟨(w.heap.size + 1), 4, none⟩) (by first | simp | (simp; omega) | omega) _))
  by_cases hn6 : 6 < n
  ·have HR := Lib.hid (HR1.out n (.inr hn6))
   clear HR1 HR2
   go_enter Try.func14, Try.ntmps14
   go_wp2_with fail
   refine (HK _ (hx.keep hbZ) (hy.keep hbZ)).mono ?_
   rintro _ w1 ⟨rfl, hb1⟩
   have hz1 := hz.keep hb1
   have q0 : World.cell? w1 ⟨w.heap.size + 1, 0, none⟩ = some (.slice .none 0 0) := hz1.cell 0
   have f0 := hz1.frozen 0
   have q1 : World.cell? w1 ⟨w.heap.size + 1, 1, none⟩ = some (.slice .none 0 0) := hz1.cell 1
   have f1 := hz1.frozen 1
   have q2 : World.cell? w1 ⟨w.heap.size + 1, 2, none⟩ = some (.slice .none 0 0) := hz1.cell 2
   have f2 := hz1.frozen 2
   have q3 : World.cell? w1 ⟨w.heap.size + 1, 3, none⟩ = some (.slice .none 0 0) := hz1.cell 3
   have f3 := hz1.frozen 3
   have q4 : World.cell? w1 ⟨w.heap.size + 1, 4, none⟩ = some (.slice .none 0 0) := hz1.cell 4
   have f4 := hz1.frozen 4
   have fl := hz1.lt
   go_wp2
   have hB1 := bstep hbZ hb1
   exact bodyPost_ret (v := .tuple #[.agg #[.slice .none 0 0, .slice .none 0 0, .slice .none 0 0, .slice .none 0 0, .slice .none 0 0], .int .i64 2]) (by simp [results, Try.results14, go_sem, q0, q1, q2, q3, q4, f0, f1, f2, f3, f4, fl]) rfl (RetW.no HR.out (((((hB1.setCell (p := ⟨(w.heap.size + 1), 0, none⟩) (by first | simp | (simp; omega) | omega) _).setCell (p := ⟨(w.heap.size + 1), 1, none⟩) (by first | simp | (simp; omega) | omega) _).setCell (p := ⟨(w.heap.size + 1), 2, none⟩) (by first | simp | (simp; omega) | omega) _).setCell (p := ⟨(w.heap.size + 1), 3, none⟩) (by first | simp | (simp; omega) | omega) _).setCell (p := ⟨(w.heap.size + 1), 4, none⟩) (by first | simp | (simp; omega) | omega) _))
  obtain ⟨K, rfl⟩ : ∃ K : Nat, n = K := ⟨n.toNat, by omega⟩
  have HV := Lib.hid (HR2.out K (by omega))
  have d1 : decide ((K : Int) < 1) = false := decide_eq_false hn1
  have d2 : decide (6 < (K : Int)) = false := decide_eq_false hn6
  have HC := fun w => wkblk_any X Y xs.length ys.length cx cy M S w hS1 hS2 hl5
  have HN := fun w => accNew_any (M : Int) w (by omega)
  have HNE : newS (M : Int) = ((newS (M : Int)).1, 0) := by rw [newS_yes (m := M) (by omega)]
  have HI := fun w => idle_any K w (by omega)
  obtain ⟨b0, hb0, hv0, hv1, hv2⟩ := info_parts info_bool
  have hmk := mk_row (P := Try.prog) 40 4 Try.underlying40 hb0 hv0 hv1 hv2 encB encB_len (by omega) false rfl (cdiv xs.length S) (by omega) (by omega)
  generalize hCe : cdiv xs.length S = C at HV HC hC hmk
  rw [HNE] at HN
  generalize (newS (M : Int)).1 = a0 at HV HN
  clear HR1 HR2 HNE hCe
  go_enter Try.func14, Try.ntmps14
  go_wp2_with fail
  refine (HK _ (hx.keep hbZ) (hy.keep hbZ)).mono ?_
  rintro _ w1 ⟨rfl, hb1⟩
  have hB1 := bstep hbZ hb1
  have hk1 := hkz.keep hb1
  have hz1 := hz.keep hb1
  have q0 : World.cell? w1 ⟨w.heap.size, 0, none⟩ = some (.slice X xs.length cx) := hk1.cell 0
  have f0 := hk1.frozen 0
  have q1 : World.cell? w1 ⟨w.heap.size, 1, none⟩ = some (.slice Y ys.length cy) := hk1.cell 1
  have f1 := hk1.frozen 1
  have q2 : World.cell? w1 ⟨w.heap.size, 2, none⟩ = some (.int .i64 (M : Int)) := hk1.cell 2
  have f2 := hk1.frozen 2
  have q3 : World.cell? w1 ⟨w.heap.size, 3, none⟩ = some (.int .i64 (S : Int)) := hk1.cell 3
  have f3 := hk1.frozen 3
  have fl := hk1.lt
  go_wp2_with fail
  refine (HN _).mono ?_
  rintro _ w2 ⟨S2, N2, G2, x1, x2, x3, rfl, ra, fa, hb2⟩
  have hB2 := bstep hB1 hb2
  have hs12 := hb2.size
  have hz1l := hz1.lt
  go_wp2
  obtain ⟨w3, hw3⟩ : ∃ w3, w3 = w2.alloc (.cells #[.slice S2 a0.s.length x1, .slice N2 a0.n.length x2, .slice G2 a0.g.length x3] 39) := ⟨_, rfl⟩
  have hb3 : Below w2.heap.size w2 w3 := by rw [hw3]; exact balloc (Below.refl _ _) _
  have ha3 : Blk w3 w2.heap.size 39 #[.slice S2 a0.s.length x1, .slice N2 a0.n.length x2, .slice G2 a0.g.length x3] := by rw [hw3]; exact Blk.new _ _ _
  rw [← hw3]
  clear hw3
  have hB3 := bstep hB2 hb3
  have hb13 := hb3
  have hk3 := (hk1.keep hb2).keep hb3
  have hz3 := (hz1.keep hb2).keep hb3
  have ra3 := ra.keep hb3
  have HZ := Lib.hid (fun W (hW : Below w3.heap.size w3 W) => hz3.keep hW)
  clear hk hkz hz hz1 hk1 hb1 hb2 hb3 ra hB1 hB2 q0 q1 q2 q3 f0 f1 f2 f3 fl hbX hbZ
  have q0 : World.cell? w3 ⟨w.heap.size, 0, none⟩ = some (.slice X xs.length cx) := hk3.cell 0
  have f0 := hk3.frozen 0
  have q1 : World.cell? w3 ⟨w.heap.size, 1, none⟩ = some (.slice Y ys.length cy) := hk3.cell 1
  have f1 := hk3.frozen 1
  have q2 : World.cell? w3 ⟨w.heap.size, 2, none⟩ = some (.int .i64 (M : Int)) := hk3.cell 2
  have f2 := hk3.frozen 2
  have q3 : World.cell? w3 ⟨w.heap.size, 3, none⟩ = some (.int .i64 (S : Int)) := hk3.cell 3
  have f3 := hk3.frozen 3
  have fl := hk3.lt
  have p0 : World.cell? w3 ⟨w2.heap.size, 0, none⟩ = some (.slice S2 a0.s.length x1) := ha3.cell 0
  have g0 := ha3.frozen 0
  have p1 : World.cell? w3 ⟨w2.heap.size, 1, none⟩ = some (.slice N2 a0.n.length x2) := ha3.cell 1
  have g1 := ha3.frozen 1
  have p2 : World.cell? w3 ⟨w2.heap.size, 2, none⟩ = some (.slice G2 a0.g.length x3) := ha3.cell 2
  have g2 := ha3.frozen 2
  have gl := ha3.lt
  have hsz3 := hz3.lt
  have HA := Lib.hid (fun W (hW : Below w3.heap.size w3 W) => (show W.cell? ⟨w2.heap.size, 0, none⟩ = some (.slice S2 a0.s.length x1) ∧ W.cell? ⟨w2.heap.size, 1, none⟩ = some (.slice N2 a0.n.length x2) ∧ W.cell? ⟨w2.heap.size, 2, none⟩ = some (.slice G2 a0.g.length x3) ∧ w2.heap.size < W.heap.size from ⟨(ha3.keep hW).cell 0, (ha3.keep hW).cell 1, (ha3.keep hW).cell 2, (ha3.keep hW).lt⟩))
  go_region_law
   ((first
     |(go_simp; go_at_call 39; (with_reducible refine (HC w3.drew).mono ?_); rintro e w4 ⟨rfl, hb4'⟩; have hb4 : Below w3.heap.size w3 w4 := bstep (Below.drew (Below.refl _ _)) hb4'; have p4 : w4.cell? ⟨w2.heap.size, 0, none⟩ = some (.slice S2 a0.s.length x1) := (HA.out _ hb4).1; have p5 : w4.cell? ⟨w2.heap.size, 1, none⟩ = some (.slice N2 a0.n.length x2) := (HA.out _ hb4).2.1; have p6 : w4.cell? ⟨w2.heap.size, 2, none⟩ = some (.slice G2 a0.g.length x3) := (HA.out _ hb4).2.2.1; have p7 : w2.heap.size < w4.heap.size := (HA.out _ hb4).2.2.2)
     |(go_simp; go_at_call 44; (with_reducible refine (HI w4).mono ?_); rintro e w6 ⟨rfl, hT6, hb6⟩; have hb36 : Below w3.heap.size w3 w6 := bstep hb4 hb6; have hz6 := HZ.out w6 hb36; have r4 : w6.cell? ⟨w2.heap.size, 0, none⟩ = some (.slice S2 a0.s.length x1) := (HA.out _ hb36).1; have r5 : w6.cell? ⟨w2.heap.size, 1, none⟩ = some (.slice N2 a0.n.length x2) := (HA.out _ hb36).2.1; have r6 : w6.cell? ⟨w2.heap.size, 2, none⟩ = some (.slice G2 a0.g.length x3) := (HA.out _ hb36).2.2.1; have r7 : w2.heap.size < w6.heap.size := (HA.out _ hb36).2.2.2; have q0 : w6.cell? ⟨w.heap.size + 1, 0, none⟩ = some (.slice .none 0 0) := hz6.cell 0; have q1 : w6.cell? ⟨w.heap.size + 1, 1, none⟩ = some (.slice .none 0 0) := hz6.cell 1; have q2 : w6.cell? ⟨w.heap.size + 1, 2, none⟩ = some (.slice .none 0 0) := hz6.cell 2; have q3 : w6.cell? ⟨w.heap.size + 1, 3, none⟩ = some (.slice .none 0 0) := hz6.cell 3; have q4 : w6.cell? ⟨w.heap.size + 1, 4, none⟩ = some (.slice .none 0 0) := hz6.cell 4; have f0 := hz6.frozen 0; have f1 := hz6.frozen 1; have f2 := hz6.frozen 2; have f3 := hz6.frozen 3; have f4 := hz6.frozen 4; have fl := hz6.lt)
     |(go_simp; go_at_call 44; (with_reducible refine (HI (w4.alloc (.cells ((List.replicate C false).flatMap encB).toArray 4))).mono ?_); rintro e w6 ⟨rfl, hT6, hb6⟩; rw [show (w4.alloc (.cells ((List.replicate C false).flatMap encB).toArray 4)).heap.size = w4.heap.size + 1 from by simp] at hT6; have hD6 := (Blk.new w4 4 ((List.replicate C false).flatMap encB).toArray).keep hb6; have hb36 : Below w3.heap.size w3 w6 := bstep (balloc hb4 _) hb6; have hz6 := HZ.out w6 hb36; have r4 : w6.cell? ⟨w2.heap.size, 0, none⟩ = some (.slice S2 a0.s.length x1) := (HA.out _ hb36).1; have r5 : w6.cell? ⟨w2.heap.size, 1, none⟩ = some (.slice N2 a0.n.length x2) := (HA.out _ hb36).2.1; have r6 : w6.cell? ⟨w2.heap.size, 2, none⟩ = some (.slice G2 a0.g.length x3) := (HA.out _ hb36).2.2.1; have r7 : w2.heap.size < w6.heap.size := (HA.out _ hb36).2.2.2; have q0 : w6.cell? ⟨w.heap.size + 1, 0, none⟩ = some (.slice .none 0 0) := hz6.cell 0; have q1 : w6.cell? ⟨w.heap.size + 1, 1, none⟩ = some (.slice .none 0 0) := hz6.cell 1; have q2 : w6.cell? ⟨w.heap.size + 1, 2, none⟩ = some (.slice .none 0 0) := hz6.cell 2; have q3 : w6.cell? ⟨w.heap.size + 1, 3, none⟩ = some (.slice .none 0 0) := hz6.cell 3; have q4 : w6.cell? ⟨w.heap.size + 1, 4, none⟩ = some (.slice .none 0 0) := hz6.cell 4; have f0 := hz6.frozen 0; have f1 := hz6.frozen 1; have f2 := hz6.frozen 2; have f3 := hz6.frozen 3; have f4 := hz6.frozen 4; have fl := hz6.lt)
     | fail))
  all_goals
   have ra6 := ra3.keep hb36
   have hB6 := bstep hB3 hb36
   have h34 := hb4.size
   have h46 := hb36.size
   have h13 := hb13.size
   clear HA HZ HC HI HK
   go_wp2
   first
    |(have hD7 := hD6
      refine bodyPost_ret (v := .tuple #[.agg #[.slice S2 a0.s.length x1, .slice N2 a0.n.length x2, .slice G2 a0.g.length x3, .slice (some ⟨w4.heap.size, 0, none⟩) C C, .slice (some ⟨w4.heap.size + 1, 0, none⟩) K K], .int .i64 0]) (by simp [results, Try.results14, go_sem, q0, q1, q2, q3, q4, f0, f1, f2, f3, f4, fl]) rfl ?_
      refine open_fin hD7 hT6 ra6 fa hz1l ?_ ?_ hB6 ?_ HV.out _ _ _ _ _ <;> omega)
    |(refine bodyPost_ret (v := .tuple #[.agg #[.slice S2 a0.s.length x1, .slice N2 a0.n.length x2, .slice G2 a0.g.length x3, .slice (some ⟨w6.heap.size, 0, none⟩) C C, .slice (some ⟨w4.heap.size, 0, none⟩) K K], .int .i64 0]) (by simp [results, Try.results14, go_sem, q0, q1, q2, q3, q4, f0, f1, f2, f3, f4, fl]) rfl ?_
      refine open_fin2 rfl hT6 ra6 fa hz1l ?_ hB6 ?_ HV.out _ _ _ _ _ <;> omega)
    | fail
end Wk
end Go.Proofs.Ytdekbncpodjgnaa
