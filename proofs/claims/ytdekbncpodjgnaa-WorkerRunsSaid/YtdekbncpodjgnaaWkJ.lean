/-
  Jobs of layer 19. Contract: fringeref19.Open.
-/
import Derived.Test.YtdekbncpodjgnaaWkI
import Derived.Deep.Onto
import Derived.Test.YtdekbncpodjgnaaAppend
import Derived.Deep.DrawnRows
import Derived.Deep.RegionLaw
import Derived.Laws.CopyOwn
namespace Go.Proofs.Ytdekbncpodjgnaa
open Go.RowKit
set_option linter.unusedVariables false
set_option linter.unusedSimpArgs false
namespace Wk
open Lagw

/-- What is read off blocks that stayed. -/
theorem RL_heap {w w' : World} {g B : Nat} {A : Option Addr} {l : List (Int × Int)} (h : RL w A l) (hf : Fresh (g + 1) A) (hB : w.heap.size = B) (hh : ∀ b, b < B → b ≠ g → w'.heap[b]? = w.heap[b]?) (hs : w.heap.size ≤ w'.heap.size) : RL w' A l := by
  subst hB
  intro h0
  obtain ⟨b, off, e, hlt, hc⟩ := h h0
  have hb := hf _ e
  simp only at hb
  have e2 := hh b hlt (by omega)
  have hcell : ∀ k, w'.cell? ⟨b, k, none⟩ = w.cell? ⟨b, k, none⟩ := fun k => World.cell?_of_block (a := ⟨b, k, none⟩) e2
  exact ⟨b, off, e, Nat.lt_of_lt_of_le hlt hs, fun j hj => by rw [hcell, hcell]; exact hc j hj⟩
/-- The loop's invariant: a box of a work whose last slice grows. -/
structure OI (w4 wr : World) (g : Nat) (vS vN vG vD vT : Value) (k : Nat) : Prop where
  box : Blk wr g 42 #[vS, vN, vG, vD, vT]
  own : wr.ownsRow w4.heap.size 3 1 vT k ((List.replicate k (-1 : Int)).flatMap (encI .i64))
  hh : ∀ b, b < w4.heap.size → b ≠ g → wr.heap[b]? = w4.heap[b]?
  bel : Below g w4 wr
  sz : w4.heap.size ≤ wr.heap.size
theorem rep_succ (k : Nat) : (List.replicate (k + 1) (-1 : Int)).flatMap (encI .i64) = (List.replicate k (-1 : Int)).flatMap (encI .i64) ++ encI .i64 (-1) := by
  rw [List.replicate_succ', List.flatMap_append]
  simp
theorem OI.step {w4 wr wB : World} {g k g5 c5 : Nat} {vS vN vG vD vT : Value} {o : Obj} (h : OI w4 wr g vS vN vG vD vT k) (hg : g < w4.heap.size) (hown : wB.ownsRow w4.heap.size 3 1 (.slice (some ⟨g5, 0, none⟩) (k + 1) c5) (k + 1) ((List.replicate k (-1 : Int)).flatMap (encI .i64) ++ encI .i64 (-1))) (hgrow : (wr.alloc o).grownBy wB vT.ownBlock) :
    OI w4 (wB.setCell ⟨g, 4, none⟩ (.slice (some ⟨g5, 0, none⟩) (k + 1) c5)) g vS vN vG vD (.slice (some ⟨g5, 0, none⟩) (k + 1) c5) (k + 1) := by
  have hne : ∀ b, b < w4.heap.size → some b ≠ vT.ownBlock := fun b hb e => by
    have := (h.own.lt b e.symm).1
    omega
  have hsz := hgrow.size
  have hsa : (wr.alloc o).heap.size = wr.heap.size + 1 := by simp
  have hsr := h.sz
  refine ⟨((h.box.alloc o).grown hgrow (hne g hg)).put 4 _, ?_, fun b hb hbg => ?_, ?_, ?_⟩
  · rw [rep_succ]
    exact ownsRow_setCell_below hown (a := ⟨g, 4, none⟩) hg _
  · rw [Below.heap_setCell wB _ _ b hbg, hgrow.block b (by omega) (hne b hb), Below.heap_alloc wr o b (by omega)]
    exact h.hh b hb hbg
  · have h1 : Below g w4 (wr.alloc o) := h.bel.alloc (by omega) o
    exact (h1.grown hgrow (by omega) (fun b e => by have := (h.own.lt b e).1; omega)).setCell (p := ⟨g, 4, none⟩) (Nat.le_refl _) _
  · simp [World.setCell]
    omega
theorem open_fin3 {w w6 : World} {g base bt : Nat} {S N G A1 : Option Addr} {a : Acc} {C K D x1 x2 x3 t1 : Nat} {r : Work × Int} (hD : Blk w6 D 4 ((List.replicate C false).flatMap encB).toArray) (hT : w6.ownsRow bt 3 1 (.slice A1 K t1) K ((List.replicate K (-1 : Int)).flatMap (encI .i64))) (ra : RA w6 S N G a) (fa : FA (base + 1) S N G) (hg : g < base) (hgD : D ≠ g) (hgT : g < bt) (hb : Below w.heap.size w w6) (hgw : w.heap.size ≤ g) (hr : r = (⟨a, List.replicate C false, List.replicate K (-1)⟩, 0)) (v0 v1 v2 v3 v4 : Value) :
    RetW w r (.returned (.tuple #[.agg #[.slice S a.s.length x1, .slice N a.n.length x2, .slice G a.g.length x3, .slice (some ⟨D, 0, none⟩) C C, .slice A1 K t1], .int .i64 0])) (((((w6.setCell ⟨g, 0, none⟩ v0).setCell ⟨g, 1, none⟩ v1).setCell ⟨g, 2, none⟩ v2).setCell ⟨g, 3, none⟩ v3).setCell ⟨g, 4, none⟩ v4) := by
  subst hr
  have hg' : g < base + 1 := by omega
  refine ⟨S, N, G, some ⟨D, 0, none⟩, A1, x1, x2, x3, C, t1, by simp, ⟨?_, ?_, ?_⟩, ?_⟩
  · exact ((((ra.far fa (p := ⟨g, 0, none⟩) hg' _).far fa (p := ⟨g, 1, none⟩) hg' _).far fa (p := ⟨g, 2, none⟩) hg' _).far fa (p := ⟨g, 3, none⟩) hg' _).far fa (p := ⟨g, 4, none⟩) hg' _
  · exact blk_RBo (((((hD.far (p := ⟨g, 0, none⟩) hgD _).far (p := ⟨g, 1, none⟩) hgD _).far (p := ⟨g, 2, none⟩) hgD _).far (p := ⟨g, 3, none⟩) hgD _).far (p := ⟨g, 4, none⟩) hgD _)
  · exact own_RI_at List.length_replicate (ownsRow_setCell_below (ownsRow_setCell_below (ownsRow_setCell_below (ownsRow_setCell_below (ownsRow_setCell_below hT (a := ⟨g, 0, none⟩) hgT _) (a := ⟨g, 1, none⟩) hgT _) (a := ⟨g, 2, none⟩) hgT _) (a := ⟨g, 3, none⟩) hgT _) (a := ⟨g, 4, none⟩) hgT _)
  · exact ((((hb.setCell (p := ⟨g, 0, none⟩) hgw _).setCell (p := ⟨g, 1, none⟩) hgw _).setCell (p := ⟨g, 2, none⟩) hgw _).setCell (p := ⟨g, 3, none⟩) hgw _).setCell (p := ⟨g, 4, none⟩) hgw _
theorem info_bool' : (Try.prog.info? 4).map (fun i => (i.zero, i.size, i.bytes)) = some (some (.bool false), 1, 1) := by kernel_rfl
set_option maxRecDepth 20000 in
set_option maxHeartbeats 4000000 in
theorem refOpen_any (X Y : Option Addr) (cx cy : Nat) (xs ys : List Int) (m s n : Int) (w : World) (hx : RI .i64 w X xs) (hy : RI .i64 w Y ys) (hl : xs.length ≤ 140737488355328) (hl2 : ys.length ≤ 140737488355328) :
    Calls Try.prog 15 #[.agg #[.slice X xs.length cx, .slice Y ys.length cy, .int .i64 m, .int .i64 s], .int .i64 n] w (RetW w (openS xs ys m s n)) := by
  have hk := Blk.new w 24 #[.slice X xs.length cx, .slice Y ys.length cy, .int .i64 m, .int .i64 s]
  have hbX : Below w.heap.size w (w.alloc (.cells #[.slice X xs.length cx, .slice Y ys.length cy, .int .i64 m, .int .i64 s] 24)) := balloc (Below.refl _ _) _
  have q0 : World.cell? (w.alloc (.cells #[.slice X xs.length cx, .slice Y ys.length cy, .int .i64 m, .int .i64 s] 24)) ⟨w.heap.size, 0, none⟩ = some (.slice X xs.length cx) := hk.cell 0
  have f0 := hk.frozen 0
  have q1 : World.cell? (w.alloc (.cells #[.slice X xs.length cx, .slice Y ys.length cy, .int .i64 m, .int .i64 s] 24)) ⟨w.heap.size, 1, none⟩ = some (.slice Y ys.length cy) := hk.cell 1
  have f1 := hk.frozen 1
  have q2 : World.cell? (w.alloc (.cells #[.slice X xs.length cx, .slice Y ys.length cy, .int .i64 m, .int .i64 s] 24)) ⟨w.heap.size, 2, none⟩ = some (.int .i64 m) := hk.cell 2
  have f2 := hk.frozen 2
  have q3 : World.cell? (w.alloc (.cells #[.slice X xs.length cx, .slice Y ys.length cy, .int .i64 m, .int .i64 s] 24)) ⟨w.heap.size, 3, none⟩ = some (.int .i64 s) := hk.cell 3
  have f3 := hk.frozen 3
  have fl := hk.lt
  have hxk := hx.keep hbX
  have hyk := hy.keep hbX
  have hz := Blk.newAt (w := w.alloc (.cells #[.slice X xs.length cx, .slice Y ys.length cy, .int .i64 m, .int .i64 s] 24)) (g := w.heap.size + 1) 42 #[.slice .none 0 0, .slice .none 0 0, .slice .none 0 0, .slice .none 0 0, .slice .none 0 0] (by simp)
  have hkz := hk.alloc (.cells #[.slice .none 0 0, .slice .none 0 0, .slice .none 0 0, .slice .none 0 0, .slice .none 0 0] 42)
  have hbZ : Below w.heap.size w ((w.alloc (.cells #[.slice X xs.length cx, .slice Y ys.length cy, .int .i64 m, .int .i64 s] 24)).alloc (.cells #[.slice .none 0 0, .slice .none 0 0, .slice .none 0 0, .slice .none 0 0, .slice .none 0 0] 42)) := balloc hbX _
  have HK := fun w hx hy => refCheckJ_any X Y cx cy xs ys m s w hx hy hl hl2
  rcases (Decidable.em (jobErr xs ys m s = 0)).symm with he | he
  · have e1 : (jobErr xs ys m s != 0) = true := by simp [he]
    have HR := Lib.hid (openS_err (n := n) he)
    clear he
    generalize jobErr xs ys m s = J at HK e1 HR
    go_enter Try.func15, Try.ntmps15
    go_wp2_with fail
    refine (HK _ (hx.keep hbZ) (hy.keep hbZ)).mono ?_
    rintro _ w1 ⟨rfl, hb1⟩
    have hB1 := bstep hbZ hb1
    have hk1 := hkz.keep hb1
    have p0 : World.cell? w1 ⟨w.heap.size, 0, none⟩ = some (.slice X xs.length cx) := hk1.cell 0
    have g0 := hk1.frozen 0
    have p1 : World.cell? w1 ⟨w.heap.size, 1, none⟩ = some (.slice Y ys.length cy) := hk1.cell 1
    have g1 := hk1.frozen 1
    have p2 : World.cell? w1 ⟨w.heap.size, 2, none⟩ = some (.int .i64 m) := hk1.cell 2
    have g2 := hk1.frozen 2
    have p3 : World.cell? w1 ⟨w.heap.size, 3, none⟩ = some (.int .i64 s) := hk1.cell 3
    have g3 := hk1.frozen 3
    have gl := hk1.lt
    go_wp2_with fail
    refine (HK _ (hx.keep hB1) (hy.keep hB1)).mono ?_
    rintro _ w2 ⟨rfl, hb2⟩
    have hz1 := (hz.keep hb1).keep hb2
    have q0 : World.cell? w2 ⟨w.heap.size + 1, 0, none⟩ = some (.slice .none 0 0) := hz1.cell 0
    have f0 := hz1.frozen 0
    have q1 : World.cell? w2 ⟨w.heap.size + 1, 1, none⟩ = some (.slice .none 0 0) := hz1.cell 1
    have f1 := hz1.frozen 1
    have q2 : World.cell? w2 ⟨w.heap.size + 1, 2, none⟩ = some (.slice .none 0 0) := hz1.cell 2
    have f2 := hz1.frozen 2
    have q3 : World.cell? w2 ⟨w.heap.size + 1, 3, none⟩ = some (.slice .none 0 0) := hz1.cell 3
    have f3 := hz1.frozen 3
    have q4 : World.cell? w2 ⟨w.heap.size + 1, 4, none⟩ = some (.slice .none 0 0) := hz1.cell 4
    have f4 := hz1.frozen 4
    have fl := hz1.lt
    go_wp2
    have hB2 := bstep hB1 hb2
    exact bodyPost_ret (v := .tuple #[.agg #[.slice .none 0 0, .slice .none 0 0, .slice .none 0 0, .slice .none 0 0, .slice .none 0 0], .int .i64 J]) (by simp [results, Try.results15, go_sem, q0, q1, q2, q3, q4, f0, f1, f2, f3, f4, fl]) rfl (RetW.no HR.out (((((hB2.setCell (p := ⟨(w.heap.size + 1), 0, none⟩) (by first | simp | (simp; omega) | omega) _).setCell (p := ⟨(w.heap.size + 1), 1, none⟩) (by first | simp | (simp; omega) | omega) _).setCell (p := ⟨(w.heap.size + 1), 2, none⟩) (by first | simp | (simp; omega) | omega) _).setCell (p := ⟨(w.heap.size + 1), 3, none⟩) (by first | simp | (simp; omega) | omega) _).setCell (p := ⟨(w.heap.size + 1), 4, none⟩) (by first | simp | (simp; omega) | omega) _))
  · obtain ⟨hs1, hs2, M, S, rfl, rfl, hM, hS1, hS2, hC⟩ := jobErr_zero he
    have hl5 := (streamErr_zero hs1).1
    have HR1 := Lib.hid (fun n h2 => openS_arg (n := n) he h2)
    have HR2 := Lib.hid (fun n h2 => openS_ok (n := n) he h2)
    rw [he] at HK
    clear hs1 hs2 he
    by_cases hn1 : n < 1
    · have HR := Lib.hid (HR1.out n (.inl hn1))
      clear HR1 HR2
      go_enter Try.func15, Try.ntmps15
      go_wp2_with fail
      refine (HK _ (hx.keep hbZ) (hy.keep hbZ)).mono ?_
      rintro _ w1 ⟨rfl, hb1⟩
      have hz1 := hz.keep hb1
      have q0 : World.cell? w1 ⟨w.heap.size + 1, 0, none⟩ = some (.slice .none 0 0) := hz1.cell 0
      have f0 := hz1.frozen 0
      have q1 : World.cell? w1 ⟨w.heap.size + 1, 1, none⟩ = some (.slice .none 0 0) := hz1.cell 1
      have f1 := hz1.frozen 1
      have q2 : World.cell? w1 ⟨w.heap.size + 1, 2, none⟩ = some (.slice .none 0 0) := hz1.cell 2
      have f2 := hz1.frozen 2
      have q3 : World.cell? w1 ⟨w.heap.size + 1, 3, none⟩ = some (.slice .none 0 0) := hz1.cell 3
      have f3 := hz1.frozen 3
      have q4 : World.cell? w1 ⟨w.heap.size + 1, 4, none⟩ = some (.slice .none 0 0) := hz1.cell 4
      have f4 := hz1.frozen 4
      have fl := hz1.lt
      go_wp2
      have hB1 := bstep hbZ hb1
      exact bodyPost_ret (v := .tuple #[.agg #[.slice .none 0 0, .slice .none 0 0, .slice .none 0 0, .slice .none 0 0, .slice .none 0 0], .int .i64 2]) (by simp [results, Try.results15, go_sem, q0, q1, q2, q3, q4, f0, f1, f2, f3, f4, fl]) rfl (RetW.no HR.out (((((hB1.setCell (p := ⟨(w.heap.size + 1), 0, none⟩) (by first | simp | (simp; omega) | omega) _).setCell (p := ⟨(w.heap.size + 1), 1, none⟩) (by first | simp | (simp; omega) | omega) _).setCell (p := ⟨(w.heap.size + 1), 2, none⟩) (by first | simp | (simp; omega) | omega) _).setCell (p := ⟨(w.heap.size + 1), 3, none⟩) (by first | simp | (simp; omega) | omega) _).setCell (p := ⟨(w.heap.size + 1), 4, none⟩) (by first | simp | (simp; omega) | omega) _))
    by_cases hn6 : 6 < n
    · have HR := Lib.hid (HR1.out n (.inr hn6))
      clear HR1 HR2
      go_enter Try.func15, Try.ntmps15
      go_wp2_with fail
      refine (HK _ (hx.keep hbZ) (hy.keep hbZ)).mono ?_
      rintro _ w1 ⟨rfl, hb1⟩
      have hz1 := hz.keep hb1
      have q0 : World.cell? w1 ⟨w.heap.size + 1, 0, none⟩ = some (.slice .none 0 0) := hz1.cell 0
      have f0 := hz1.frozen 0
      have q1 : World.cell? w1 ⟨w.heap.size + 1, 1, none⟩ = some (.slice .none 0 0) := hz1.cell 1
      have f1 := hz1.frozen 1
      have q2 : World.cell? w1 ⟨w.heap.size + 1, 2, none⟩ = some (.slice .none 0 0) := hz1.cell 2
      have f2 := hz1.frozen 2
      have q3 : World.cell? w1 ⟨w.heap.size + 1, 3, none⟩ = some (.slice .none 0 0) := hz1.cell 3
      have f3 := hz1.frozen 3
      have q4 : World.cell? w1 ⟨w.heap.size + 1, 4, none⟩ = some (.slice .none 0 0) := hz1.cell 4
      have f4 := hz1.frozen 4
      have fl := hz1.lt
      go_wp2
      have hB1 := bstep hbZ hb1
      exact bodyPost_ret (v := .tuple #[.agg #[.slice .none 0 0, .slice .none 0 0, .slice .none 0 0, .slice .none 0 0, .slice .none 0 0], .int .i64 2]) (by simp [results, Try.results15, go_sem, q0, q1, q2, q3, q4, f0, f1, f2, f3, f4, fl]) rfl (RetW.no HR.out (((((hB1.setCell (p := ⟨(w.heap.size + 1), 0, none⟩) (by first | simp | (simp; omega) | omega) _).setCell (p := ⟨(w.heap.size + 1), 1, none⟩) (by first | simp | (simp; omega) | omega) _).setCell (p := ⟨(w.heap.size + 1), 2, none⟩) (by first | simp | (simp; omega) | omega) _).setCell (p := ⟨(w.heap.size + 1), 3, none⟩) (by first | simp | (simp; omega) | omega) _).setCell (p := ⟨(w.heap.size + 1), 4, none⟩) (by first | simp | (simp; omega) | omega) _))
    obtain ⟨K, rfl⟩ : ∃ K : Nat, n = K := ⟨n.toNat, by omega⟩
    have HV := Lib.hid (HR2.out K (by omega))
    have d1 : decide ((K : Int) < 1) = false := decide_eq_false hn1
    have d2 : decide (6 < (K : Int)) = false := decide_eq_false hn6
    have HC := fun w => refCount_any X Y xs.length ys.length cx cy M S w hS1 hS2 hl5
    have HN := fun w => refNew_any (M : Int) w (by omega)
    have HNE : newS (M : Int) = ((newS (M : Int)).1, 0) := by rw [newS_yes (m := M) (by omega)]
    obtain ⟨b0, hb0, hv0, hv1, hv2⟩ := info_parts info_bool'
    obtain ⟨i0, hi0, hz0, hzz1, hz2⟩ := info_parts info_int
    have hmk := mk_row (P := Try.prog) 40 4 Try.underlying40 hb0 hv0 hv1 hv2 encB encB_len (by omega) false rfl (cdiv xs.length S) (by omega) (by omega)
    generalize hCe : cdiv xs.length S = C at HV HC hC hmk
    rw [HNE] at HN
    generalize (newS (M : Int)).1 = a0 at HV HN
    clear HR1 HR2 HNE hCe
    go_enter Try.func15, Try.ntmps15
    go_wp2_with fail
    refine (HK _ (hx.keep hbZ) (hy.keep hbZ)).mono ?_
    rintro _ w1 ⟨rfl, hb1⟩
    have hB1 := bstep hbZ hb1
    have hk1 := hkz.keep hb1
    have hz1 := hz.keep hb1
    have q0 : World.cell? w1 ⟨w.heap.size, 0, none⟩ = some (.slice X xs.length cx) := hk1.cell 0
    have f0 := hk1.frozen 0
    have q1 : World.cell? w1 ⟨w.heap.size, 1, none⟩ = some (.slice Y ys.length cy) := hk1.cell 1
    have f1 := hk1.frozen 1
    have q2 : World.cell? w1 ⟨w.heap.size, 2, none⟩ = some (.int .i64 (M : Int)) := hk1.cell 2
    have f2 := hk1.frozen 2
    have q3 : World.cell? w1 ⟨w.heap.size, 3, none⟩ = some (.int .i64 (S : Int)) := hk1.cell 3
    have f3 := hk1.frozen 3
    have fl := hk1.lt
    go_wp2_with fail
    refine (HC _).mono ?_
    rintro _ w2 ⟨rfl, hb2⟩
    have hB2 := bstep hB1 hb2
    have hk2 := hk1.keep hb2
    have hz2' := hz1.keep hb2
    have q0 : World.cell? w2 ⟨w.heap.size, 0, none⟩ = some (.slice X xs.length cx) := hk2.cell 0
    have f0 := hk2.frozen 0
    have q1 : World.cell? w2 ⟨w.heap.size, 1, none⟩ = some (.slice Y ys.length cy) := hk2.cell 1
    have f1 := hk2.frozen 1
    have q2 : World.cell? w2 ⟨w.heap.size, 2, none⟩ = some (.int .i64 (M : Int)) := hk2.cell 2
    have f2 := hk2.frozen 2
    have q3 : World.cell? w2 ⟨w.heap.size, 3, none⟩ = some (.int .i64 (S : Int)) := hk2.cell 3
    have f3 := hk2.frozen 3
    have fl := hk2.lt
    go_wp2_with fail
    refine (HN _).mono ?_
    rintro _ w3 ⟨S2, N2, G2, x1, x2, x3, rfl, ra, fa, hb3⟩
    have hB3' : Below w.heap.size w ((w2.alloc (.cells ((List.replicate C false).flatMap encB).toArray 4)).alloc (.cells #[.slice .none 0 0, .slice .none 0 0, .slice .none 0 0, .slice (some ⟨w2.heap.size, 0, none⟩) C C, .slice .none 0 0] 42)) := balloc (balloc hB2 _) _
    have hB3 := bstep hB3' hb3
    have hD3 := ((Blk.new w2 4 ((List.replicate C false).flatMap encB).toArray).alloc (.cells #[.slice .none 0 0, .slice .none 0 0, .slice .none 0 0, .slice (some ⟨w2.heap.size, 0, none⟩) C C, .slice .none 0 0] 42)).keep hb3
    have hbox := (Blk.newAt (w := w2.alloc (.cells ((List.replicate C false).flatMap encB).toArray 4)) (g := w2.heap.size + 1) 42 #[.slice .none 0 0, .slice .none 0 0, .slice .none 0 0, .slice (some ⟨w2.heap.size, 0, none⟩) C C, .slice .none 0 0] (by simp)).keep hb3
    have hz3 := ((hz2'.alloc (.cells ((List.replicate C false).flatMap encB).toArray 4)).alloc (.cells #[.slice .none 0 0, .slice .none 0 0, .slice .none 0 0, .slice (some ⟨w2.heap.size, 0, none⟩) C C, .slice .none 0 0] 42)).keep hb3
    have hzl := hz2'.lt
    have hs3 := hb3.size
    rw [show ((w2.alloc (.cells ((List.replicate C false).flatMap encB).toArray 4)).alloc (.cells #[.slice .none 0 0, .slice .none 0 0, .slice .none 0 0, .slice (some ⟨w2.heap.size, 0, none⟩) C C, .slice .none 0 0] 42)).heap.size = w2.heap.size + 1 + 1 from by simp] at hs3 fa
    clear q0 q1 q2 q3 f0 f1 f2 f3 fl hmk HC HK hk2 hk1 hkz hz hz1 hz2' hb3 hB3'
    have q0 : World.cell? w3 ⟨w2.heap.size + 1, 0, none⟩ = some (.slice .none 0 0) := hbox.cell 0
    have f0 := hbox.frozen 0
    have q1 : World.cell? w3 ⟨w2.heap.size + 1, 1, none⟩ = some (.slice .none 0 0) := hbox.cell 1
    have f1 := hbox.frozen 1
    have q2 : World.cell? w3 ⟨w2.heap.size + 1, 2, none⟩ = some (.slice .none 0 0) := hbox.cell 2
    have f2 := hbox.frozen 2
    have q3 : World.cell? w3 ⟨w2.heap.size + 1, 3, none⟩ = some (.slice (some ⟨w2.heap.size, 0, none⟩) C C) := hbox.cell 3
    have f3 := hbox.frozen 3
    have q4 : World.cell? w3 ⟨w2.heap.size + 1, 4, none⟩ = some (.slice .none 0 0) := hbox.cell 4
    have f4 := hbox.frozen 4
    have fl := hbox.lt
    go_wp2
    obtain ⟨g6, hg6⟩ : ∃ g6, g6 = w2.heap.size + 1 := ⟨_, rfl⟩
    obtain ⟨w4, hw4⟩ : ∃ w4, w4 = ((w3.setCell ⟨w2.heap.size + 1, 0, none⟩ (.slice S2 a0.s.length x1)).setCell ⟨w2.heap.size + 1, 1, none⟩ (.slice N2 a0.n.length x2)).setCell ⟨w2.heap.size + 1, 2, none⟩ (.slice G2 a0.g.length x3) := ⟨_, rfl⟩
    have hbox4 : Blk w4 g6 42 #[.slice S2 a0.s.length x1, .slice N2 a0.n.length x2, .slice G2 a0.g.length x3, .slice (some ⟨w2.heap.size, 0, none⟩) C C, .slice .none 0 0] := by
      rw [hw4, hg6]; exact ((hbox.put 0 (.slice S2 a0.s.length x1)).put 1 (.slice N2 a0.n.length x2)).put 2 (.slice G2 a0.g.length x3)
    have hD4 : Blk w4 w2.heap.size 4 ((List.replicate C false).flatMap encB).toArray := by
      rw [hw4]; exact ((hD3.far (p := ⟨w2.heap.size + 1, 0, none⟩) (by simp) _).far (p := ⟨w2.heap.size + 1, 1, none⟩) (by simp) _).far (p := ⟨w2.heap.size + 1, 2, none⟩) (by simp) _
    have hz4 : Blk w4 (w.heap.size + 1) 42 #[.slice .none 0 0, .slice .none 0 0, .slice .none 0 0, .slice .none 0 0, .slice .none 0 0] := by
      rw [hw4]; exact ((hz3.far (p := ⟨w2.heap.size + 1, 0, none⟩) (by simp; omega) _).far (p := ⟨w2.heap.size + 1, 1, none⟩) (by simp; omega) _).far (p := ⟨w2.heap.size + 1, 2, none⟩) (by simp; omega) _
    have ra4 : RA w4 S2 N2 G2 a0 := by
      rw [hw4]; exact ((ra.far fa (p := ⟨w2.heap.size + 1, 0, none⟩) (by simp) _).far fa (p := ⟨w2.heap.size + 1, 1, none⟩) (by simp) _).far fa (p := ⟨w2.heap.size + 1, 2, none⟩) (by simp) _
    have hB4 : Below w.heap.size w w4 := by
      rw [hw4]; exact ((hB3.setCell (p := ⟨w2.heap.size + 1, 0, none⟩) (by simp; omega) _).setCell (p := ⟨w2.heap.size + 1, 1, none⟩) (by simp; omega) _).setCell (p := ⟨w2.heap.size + 1, 2, none⟩) (by simp; omega) _
    rw [← hw4, ← hg6]
    rw [← hg6] at fa
    have hg4 := hbox4.lt
    have hgz : w.heap.size + 1 < g6 := by omega
    have hgd : w2.heap.size < g6 := by omega
    clear hw4 hg6 q0 q1 q2 q3 q4 f0 f1 f2 f3 f4 fl hbox hD3 hz3 ra hB3 hs3
    go_loopg [7] K (fun gk i wr => ∃ (k : Nat) (vT : Value), k + gk = K ∧ i = .int .i64 k ∧ OI w4 wr g6 (.slice S2 a0.s.length x1) (.slice N2 a0.n.length x2) (.slice G2 a0.g.length x3) (.slice (some ⟨w2.heap.size, 0, none⟩) C C) vT k)
    case atStart => exact ⟨0, .slice .none 0 0, by omega, rfl, ⟨hbox4, World.ownsRow_nil _ _ _ _, fun _ _ _ => rfl, Below.refl _ _, Nat.le_refl _⟩⟩
    case round =>
      obtain ⟨k, vT, hk, rfl, hO⟩ := hrel
      have hk' : k ≤ K := by omega
      have HK := Lib.hid hk
      clear hk
      have hszr := hO.sz
      obtain ⟨A1, t1, rfl, ht1⟩ := own_shape' hO.own
      have q0 : World.cell? wr ⟨g6, 0, none⟩ = some (.slice S2 a0.s.length x1) := hO.box.cell 0
      have f0 := hO.box.frozen 0
      have q1 : World.cell? wr ⟨g6, 1, none⟩ = some (.slice N2 a0.n.length x2) := hO.box.cell 1
      have f1 := hO.box.frozen 1
      have q2 : World.cell? wr ⟨g6, 2, none⟩ = some (.slice G2 a0.g.length x3) := hO.box.cell 2
      have f2 := hO.box.frozen 2
      have q3 : World.cell? wr ⟨g6, 3, none⟩ = some (.slice (some ⟨w2.heap.size, 0, none⟩) C C) := hO.box.cell 3
      have f3 := hO.box.frozen 3
      have q4 : World.cell? wr ⟨g6, 4, none⟩ = some (.slice A1 k t1) := hO.box.cell 4
      have f4 := hO.box.frozen 4
      have fl := hO.box.lt
      by_cases hlt : k < K
      · have hneT : some g6 ≠ (Value.slice A1 k t1).ownBlock := fun e => by have := (hO.own.lt g6 e.symm).1; omega
        go_wp2_with (at_builtin; refine wpList_append_lies _ rfl (.tmp 38) (.tmp 39) 22 rfl w4.heap.size 3 i0 _ 1 8 Try.underlying22 hi0 hz0 hzz1 hz2 rfl (by omega) _ k _ rfl (hO.own.alloc _) ⟨wr.heap.size, 0, none⟩ 1 1 (encI .i64 (-1)) rfl rfl (encI_news wr _ _ _) (encI_one _ _) (by omega) (by unfold maxLen; omega) (by omega) (by simp; omega) (wr.heap.size + 1) (by simp) ?_; intro g5 c5 wB hown5 hgrow5 hat5 hlt5; have hbx := (hO.box.alloc (.cells #[.int .i64 (-1)] 3)).grown hgrow5 hneT; have u0 : wB.cell? ⟨g6, 4, none⟩ = some (.slice A1 k t1) := hbx.cell 4; have u1 := hbx.frozen 4; have u2 := hbx.lt)
        go_roundg (gk - 1)
        case rel => exact ⟨k + 1, _, by have := HK.out; omega, by go_num, hO.step hg4 hown5 hgrow5⟩
        case measure => have := HK.out; omega
      · obtain rfl : k = K := by omega
        have hzr : Blk wr (w.heap.size + 1) 42 #[.slice .none 0 0, .slice .none 0 0, .slice .none 0 0, .slice .none 0 0, .slice .none 0 0] := (hO.hh (w.heap.size + 1) hz4.lt (by omega)).trans hz4
        have hDr : Blk wr w2.heap.size 4 ((List.replicate C false).flatMap encB).toArray := (hO.hh w2.heap.size hD4.lt (by omega)).trans hD4
        have rar : RA wr S2 N2 G2 a0 := ⟨RL_heap ra4.s fa.s rfl hO.hh hszr, RL_heap ra4.n fa.n rfl hO.hh hszr, RL_heap ra4.g fa.g rfl hO.hh hszr⟩
        have hBr : Below w.heap.size w wr := hB4.trans (hO.bel.mono (by omega))
        have p0 : World.cell? wr ⟨w.heap.size + 1, 0, none⟩ = some (.slice .none 0 0) := hzr.cell 0
        have g0 := hzr.frozen 0
        have p1 : World.cell? wr ⟨w.heap.size + 1, 1, none⟩ = some (.slice .none 0 0) := hzr.cell 1
        have g1 := hzr.frozen 1
        have p2 : World.cell? wr ⟨w.heap.size + 1, 2, none⟩ = some (.slice .none 0 0) := hzr.cell 2
        have g2 := hzr.frozen 2
        have p3 : World.cell? wr ⟨w.heap.size + 1, 3, none⟩ = some (.slice .none 0 0) := hzr.cell 3
        have g3 := hzr.frozen 3
        have p4 : World.cell? wr ⟨w.heap.size + 1, 4, none⟩ = some (.slice .none 0 0) := hzr.cell 4
        have g4 := hzr.frozen 4
        have gl := hzr.lt
        go_wp2
        refine bodyPost_ret (v := .tuple #[.agg #[.slice S2 a0.s.length x1, .slice N2 a0.n.length x2, .slice G2 a0.g.length x3, .slice (some ⟨w2.heap.size, 0, none⟩) C C, .slice A1 k t1], .int .i64 0]) (by simp [results, Try.results15, go_sem, p0, p1, p2, p3, p4, g0, g1, g2, g3, g4, gl]) rfl ?_
        exact open_fin3 hDr hO.own rar fa hgz (by omega) (by omega) hBr (by omega) HV.out _ _ _ _ _
end Wk
end Go.Proofs.Ytdekbncpodjgnaa
