/-
  Parts of the proof of WorkerNames: WkX.
-/
import Derived.Test.YtdekbncpodjgnaaT18
namespace Go.Proofs.Ytdekbncpodjgnaa
open Go.RowKit Runs Lagc Reg
set_option linter.unusedVariables false
set_option linter.unusedSimpArgs false
namespace Wk
open Lagw
theorem none_fin {w w6 : World} {g : Nat} {r : Work × Int} {x : Int} (hr : r = (.none, x)) (hb : Below w.heap.size w w6) (hg : w.heap.size ≤ g) (v0 v1 v2 v3 v4 : Value) :
 RetW w r (.returned (.tuple #[.agg #[.slice none 0 0, .slice none 0 0, .slice none 0 0, .slice none 0 0, .slice none 0 0], .int .i64 x]))
  (((((w6.setCell ⟨g, 0, none⟩ v0).setCell ⟨g, 1, none⟩ v1).setCell ⟨g, 2, none⟩ v2).setCell ⟨g, 3, none⟩ v3).setCell ⟨g, 4, none⟩ v4) :=
 RetW.no hr (((((hb.setCell (p := ⟨g, 0, none⟩) hg _).setCell (p := ⟨g, 1, none⟩) hg _).setCell (p := ⟨g, 2, none⟩) hg _).setCell (p := ⟨g, 3, none⟩) hg _).setCell (p := ⟨g, 4, none⟩) hg _)
theorem RetW.alloc {w W : World} {r : Work × Int} {e : Ending} (h : RetW w r e W) (o : Obj) : RetW w r e (W.alloc o) := by
 obtain ⟨S, N, G, D, T, c1, c2, c3, c4, c5, he, hr, hb⟩ := h
 exact ⟨S, N, G, D, T, c1, c2, c3, c4, c5, he, hr.keep (balloc (Below.refl _ _) _), balloc hb _⟩
set_option maxRecDepth 20000 in
set_option maxHeartbeats 1000000 in
theorem step_take_any {xs ys : List Int} {M S : Nat} (hj : Job xs ys M S) (X Y S1 N1 G1 D T : Option Addr) (cx cy c1 c2 c3 c4 c5 : Nat) (d : List Bool) (t : List Int) (u b : Int) (w : World) (hx : RI .i64 w X xs) (hy : RI .i64 w Y ys) (hcx : xs.length ≤ cx) (hG : Good19 (cdiv xs.length S) d t) (hr : RW w S1 N1 G1 D T ⟨sumA xs ys M S d, d, t⟩) :
 Calls Try.prog 50 #[.agg #[.slice X xs.length cx, .slice Y ys.length cy, .int .i64 (M : Int), .int .i64 (S : Int)], .agg #[.slice S1 (sumA xs ys M S d).s.length c1, .slice N1 (sumA xs ys M S d).n.length c2, .slice G1 (sumA xs ys M S d).g.length c3, .slice D d.length c4, .slice T t.length c5], .agg #[.int .u8 1, .int .i64 u, .int .i64 b]] w (RetW w (stW xs ys M S (stepS d t ⟨1, u, b⟩))) := by
 have hfA := (sumA_is hj hG.d).fine
 have hOK := Lib.hid (fun d2 t2 (h : stepS d t ⟨1, u, b⟩ = ((d2, t2), 0)) => stW_ok (xs := xs) (ys := ys) (M := M) (S := S) h)
 have hNO := Lib.hid (fun x (h : stepS d t ⟨1, u, b⟩ = (([], []), x)) (hx : x ≠ 0) => stW_no (xs := xs) (ys := ys) (M := M) (S := S) h hx)
 generalize stW xs ys M S (stepS d t ⟨1, u, b⟩) = RES at *
 generalize hGS : sumA xs ys M S = SM at *
 generalize haD : SM d = a at *
 obtain ⟨wE, hwE⟩ : ∃ wE, wE = (((w.alloc (.cells #[.slice X xs.length cx, .slice Y ys.length cy, .int .i64 (M : Int), .int .i64 (S : Int)] 24)).alloc (.cells #[.slice S1 a.s.length c1, .slice N1 a.n.length c2, .slice G1 a.g.length c3, .slice D d.length c4, .slice T t.length c5] 42)).alloc (.cells #[.int .u8 1, .int .i64 u, .int .i64 b] 54)).alloc (.cells #[.slice .none 0 0, .slice .none 0 0, .slice .none 0 0, .slice .none 0 0, .slice .none 0 0] 42) := ⟨_, rfl⟩
 have hk1 : Blk wE w.heap.size 24 #[.slice X xs.length cx, .slice Y ys.length cy, .int .i64 (M : Int), .int .i64 (S : Int)] := by rw [hwE]; exact (((Blk.new _ _ _).alloc _).alloc _).alloc _
 have hk2 : Blk wE (w.heap.size + 1) 42 #[.slice S1 a.s.length c1, .slice N1 a.n.length c2, .slice G1 a.g.length c3, .slice D d.length c4, .slice T t.length c5] := by rw [hwE]; exact ((Blk.newAt _ _ (by simp)).alloc _).alloc _
 have hk3 : Blk wE (w.heap.size + 2) 54 #[.int .u8 1, .int .i64 u, .int .i64 b] := by rw [hwE]; exact (Blk.newAt _ _ (by simp)).alloc _
 have hk4 : Blk wE (w.heap.size + 3) 42 #[.slice .none 0 0, .slice .none 0 0, .slice .none 0 0, .slice .none 0 0, .slice .none 0 0] := by rw [hwE]; exact Blk.newAt _ _ (by simp)
 have hbE : Below w.heap.size w wE := by rw [hwE]; exact balloc (balloc (balloc (balloc (Below.refl _ _) _) _) _) _
 have hsE : wE.heap.size = w.heap.size + 4 := by rw [hwE]; simp
 have hxE := hx.keep hbE
 have hyE := hy.keep hbE
 have hrE := hr.keep hbE
 have ht0 : 0 < t.length := hG.t0
 have ht6 := hG.t6
 have hdC := hG.d
 have hc64 := hj.c
 have HEV := Lib.hid (fun w => isEvent_any S1 N1 G1 D T a.s.length a.n.length a.g.length d.length t.length c1 c2 c3 c4 c5 1 u b w)
 have HCP := Lib.hid (fun w hx => copyWork_any S1 N1 G1 D T c1 c2 c3 c4 c5 ⟨a, d, t⟩ w hx (by have := hfA.ls; simp only; omega) (by have := hfA.ls; have := hfA.ln; simp only; omega) (by have := hfA.lg; simp only; omega) (by simp only; omega) (by simp only; omega))
 clear hr hfA hc64 hdC
 cases hev : isEvB d.length t.length 1 u b
 ·have HR := Lib.hid (hNO.out 2 (step_ev hev) (by decide))
  rw [hev] at HEV
  clear hev hNO hOK
  go_enter Try.func50, Try.ntmps50
  go_wp2_with fail
  rw [← hwE]
  clear hwE
  have p0 : World.cell? wE ⟨(w.heap.size + 1), 0, none⟩ = some (.slice S1 a.s.length c1) := hk2.cell 0
  have g0 := hk2.frozen 0
  have p1 : World.cell? wE ⟨(w.heap.size + 1), 1, none⟩ = some (.slice N1 a.n.length c2) := hk2.cell 1
  have g1 := hk2.frozen 1
  have p2 : World.cell? wE ⟨(w.heap.size + 1), 2, none⟩ = some (.slice G1 a.g.length c3) := hk2.cell 2
  have g2 := hk2.frozen 2
  have p3 : World.cell? wE ⟨(w.heap.size + 1), 3, none⟩ = some (.slice D d.length c4) := hk2.cell 3
  have g3 := hk2.frozen 3
  have p4 : World.cell? wE ⟨(w.heap.size + 1), 4, none⟩ = some (.slice T t.length c5) := hk2.cell 4
  have g4 := hk2.frozen 4
  have gl := hk2.lt
  have e0 : World.cell? wE ⟨(w.heap.size + 2), 0, none⟩ = some (.int .u8 1) := hk3.cell 0
  have ef0 := hk3.frozen 0
  have e1 : World.cell? wE ⟨(w.heap.size + 2), 1, none⟩ = some (.int .i64 u) := hk3.cell 1
  have ef1 := hk3.frozen 1
  have e2 : World.cell? wE ⟨(w.heap.size + 2), 2, none⟩ = some (.int .i64 b) := hk3.cell 2
  have ef2 := hk3.frozen 2
  have efl := hk3.lt
  go_wp2_with fail
  refine (HEV.out _).mono ?_
  rintro _ w1 ⟨rfl, hb1⟩
  have hB1 := bstep hbE hb1
  have hs1 := hb1.size
  clear p0 p1 p2 p3 p4 g0 g1 g2 g3 g4 gl
  clear e0 e1 e2 ef0 ef1 ef2 efl
  replace hk1 := hk1.keep hb1
  replace hk2 := hk2.keep hb1
  replace hk3 := hk3.keep hb1
  replace hk4 := hk4.keep hb1
  replace hxE := hxE.keep hb1
  replace hyE := hyE.keep hb1
  replace hrE := hrE.keep hb1
  have q0 : World.cell? w1 ⟨(w.heap.size + 3), 0, none⟩ = some (.slice none 0 0) := hk4.cell 0
  have f0 := hk4.frozen 0
  have q1 : World.cell? w1 ⟨(w.heap.size + 3), 1, none⟩ = some (.slice none 0 0) := hk4.cell 1
  have f1 := hk4.frozen 1
  have q2 : World.cell? w1 ⟨(w.heap.size + 3), 2, none⟩ = some (.slice none 0 0) := hk4.cell 2
  have f2 := hk4.frozen 2
  have q3 : World.cell? w1 ⟨(w.heap.size + 3), 3, none⟩ = some (.slice none 0 0) := hk4.cell 3
  have f3 := hk4.frozen 3
  have q4 : World.cell? w1 ⟨(w.heap.size + 3), 4, none⟩ = some (.slice none 0 0) := hk4.cell 4
  have f4 := hk4.frozen 4
  have fl := hk4.lt
  go_wp2
  exact bodyPost_ret (v := .tuple #[.agg #[.slice none 0 0, .slice none 0 0, .slice none 0 0, .slice none 0 0, .slice none 0 0], .int .i64 2]) (by simp [results, Try.results50, go_sem, q0, q1, q2, q3, q4, f0, f1, f2, f3, f4, fl]) rfl (none_fin HR.out (by first | exact hB1 | exact balloc hB2 _) (by omega) _ _ _ _ _)
 rw [hev] at HEV
 obtain ⟨hu0, hu1, hb0, hb1⟩ := ev_take hev
 obtain ⟨U, rfl⟩ : ∃ U : Nat, u = U := ⟨u.toNat, by omega⟩
 obtain ⟨B, rfl⟩ : ∃ B : Nat, b = B := ⟨b.toNat, by omega⟩
 have hU : U < t.length := by omega
 have hB : B < d.length := by omega
 have hst := step_take (d := d) (t := t) hU hB
 clear hu0 hu1 hb0 hb1 hev
 have eT : t.getD U 0 = t[U] := getD_lt _ _ hU
 have eD : d.getD B true = d[B] := getD_lt _ _ hB
 rw [eT, eD] at hst
 by_cases h1 : t[U] = -1
 ·cases h2 : d[B]
  ·rw [h1, h2, if_neg (by decide)] at hst
   have HR := Lib.hid (hOK.out _ _ hst)
   have HT := Lib.hid h1
   have HD := Lib.hid h2
   clear hst h1 h2 hNO hOK
   go_enter Try.func50, Try.ntmps50
   go_wp2_with fail
   rw [← hwE]
   clear hwE
   have p0 : World.cell? wE ⟨(w.heap.size + 1), 0, none⟩ = some (.slice S1 a.s.length c1) := hk2.cell 0
   have g0 := hk2.frozen 0
   have p1 : World.cell? wE ⟨(w.heap.size + 1), 1, none⟩ = some (.slice N1 a.n.length c2) := hk2.cell 1
   have g1 := hk2.frozen 1
   have p2 : World.cell? wE ⟨(w.heap.size + 1), 2, none⟩ = some (.slice G1 a.g.length c3) := hk2.cell 2
   have g2 := hk2.frozen 2
   have p3 : World.cell? wE ⟨(w.heap.size + 1), 3, none⟩ = some (.slice D d.length c4) := hk2.cell 3
   have g3 := hk2.frozen 3
   have p4 : World.cell? wE ⟨(w.heap.size + 1), 4, none⟩ = some (.slice T t.length c5) := hk2.cell 4
   have g4 := hk2.frozen 4
   have gl := hk2.lt
   have e0 : World.cell? wE ⟨(w.heap.size + 2), 0, none⟩ = some (.int .u8 1) := hk3.cell 0
   have ef0 := hk3.frozen 0
   have e1 : World.cell? wE ⟨(w.heap.size + 2), 1, none⟩ = some (.int .i64 (U : Int)) := hk3.cell 1
   have ef1 := hk3.frozen 1
   have e2 : World.cell? wE ⟨(w.heap.size + 2), 2, none⟩ = some (.int .i64 (B : Int)) := hk3.cell 2
   have ef2 := hk3.frozen 2
   have efl := hk3.lt
   go_wp2_with fail
   refine (HEV.out _).mono ?_
   rintro _ w1 ⟨rfl, hb1⟩
   have hB1 := bstep hbE hb1
   have hs1 := hb1.size
   clear p0 p1 p2 p3 p4 g0 g1 g2 g3 g4 gl
   clear e0 e1 e2 ef0 ef1 ef2 efl
   replace hk1 := hk1.keep hb1
   replace hk2 := hk2.keep hb1
   replace hk3 := hk3.keep hb1
   replace hk4 := hk4.keep hb1
   replace hxE := hxE.keep hb1
   replace hyE := hyE.keep hb1
   replace hrE := hrE.keep hb1
   have p0 : World.cell? w1 ⟨(w.heap.size + 1), 0, none⟩ = some (.slice S1 a.s.length c1) := hk2.cell 0
   have g0 := hk2.frozen 0
   have p1 : World.cell? w1 ⟨(w.heap.size + 1), 1, none⟩ = some (.slice N1 a.n.length c2) := hk2.cell 1
   have g1 := hk2.frozen 1
   have p2 : World.cell? w1 ⟨(w.heap.size + 1), 2, none⟩ = some (.slice G1 a.g.length c3) := hk2.cell 2
   have g2 := hk2.frozen 2
   have p3 : World.cell? w1 ⟨(w.heap.size + 1), 3, none⟩ = some (.slice D d.length c4) := hk2.cell 3
   have g3 := hk2.frozen 3
   have p4 : World.cell? w1 ⟨(w.heap.size + 1), 4, none⟩ = some (.slice T t.length c5) := hk2.cell 4
   have g4 := hk2.frozen 4
   have gl := hk2.lt
   go_wp2_with fail
   refine (HCP.out _ hrE).mono ?_
   rintro _ w2 ⟨S2, N2, G2, D2, T2, z1, z2, z3, z4, z5, rfl, hC, hb2⟩
   have hB2 := bstep hB1 hb2
   have hs2 := hb2.size
   clear p0 p1 p2 p3 p4 g0 g1 g2 g3 g4 gl
   replace hk1 := hk1.keep hb2
   replace hk3 := hk3.keep hb2
   replace hk4 := hk4.keep hb2
   replace hxE := hxE.keep hb2
   replace hyE := hyE.keep hb2
   obtain ⟨gT, cuT, rfl, hgT, _⟩ := made_blk hC.t ht0
   have e0 : World.cell? w2 ⟨(w.heap.size + 2), 0, none⟩ = some (.int .u8 1) := hk3.cell 0
   have ef0 := hk3.frozen 0
   have e1 : World.cell? w2 ⟨(w.heap.size + 2), 1, none⟩ = some (.int .i64 (U : Int)) := hk3.cell 1
   have ef1 := hk3.frozen 1
   have e2 : World.cell? w2 ⟨(w.heap.size + 2), 2, none⟩ = some (.int .i64 (B : Int)) := hk3.cell 2
   have ef2 := hk3.frozen 2
   have efl := hk3.lt
   have q0 : World.cell? w2 ⟨(w.heap.size + 3), 0, none⟩ = some (.slice none 0 0) := hk4.cell 0
   have f0 := hk4.frozen 0
   have q1 : World.cell? w2 ⟨(w.heap.size + 3), 1, none⟩ = some (.slice none 0 0) := hk4.cell 1
   have f1 := hk4.frozen 1
   have q2 : World.cell? w2 ⟨(w.heap.size + 3), 2, none⟩ = some (.slice none 0 0) := hk4.cell 2
   have f2 := hk4.frozen 2
   have q3 : World.cell? w2 ⟨(w.heap.size + 3), 3, none⟩ = some (.slice none 0 0) := hk4.cell 3
   have f3 := hk4.frozen 3
   have q4 : World.cell? w2 ⟨(w.heap.size + 3), 4, none⟩ = some (.slice none 0 0) := hk4.cell 4
   have f4 := hk4.frozen 4
   have fl := hk4.lt
   obtain ⟨m1, m2, m3, m4⟩ := made_cell (ev := fun x => Value.int .i64 x) (fun _ => rfl) hC.t hU
   obtain ⟨gD, cuD, rfl, hgD, _⟩ := made_blk hC.d (by simp only; omega)
   obtain ⟨n1, n2, n3, n4⟩ := made_cell (ev := fun x => Value.bool x) (fun _ => rfl) hC.d hB
   simp only [HT.out] at m1
   simp only [HD.out] at n1
   have t1 : ¬ gT = w.heap.size + 3 := by omega
   have t2 : ¬ gT = w2.heap.size := by omega
   have t3 : ¬ w.heap.size + 3 = gT := by omega
   have t4 : ¬ w2.heap.size = gT := by omega
   go_wp2
   refine bodyPost_ret (v := .tuple #[.agg #[.slice S2 a.s.length z1, .slice N2 a.n.length z2, .slice G2 a.g.length z3, .slice (some ⟨gD, 0, none⟩) d.length z4, .slice (some ⟨gT, 0, none⟩) t.length z5], .int .i64 0]) (by simp [results, Try.results50, go_sem, q0, q1, q2, q3, q4, f0, f1, f2, f3, f4, fl, t1, t2, t3, t4]) rfl ?_
   rw [HR.out]
   have hC3 := hC.setT (k := U) hU (B : Int)
   have hfin := (work_fin (w := w) (x := 0) (c1 := z1) (c2 := z2) (c3 := z3) (c4 := z4) (c5 := z5) hC3.rw_ (hk4.far (p := ⟨gT, U, none⟩) t3 _) (hB2.setCell (p := ⟨gT, U, none⟩) (by simp only; omega) _) (by omega)).alloc (.cells #[.slice S2 a.s.length z1, .slice N2 a.n.length z2, .slice G2 a.g.length z3, .slice (some ⟨gD, 0, none⟩) d.length z4, .slice (some ⟨gT, 0, none⟩) t.length z5] 42)
   simp only [List.length_set] at hfin
   rw [haD]
   exact hfin
  ·rw [h1, h2, if_pos (by simp)] at hst
   have HR := Lib.hid (hNO.out _ hst (by decide))
   have HT := Lib.hid h1
   have HD := Lib.hid h2
   clear hst h1 h2 hNO hOK
   go_enter Try.func50, Try.ntmps50
   go_wp2_with fail
   rw [← hwE]
   clear hwE
   have p0 : World.cell? wE ⟨(w.heap.size + 1), 0, none⟩ = some (.slice S1 a.s.length c1) := hk2.cell 0
   have g0 := hk2.frozen 0
   have p1 : World.cell? wE ⟨(w.heap.size + 1), 1, none⟩ = some (.slice N1 a.n.length c2) := hk2.cell 1
   have g1 := hk2.frozen 1
   have p2 : World.cell? wE ⟨(w.heap.size + 1), 2, none⟩ = some (.slice G1 a.g.length c3) := hk2.cell 2
   have g2 := hk2.frozen 2
   have p3 : World.cell? wE ⟨(w.heap.size + 1), 3, none⟩ = some (.slice D d.length c4) := hk2.cell 3
   have g3 := hk2.frozen 3
   have p4 : World.cell? wE ⟨(w.heap.size + 1), 4, none⟩ = some (.slice T t.length c5) := hk2.cell 4
   have g4 := hk2.frozen 4
   have gl := hk2.lt
   have e0 : World.cell? wE ⟨(w.heap.size + 2), 0, none⟩ = some (.int .u8 1) := hk3.cell 0
   have ef0 := hk3.frozen 0
   have e1 : World.cell? wE ⟨(w.heap.size + 2), 1, none⟩ = some (.int .i64 (U : Int)) := hk3.cell 1
   have ef1 := hk3.frozen 1
   have e2 : World.cell? wE ⟨(w.heap.size + 2), 2, none⟩ = some (.int .i64 (B : Int)) := hk3.cell 2
   have ef2 := hk3.frozen 2
   have efl := hk3.lt
   go_wp2_with fail
   refine (HEV.out _).mono ?_
   rintro _ w1 ⟨rfl, hb1⟩
   have hB1 := bstep hbE hb1
   have hs1 := hb1.size
   clear p0 p1 p2 p3 p4 g0 g1 g2 g3 g4 gl
   clear e0 e1 e2 ef0 ef1 ef2 efl
   replace hk1 := hk1.keep hb1
   replace hk2 := hk2.keep hb1
   replace hk3 := hk3.keep hb1
   replace hk4 := hk4.keep hb1
   replace hxE := hxE.keep hb1
   replace hyE := hyE.keep hb1
   replace hrE := hrE.keep hb1
   have p0 : World.cell? w1 ⟨(w.heap.size + 1), 0, none⟩ = some (.slice S1 a.s.length c1) := hk2.cell 0
   have g0 := hk2.frozen 0
   have p1 : World.cell? w1 ⟨(w.heap.size + 1), 1, none⟩ = some (.slice N1 a.n.length c2) := hk2.cell 1
   have g1 := hk2.frozen 1
   have p2 : World.cell? w1 ⟨(w.heap.size + 1), 2, none⟩ = some (.slice G1 a.g.length c3) := hk2.cell 2
   have g2 := hk2.frozen 2
   have p3 : World.cell? w1 ⟨(w.heap.size + 1), 3, none⟩ = some (.slice D d.length c4) := hk2.cell 3
   have g3 := hk2.frozen 3
   have p4 : World.cell? w1 ⟨(w.heap.size + 1), 4, none⟩ = some (.slice T t.length c5) := hk2.cell 4
   have g4 := hk2.frozen 4
   have gl := hk2.lt
   go_wp2_with fail
   refine (HCP.out _ hrE).mono ?_
   rintro _ w2 ⟨S2, N2, G2, D2, T2, z1, z2, z3, z4, z5, rfl, hC, hb2⟩
   have hB2 := bstep hB1 hb2
   have hs2 := hb2.size
   clear p0 p1 p2 p3 p4 g0 g1 g2 g3 g4 gl
   replace hk1 := hk1.keep hb2
   replace hk3 := hk3.keep hb2
   replace hk4 := hk4.keep hb2
   replace hxE := hxE.keep hb2
   replace hyE := hyE.keep hb2
   obtain ⟨gT, cuT, rfl, hgT, _⟩ := made_blk hC.t ht0
   have e0 : World.cell? w2 ⟨(w.heap.size + 2), 0, none⟩ = some (.int .u8 1) := hk3.cell 0
   have ef0 := hk3.frozen 0
   have e1 : World.cell? w2 ⟨(w.heap.size + 2), 1, none⟩ = some (.int .i64 (U : Int)) := hk3.cell 1
   have ef1 := hk3.frozen 1
   have e2 : World.cell? w2 ⟨(w.heap.size + 2), 2, none⟩ = some (.int .i64 (B : Int)) := hk3.cell 2
   have ef2 := hk3.frozen 2
   have efl := hk3.lt
   have q0 : World.cell? w2 ⟨(w.heap.size + 3), 0, none⟩ = some (.slice none 0 0) := hk4.cell 0
   have f0 := hk4.frozen 0
   have q1 : World.cell? w2 ⟨(w.heap.size + 3), 1, none⟩ = some (.slice none 0 0) := hk4.cell 1
   have f1 := hk4.frozen 1
   have q2 : World.cell? w2 ⟨(w.heap.size + 3), 2, none⟩ = some (.slice none 0 0) := hk4.cell 2
   have f2 := hk4.frozen 2
   have q3 : World.cell? w2 ⟨(w.heap.size + 3), 3, none⟩ = some (.slice none 0 0) := hk4.cell 3
   have f3 := hk4.frozen 3
   have q4 : World.cell? w2 ⟨(w.heap.size + 3), 4, none⟩ = some (.slice none 0 0) := hk4.cell 4
   have f4 := hk4.frozen 4
   have fl := hk4.lt
   obtain ⟨m1, m2, m3, m4⟩ := made_cell (ev := fun x => Value.int .i64 x) (fun _ => rfl) hC.t hU
   obtain ⟨gD, cuD, rfl, hgD, _⟩ := made_blk hC.d (by simp only; omega)
   obtain ⟨n1, n2, n3, n4⟩ := made_cell (ev := fun x => Value.bool x) (fun _ => rfl) hC.d hB
   simp only [HT.out] at m1
   simp only [HD.out] at n1
   go_wp2
   exact bodyPost_ret (v := .tuple #[.agg #[.slice none 0 0, .slice none 0 0, .slice none 0 0, .slice none 0 0, .slice none 0 0], .int .i64 36]) (by simp [results, Try.results50, go_sem, q0, q1, q2, q3, q4, f0, f1, f2, f3, f4, fl]) rfl ((none_fin HR.out hB2 (by omega) _ _ _ _ _).alloc _)
 ·rw [if_pos (.inl h1)] at hst
  have HR := Lib.hid (hNO.out _ hst (by decide))
  have h1' : (t[U] != -1) = true := by simpa using h1
  clear hst h1 hNO hOK
  go_enter Try.func50, Try.ntmps50
  go_wp2_with fail
  rw [← hwE]
  clear hwE
  have p0 : World.cell? wE ⟨(w.heap.size + 1), 0, none⟩ = some (.slice S1 a.s.length c1) := hk2.cell 0
  have g0 := hk2.frozen 0
  have p1 : World.cell? wE ⟨(w.heap.size + 1), 1, none⟩ = some (.slice N1 a.n.length c2) := hk2.cell 1
  have g1 := hk2.frozen 1
  have p2 : World.cell? wE ⟨(w.heap.size + 1), 2, none⟩ = some (.slice G1 a.g.length c3) := hk2.cell 2
  have g2 := hk2.frozen 2
  have p3 : World.cell? wE ⟨(w.heap.size + 1), 3, none⟩ = some (.slice D d.length c4) := hk2.cell 3
  have g3 := hk2.frozen 3
  have p4 : World.cell? wE ⟨(w.heap.size + 1), 4, none⟩ = some (.slice T t.length c5) := hk2.cell 4
  have g4 := hk2.frozen 4
  have gl := hk2.lt
  have e0 : World.cell? wE ⟨(w.heap.size + 2), 0, none⟩ = some (.int .u8 1) := hk3.cell 0
  have ef0 := hk3.frozen 0
  have e1 : World.cell? wE ⟨(w.heap.size + 2), 1, none⟩ = some (.int .i64 (U : Int)) := hk3.cell 1
  have ef1 := hk3.frozen 1
  have e2 : World.cell? wE ⟨(w.heap.size + 2), 2, none⟩ = some (.int .i64 (B : Int)) := hk3.cell 2
  have ef2 := hk3.frozen 2
  have efl := hk3.lt
  go_wp2_with fail
  refine (HEV.out _).mono ?_
  rintro _ w1 ⟨rfl, hb1⟩
  have hB1 := bstep hbE hb1
  have hs1 := hb1.size
  clear p0 p1 p2 p3 p4 g0 g1 g2 g3 g4 gl
  clear e0 e1 e2 ef0 ef1 ef2 efl
  replace hk1 := hk1.keep hb1
  replace hk2 := hk2.keep hb1
  replace hk3 := hk3.keep hb1
  replace hk4 := hk4.keep hb1
  replace hxE := hxE.keep hb1
  replace hyE := hyE.keep hb1
  replace hrE := hrE.keep hb1
  have p0 : World.cell? w1 ⟨(w.heap.size + 1), 0, none⟩ = some (.slice S1 a.s.length c1) := hk2.cell 0
  have g0 := hk2.frozen 0
  have p1 : World.cell? w1 ⟨(w.heap.size + 1), 1, none⟩ = some (.slice N1 a.n.length c2) := hk2.cell 1
  have g1 := hk2.frozen 1
  have p2 : World.cell? w1 ⟨(w.heap.size + 1), 2, none⟩ = some (.slice G1 a.g.length c3) := hk2.cell 2
  have g2 := hk2.frozen 2
  have p3 : World.cell? w1 ⟨(w.heap.size + 1), 3, none⟩ = some (.slice D d.length c4) := hk2.cell 3
  have g3 := hk2.frozen 3
  have p4 : World.cell? w1 ⟨(w.heap.size + 1), 4, none⟩ = some (.slice T t.length c5) := hk2.cell 4
  have g4 := hk2.frozen 4
  have gl := hk2.lt
  go_wp2_with fail
  refine (HCP.out _ hrE).mono ?_
  rintro _ w2 ⟨S2, N2, G2, D2, T2, z1, z2, z3, z4, z5, rfl, hC, hb2⟩
  have hB2 := bstep hB1 hb2
  have hs2 := hb2.size
  clear p0 p1 p2 p3 p4 g0 g1 g2 g3 g4 gl
  replace hk1 := hk1.keep hb2
  replace hk3 := hk3.keep hb2
  replace hk4 := hk4.keep hb2
  replace hxE := hxE.keep hb2
  replace hyE := hyE.keep hb2
  obtain ⟨gT, cuT, rfl, hgT, _⟩ := made_blk hC.t ht0
  have e0 : World.cell? w2 ⟨(w.heap.size + 2), 0, none⟩ = some (.int .u8 1) := hk3.cell 0
  have ef0 := hk3.frozen 0
  have e1 : World.cell? w2 ⟨(w.heap.size + 2), 1, none⟩ = some (.int .i64 (U : Int)) := hk3.cell 1
  have ef1 := hk3.frozen 1
  have e2 : World.cell? w2 ⟨(w.heap.size + 2), 2, none⟩ = some (.int .i64 (B : Int)) := hk3.cell 2
  have ef2 := hk3.frozen 2
  have efl := hk3.lt
  have q0 : World.cell? w2 ⟨(w.heap.size + 3), 0, none⟩ = some (.slice none 0 0) := hk4.cell 0
  have f0 := hk4.frozen 0
  have q1 : World.cell? w2 ⟨(w.heap.size + 3), 1, none⟩ = some (.slice none 0 0) := hk4.cell 1
  have f1 := hk4.frozen 1
  have q2 : World.cell? w2 ⟨(w.heap.size + 3), 2, none⟩ = some (.slice none 0 0) := hk4.cell 2
  have f2 := hk4.frozen 2
  have q3 : World.cell? w2 ⟨(w.heap.size + 3), 3, none⟩ = some (.slice none 0 0) := hk4.cell 3
  have f3 := hk4.frozen 3
  have q4 : World.cell? w2 ⟨(w.heap.size + 3), 4, none⟩ = some (.slice none 0 0) := hk4.cell 4
  have f4 := hk4.frozen 4
  have fl := hk4.lt
  obtain ⟨m1, m2, m3, m4⟩ := made_cell (ev := fun x => Value.int .i64 x) (fun _ => rfl) hC.t hU
  simp only at m1
  generalize t[U] = tv at *
  go_wp2
  exact bodyPost_ret (v := .tuple #[.agg #[.slice none 0 0, .slice none 0 0, .slice none 0 0, .slice none 0 0, .slice none 0 0], .int .i64 36]) (by simp [results, Try.results50, go_sem, q0, q1, q2, q3, q4, f0, f1, f2, f3, f4, fl]) rfl ((none_fin HR.out hB2 (by omega) _ _ _ _ _).alloc _)
set_option maxRecDepth 20000 in
set_option maxHeartbeats 1000000 in
theorem step_restart_any {xs ys : List Int} {M S : Nat} (hj : Job xs ys M S) (X Y S1 N1 G1 D T : Option Addr) (cx cy c1 c2 c3 c4 c5 : Nat) (d : List Bool) (t : List Int) (u b : Int) (w : World) (hx : RI .i64 w X xs) (hy : RI .i64 w Y ys) (hcx : xs.length ≤ cx) (hG : Good19 (cdiv xs.length S) d t) (hr : RW w S1 N1 G1 D T ⟨sumA xs ys M S d, d, t⟩) :
 Calls Try.prog 50 #[.agg #[.slice X xs.length cx, .slice Y ys.length cy, .int .i64 (M : Int), .int .i64 (S : Int)], .agg #[.slice S1 (sumA xs ys M S d).s.length c1, .slice N1 (sumA xs ys M S d).n.length c2, .slice G1 (sumA xs ys M S d).g.length c3, .slice D d.length c4, .slice T t.length c5], .agg #[.int .u8 4, .int .i64 u, .int .i64 b]] w (RetW w (stW xs ys M S (stepS d t ⟨4, u, b⟩))) := by
 have hfA := (sumA_is hj hG.d).fine
 have hOK := Lib.hid (fun d2 t2 (h : stepS d t ⟨4, u, b⟩ = ((d2, t2), 0)) => stW_ok (xs := xs) (ys := ys) (M := M) (S := S) h)
 have hNO := Lib.hid (fun x (h : stepS d t ⟨4, u, b⟩ = (([], []), x)) (hx : x ≠ 0) => stW_no (xs := xs) (ys := ys) (M := M) (S := S) h hx)
 generalize stW xs ys M S (stepS d t ⟨4, u, b⟩) = RES at *
 generalize hGS : sumA xs ys M S = SM at *
 generalize haD : SM d = a at *
 obtain ⟨wE, hwE⟩ : ∃ wE, wE = (((w.alloc (.cells #[.slice X xs.length cx, .slice Y ys.length cy, .int .i64 (M : Int), .int .i64 (S : Int)] 24)).alloc (.cells #[.slice S1 a.s.length c1, .slice N1 a.n.length c2, .slice G1 a.g.length c3, .slice D d.length c4, .slice T t.length c5] 42)).alloc (.cells #[.int .u8 4, .int .i64 u, .int .i64 b] 54)).alloc (.cells #[.slice .none 0 0, .slice .none 0 0, .slice .none 0 0, .slice .none 0 0, .slice .none 0 0] 42) := ⟨_, rfl⟩
 have hk1 : Blk wE w.heap.size 24 #[.slice X xs.length cx, .slice Y ys.length cy, .int .i64 (M : Int), .int .i64 (S : Int)] := by rw [hwE]; exact (((Blk.new _ _ _).alloc _).alloc _).alloc _
 have hk2 : Blk wE (w.heap.size + 1) 42 #[.slice S1 a.s.length c1, .slice N1 a.n.length c2, .slice G1 a.g.length c3, .slice D d.length c4, .slice T t.length c5] := by rw [hwE]; exact ((Blk.newAt _ _ (by simp)).alloc _).alloc _
 have hk3 : Blk wE (w.heap.size + 2) 54 #[.int .u8 4, .int .i64 u, .int .i64 b] := by rw [hwE]; exact (Blk.newAt _ _ (by simp)).alloc _
 have hk4 : Blk wE (w.heap.size + 3) 42 #[.slice .none 0 0, .slice .none 0 0, .slice .none 0 0, .slice .none 0 0, .slice .none 0 0] := by rw [hwE]; exact Blk.newAt _ _ (by simp)
 have hbE : Below w.heap.size w wE := by rw [hwE]; exact balloc (balloc (balloc (balloc (Below.refl _ _) _) _) _) _
 have hsE : wE.heap.size = w.heap.size + 4 := by rw [hwE]; simp
 have hxE := hx.keep hbE
 have hyE := hy.keep hbE
 have hrE := hr.keep hbE
 have ht0 : 0 < t.length := hG.t0
 have ht6 := hG.t6
 have hdC := hG.d
 have hc64 := hj.c
 have HEV := Lib.hid (fun w => isEvent_any S1 N1 G1 D T a.s.length a.n.length a.g.length d.length t.length c1 c2 c3 c4 c5 4 u b w)
 have HCP := Lib.hid (fun w hx => copyWork_any S1 N1 G1 D T c1 c2 c3 c4 c5 ⟨a, d, t⟩ w hx (by have := hfA.ls; simp only; omega) (by have := hfA.ls; have := hfA.ln; simp only; omega) (by have := hfA.lg; simp only; omega) (by simp only; omega) (by simp only; omega))
 clear hr hfA hc64 hdC
 cases hev : isEvB d.length t.length 4 u b
 ·have HR := Lib.hid (hNO.out 2 (step_ev hev) (by decide))
  rw [hev] at HEV
  clear hev hNO hOK
  go_enter Try.func50, Try.ntmps50
  go_wp2_with fail
  rw [← hwE]
  clear hwE
  have p0 : World.cell? wE ⟨(w.heap.size + 1), 0, none⟩ = some (.slice S1 a.s.length c1) := hk2.cell 0
  have g0 := hk2.frozen 0
  have p1 : World.cell? wE ⟨(w.heap.size + 1), 1, none⟩ = some (.slice N1 a.n.length c2) := hk2.cell 1
  have g1 := hk2.frozen 1
  have p2 : World.cell? wE ⟨(w.heap.size + 1), 2, none⟩ = some (.slice G1 a.g.length c3) := hk2.cell 2
  have g2 := hk2.frozen 2
  have p3 : World.cell? wE ⟨(w.heap.size + 1), 3, none⟩ = some (.slice D d.length c4) := hk2.cell 3
  have g3 := hk2.frozen 3
  have p4 : World.cell? wE ⟨(w.heap.size + 1), 4, none⟩ = some (.slice T t.length c5) := hk2.cell 4
  have g4 := hk2.frozen 4
  have gl := hk2.lt
  have e0 : World.cell? wE ⟨(w.heap.size + 2), 0, none⟩ = some (.int .u8 4) := hk3.cell 0
  have ef0 := hk3.frozen 0
  have e1 : World.cell? wE ⟨(w.heap.size + 2), 1, none⟩ = some (.int .i64 u) := hk3.cell 1
  have ef1 := hk3.frozen 1
  have e2 : World.cell? wE ⟨(w.heap.size + 2), 2, none⟩ = some (.int .i64 b) := hk3.cell 2
  have ef2 := hk3.frozen 2
  have efl := hk3.lt
  go_wp2_with fail
  refine (HEV.out _).mono ?_
  rintro _ w1 ⟨rfl, hb1⟩
  have hB1 := bstep hbE hb1
  have hs1 := hb1.size
  clear p0 p1 p2 p3 p4 g0 g1 g2 g3 g4 gl
  clear e0 e1 e2 ef0 ef1 ef2 efl
  replace hk1 := hk1.keep hb1
  replace hk2 := hk2.keep hb1
  replace hk3 := hk3.keep hb1
  replace hk4 := hk4.keep hb1
  replace hxE := hxE.keep hb1
  replace hyE := hyE.keep hb1
  replace hrE := hrE.keep hb1
  have q0 : World.cell? w1 ⟨(w.heap.size + 3), 0, none⟩ = some (.slice none 0 0) := hk4.cell 0
  have f0 := hk4.frozen 0
  have q1 : World.cell? w1 ⟨(w.heap.size + 3), 1, none⟩ = some (.slice none 0 0) := hk4.cell 1
  have f1 := hk4.frozen 1
  have q2 : World.cell? w1 ⟨(w.heap.size + 3), 2, none⟩ = some (.slice none 0 0) := hk4.cell 2
  have f2 := hk4.frozen 2
  have q3 : World.cell? w1 ⟨(w.heap.size + 3), 3, none⟩ = some (.slice none 0 0) := hk4.cell 3
  have f3 := hk4.frozen 3
  have q4 : World.cell? w1 ⟨(w.heap.size + 3), 4, none⟩ = some (.slice none 0 0) := hk4.cell 4
  have f4 := hk4.frozen 4
  have fl := hk4.lt
  go_wp2
  exact bodyPost_ret (v := .tuple #[.agg #[.slice none 0 0, .slice none 0 0, .slice none 0 0, .slice none 0 0, .slice none 0 0], .int .i64 2]) (by simp [results, Try.results50, go_sem, q0, q1, q2, q3, q4, f0, f1, f2, f3, f4, fl]) rfl (none_fin HR.out (by first | exact hB1 | exact balloc hB2 _) (by omega) _ _ _ _ _)
 rw [hev] at HEV
 obtain ⟨rfl, rfl⟩ := ev_restart hev
 have HR := Lib.hid (hOK.out _ _ (step_restart (d := d) (t := t)))
 have HI := Lib.hid (fun w => idle_any t.length w (by omega))
 clear hev hNO hOK
 go_enter Try.func50, Try.ntmps50
 go_wp2_with fail
 rw [← hwE]
 clear hwE
 have p0 : World.cell? wE ⟨(w.heap.size + 1), 0, none⟩ = some (.slice S1 a.s.length c1) := hk2.cell 0
 have g0 := hk2.frozen 0
 have p1 : World.cell? wE ⟨(w.heap.size + 1), 1, none⟩ = some (.slice N1 a.n.length c2) := hk2.cell 1
 have g1 := hk2.frozen 1
 have p2 : World.cell? wE ⟨(w.heap.size + 1), 2, none⟩ = some (.slice G1 a.g.length c3) := hk2.cell 2
 have g2 := hk2.frozen 2
 have p3 : World.cell? wE ⟨(w.heap.size + 1), 3, none⟩ = some (.slice D d.length c4) := hk2.cell 3
 have g3 := hk2.frozen 3
 have p4 : World.cell? wE ⟨(w.heap.size + 1), 4, none⟩ = some (.slice T t.length c5) := hk2.cell 4
 have g4 := hk2.frozen 4
 have gl := hk2.lt
 have e0 : World.cell? wE ⟨(w.heap.size + 2), 0, none⟩ = some (.int .u8 4) := hk3.cell 0
 have ef0 := hk3.frozen 0
 have e1 : World.cell? wE ⟨(w.heap.size + 2), 1, none⟩ = some (.int .i64 0) := hk3.cell 1
 have ef1 := hk3.frozen 1
 have e2 : World.cell? wE ⟨(w.heap.size + 2), 2, none⟩ = some (.int .i64 0) := hk3.cell 2
 have ef2 := hk3.frozen 2
 have efl := hk3.lt
 go_wp2_with fail
 refine (HEV.out _).mono ?_
 rintro _ w1 ⟨rfl, hb1⟩
 have hB1 := bstep hbE hb1
 have hs1 := hb1.size
 clear p0 p1 p2 p3 p4 g0 g1 g2 g3 g4 gl
 clear e0 e1 e2 ef0 ef1 ef2 efl
 replace hk1 := hk1.keep hb1
 replace hk2 := hk2.keep hb1
 replace hk3 := hk3.keep hb1
 replace hk4 := hk4.keep hb1
 replace hxE := hxE.keep hb1
 replace hyE := hyE.keep hb1
 replace hrE := hrE.keep hb1
 have p0 : World.cell? w1 ⟨(w.heap.size + 1), 0, none⟩ = some (.slice S1 a.s.length c1) := hk2.cell 0
 have g0 := hk2.frozen 0
 have p1 : World.cell? w1 ⟨(w.heap.size + 1), 1, none⟩ = some (.slice N1 a.n.length c2) := hk2.cell 1
 have g1 := hk2.frozen 1
 have p2 : World.cell? w1 ⟨(w.heap.size + 1), 2, none⟩ = some (.slice G1 a.g.length c3) := hk2.cell 2
 have g2 := hk2.frozen 2
 have p3 : World.cell? w1 ⟨(w.heap.size + 1), 3, none⟩ = some (.slice D d.length c4) := hk2.cell 3
 have g3 := hk2.frozen 3
 have p4 : World.cell? w1 ⟨(w.heap.size + 1), 4, none⟩ = some (.slice T t.length c5) := hk2.cell 4
 have g4 := hk2.frozen 4
 have gl := hk2.lt
 go_wp2_with fail
 refine (HCP.out _ hrE).mono ?_
 rintro _ w2 ⟨S2, N2, G2, D2, T2, z1, z2, z3, z4, z5, rfl, hC, hb2⟩
 have hB2 := bstep hB1 hb2
 have hs2 := hb2.size
 clear p0 p1 p2 p3 p4 g0 g1 g2 g3 g4 gl
 replace hk1 := hk1.keep hb2
 replace hk3 := hk3.keep hb2
 replace hk4 := hk4.keep hb2
 replace hxE := hxE.keep hb2
 replace hyE := hyE.keep hb2
 obtain ⟨gT, cuT, rfl, hgT, _⟩ := made_blk hC.t ht0
 have e0 : World.cell? w2 ⟨(w.heap.size + 2), 0, none⟩ = some (.int .u8 4) := hk3.cell 0
 have ef0 := hk3.frozen 0
 have e1 : World.cell? w2 ⟨(w.heap.size + 2), 1, none⟩ = some (.int .i64 0) := hk3.cell 1
 have ef1 := hk3.frozen 1
 have e2 : World.cell? w2 ⟨(w.heap.size + 2), 2, none⟩ = some (.int .i64 0) := hk3.cell 2
 have ef2 := hk3.frozen 2
 have efl := hk3.lt
 have q0 : World.cell? w2 ⟨(w.heap.size + 3), 0, none⟩ = some (.slice none 0 0) := hk4.cell 0
 have f0 := hk4.frozen 0
 have q1 : World.cell? w2 ⟨(w.heap.size + 3), 1, none⟩ = some (.slice none 0 0) := hk4.cell 1
 have f1 := hk4.frozen 1
 have q2 : World.cell? w2 ⟨(w.heap.size + 3), 2, none⟩ = some (.slice none 0 0) := hk4.cell 2
 have f2 := hk4.frozen 2
 have q3 : World.cell? w2 ⟨(w.heap.size + 3), 3, none⟩ = some (.slice none 0 0) := hk4.cell 3
 have f3 := hk4.frozen 3
 have q4 : World.cell? w2 ⟨(w.heap.size + 3), 4, none⟩ = some (.slice none 0 0) := hk4.cell 4
 have f4 := hk4.frozen 4
 have fl := hk4.lt
 go_wp2_with fail
 refine (HI.out _).mono ?_
 rintro _ w3 ⟨rfl, hT3, hb3⟩
 clear e0 e1 e2 ef0 ef1 ef2 efl
 clear q0 q1 q2 q3 q4 f0 f1 f2 f3 f4 fl
 obtain ⟨wV, hwV⟩ : ∃ wV, wV = w2.alloc (.cells #[.slice S2 a.s.length z1, .slice N2 a.n.length z2, .slice G2 a.g.length z3, .slice D2 d.length z4, .slice (some ⟨gT, 0, none⟩) t.length z5] 42) := ⟨_, rfl⟩
 have hkV : Blk wV w2.heap.size 42 #[.slice S2 a.s.length z1, .slice N2 a.n.length z2, .slice G2 a.g.length z3, .slice D2 d.length z4, .slice (some ⟨gT, 0, none⟩) t.length z5] := by rw [hwV]; exact Blk.new _ _ _
 have hbV : Below w2.heap.size w2 wV := by rw [hwV]; exact balloc (Below.refl _ _) _
 have hsV : wV.heap.size = w2.heap.size + 1 := by rw [hwV]; simp
 have hb3' : Below wV.heap.size wV w3 := by rw [hwV]; exact hb3
 rw [show (w2.alloc (.cells #[.slice S2 a.s.length z1, .slice N2 a.n.length z2, .slice G2 a.g.length z3, .slice D2 d.length z4, .slice (some ⟨gT, 0, none⟩) t.length z5] 42)).heap.size = w2.heap.size + 1 by simp] at hT3
 clear hwV hb3
 have hkV3 := hkV.keep hb3'
 have hkR3 := (hk4.keep hbV).keep hb3'
 have hC3 := (hC.keep hbV).keep hb3'
 have hB3 : Below w.heap.size w w3 := bstep (bstep hB2 hbV) hb3'
 have p0 : World.cell? w3 ⟨w2.heap.size, 0, none⟩ = some (.slice S2 a.s.length z1) := hkV3.cell 0
 have g0 := hkV3.frozen 0
 have p1 : World.cell? w3 ⟨w2.heap.size, 1, none⟩ = some (.slice N2 a.n.length z2) := hkV3.cell 1
 have g1 := hkV3.frozen 1
 have p2 : World.cell? w3 ⟨w2.heap.size, 2, none⟩ = some (.slice G2 a.g.length z3) := hkV3.cell 2
 have g2 := hkV3.frozen 2
 have p3 : World.cell? w3 ⟨w2.heap.size, 3, none⟩ = some (.slice D2 d.length z4) := hkV3.cell 3
 have g3 := hkV3.frozen 3
 have p4 : World.cell? w3 ⟨w2.heap.size, 4, none⟩ = some (.slice (some ⟨gT, 0, none⟩) t.length z5) := hkV3.cell 4
 have g4 := hkV3.frozen 4
 have gl := hkV3.lt
 have q0 : World.cell? w3 ⟨(w.heap.size + 3), 0, none⟩ = some (.slice none 0 0) := hkR3.cell 0
 have f0 := hkR3.frozen 0
 have q1 : World.cell? w3 ⟨(w.heap.size + 3), 1, none⟩ = some (.slice none 0 0) := hkR3.cell 1
 have f1 := hkR3.frozen 1
 have q2 : World.cell? w3 ⟨(w.heap.size + 3), 2, none⟩ = some (.slice none 0 0) := hkR3.cell 2
 have f2 := hkR3.frozen 2
 have q3 : World.cell? w3 ⟨(w.heap.size + 3), 3, none⟩ = some (.slice none 0 0) := hkR3.cell 3
 have f3 := hkR3.frozen 3
 have q4 : World.cell? w3 ⟨(w.heap.size + 3), 4, none⟩ = some (.slice none 0 0) := hkR3.cell 4
 have f4 := hkR3.frozen 4
 have fl := hkR3.lt
 have n1 : ¬ w2.heap.size = w.heap.size + 3 := by omega
 have n2 : ¬ w.heap.size + 3 = w2.heap.size := by omega
 go_wp2
 refine bodyPost_ret (v := .tuple #[.agg #[.slice S2 a.s.length z1, .slice N2 a.n.length z2, .slice G2 a.g.length z3, .slice D2 d.length z4, .slice (some ⟨w2.heap.size + 1, 0, none⟩) t.length t.length], .int .i64 0]) (by simp [results, Try.results50, go_sem, q0, q1, q2, q3, q4, f0, f1, f2, f3, f4, fl, n1, n2]) rfl ?_
 rw [HR.out, haD]
 have hT4 := blk_RI hT3
 have hR3 : RW w3 S2 N2 G2 D2 (some ⟨w2.heap.size + 1, 0, none⟩) ⟨a, d, List.replicate t.length (-1)⟩ := ⟨hC3.rw_.a, hC3.rw_.d, hT4⟩
 have hR4 := hR3.apart hkV3 (slices5 _ _ _ _ _ _ _ _ _ _ _ _ _ _ _) 4 (.slice (some ⟨w2.heap.size + 1, 0, none⟩) t.length t.length)
 have hfin := work_fin (w := w) (x := 0) (c1 := z1) (c2 := z2) (c3 := z3) (c4 := z4) (c5 := t.length) hR4 (hkR3.far (p := ⟨w2.heap.size, 4, none⟩) n2 _) (hB3.setCell (p := ⟨w2.heap.size, 4, none⟩) (by simp only; omega) _) (by omega)
 simp only [List.length_replicate] at hfin
 exact hfin
set_option maxRecDepth 20000 in
set_option maxHeartbeats 2000000 in
theorem step_done_any {xs ys : List Int} {M S : Nat} (hj : Job xs ys M S) (X Y S1 N1 G1 D T : Option Addr) (cx cy c1 c2 c3 c4 c5 : Nat) (d : List Bool) (t : List Int) (k u b : Int) (hkk : k = 2 ∨ k = 3) (w : World) (hx : RI .i64 w X xs) (hy : RI .i64 w Y ys) (hcx : xs.length ≤ cx) (hG : Good19 (cdiv xs.length S) d t) (hr : RW w S1 N1 G1 D T ⟨sumA xs ys M S d, d, t⟩) :
 Calls Try.prog 50 #[.agg #[.slice X xs.length cx, .slice Y ys.length cy, .int .i64 (M : Int), .int .i64 (S : Int)], .agg #[.slice S1 (sumA xs ys M S d).s.length c1, .slice N1 (sumA xs ys M S d).n.length c2, .slice G1 (sumA xs ys M S d).g.length c3, .slice D d.length c4, .slice T t.length c5], .agg #[.int .u8 k, .int .i64 u, .int .i64 b]] w (RetW w (stW xs ys M S (stepS d t ⟨k, u, b⟩))) := by
 have HAB := Lib.hid (fun A (h : d.getD A true = false) S1 N1 G1 c1 c2 c3 w hx hy ha => addBlock_any hj X Y S1 N1 G1 cx cy c1 c2 c3 A (sumA xs ys M S d) (sumA xs ys M S (d.set A true)) w hx hy hcx ha (sumA_is hj hG.d).fine ((cdiv_lt hj.s).1 (by have := getD_false_lt h; have := hG.d; omega)) (sumA_add hj hG.d h))
 have hAT := hG.at_
 have hfA := (sumA_is hj hG.d).fine
 have hOK := Lib.hid (fun d2 t2 (h : stepS d t ⟨k, u, b⟩ = ((d2, t2), 0)) => stW_ok (xs := xs) (ys := ys) (M := M) (S := S) h)
 have hNO := Lib.hid (fun x (h : stepS d t ⟨k, u, b⟩ = (([], []), x)) (hx : x ≠ 0) => stW_no (xs := xs) (ys := ys) (M := M) (S := S) h hx)
 generalize stW xs ys M S (stepS d t ⟨k, u, b⟩) = RES at *
 generalize hGS : sumA xs ys M S = SM at *
 generalize haD : SM d = a at *
 obtain ⟨wE, hwE⟩ : ∃ wE, wE = (((w.alloc (.cells #[.slice X xs.length cx, .slice Y ys.length cy, .int .i64 (M : Int), .int .i64 (S : Int)] 24)).alloc (.cells #[.slice S1 a.s.length c1, .slice N1 a.n.length c2, .slice G1 a.g.length c3, .slice D d.length c4, .slice T t.length c5] 42)).alloc (.cells #[.int .u8 k, .int .i64 u, .int .i64 b] 54)).alloc (.cells #[.slice .none 0 0, .slice .none 0 0, .slice .none 0 0, .slice .none 0 0, .slice .none 0 0] 42) := ⟨_, rfl⟩
 have hk1 : Blk wE w.heap.size 24 #[.slice X xs.length cx, .slice Y ys.length cy, .int .i64 (M : Int), .int .i64 (S : Int)] := by rw [hwE]; exact (((Blk.new _ _ _).alloc _).alloc _).alloc _
 have hk2 : Blk wE (w.heap.size + 1) 42 #[.slice S1 a.s.length c1, .slice N1 a.n.length c2, .slice G1 a.g.length c3, .slice D d.length c4, .slice T t.length c5] := by rw [hwE]; exact ((Blk.newAt _ _ (by simp)).alloc _).alloc _
 have hk3 : Blk wE (w.heap.size + 2) 54 #[.int .u8 k, .int .i64 u, .int .i64 b] := by rw [hwE]; exact (Blk.newAt _ _ (by simp)).alloc _
 have hk4 : Blk wE (w.heap.size + 3) 42 #[.slice .none 0 0, .slice .none 0 0, .slice .none 0 0, .slice .none 0 0, .slice .none 0 0] := by rw [hwE]; exact Blk.newAt _ _ (by simp)
 have hbE : Below w.heap.size w wE := by rw [hwE]; exact balloc (balloc (balloc (balloc (Below.refl _ _) _) _) _) _
 have hsE : wE.heap.size = w.heap.size + 4 := by rw [hwE]; simp
 have hxE := hx.keep hbE
 have hyE := hy.keep hbE
 have hrE := hr.keep hbE
 have ht0 : 0 < t.length := hG.t0
 have ht6 := hG.t6
 have hdC := hG.d
 have hc64 := hj.c
 have HEV := Lib.hid (fun w => isEvent_any S1 N1 G1 D T a.s.length a.n.length a.g.length d.length t.length c1 c2 c3 c4 c5 k u b w)
 have HCP := Lib.hid (fun w hx => copyWork_any S1 N1 G1 D T c1 c2 c3 c4 c5 ⟨a, d, t⟩ w hx (by have := hfA.ls; simp only; omega) (by have := hfA.ls; have := hfA.ln; simp only; omega) (by have := hfA.lg; simp only; omega) (by simp only; omega) (by simp only; omega))
 clear hr hfA hc64 hdC
 have k1 : (k == 1) = false := by simp; omega
 have k4 : (k == 4) = false := by simp; omega
 cases hev : isEvB d.length t.length k u b
 ·have HR := Lib.hid (hNO.out 2 (step_ev hev) (by decide))
  rw [hev] at HEV
  clear hev hNO hOK
  go_enter Try.func50, Try.ntmps50
  go_wp2_with fail
  rw [← hwE]
  clear hwE
  have p0 : World.cell? wE ⟨(w.heap.size + 1), 0, none⟩ = some (.slice S1 a.s.length c1) := hk2.cell 0
  have g0 := hk2.frozen 0
  have p1 : World.cell? wE ⟨(w.heap.size + 1), 1, none⟩ = some (.slice N1 a.n.length c2) := hk2.cell 1
  have g1 := hk2.frozen 1
  have p2 : World.cell? wE ⟨(w.heap.size + 1), 2, none⟩ = some (.slice G1 a.g.length c3) := hk2.cell 2
  have g2 := hk2.frozen 2
  have p3 : World.cell? wE ⟨(w.heap.size + 1), 3, none⟩ = some (.slice D d.length c4) := hk2.cell 3
  have g3 := hk2.frozen 3
  have p4 : World.cell? wE ⟨(w.heap.size + 1), 4, none⟩ = some (.slice T t.length c5) := hk2.cell 4
  have g4 := hk2.frozen 4
  have gl := hk2.lt
  have e0 : World.cell? wE ⟨(w.heap.size + 2), 0, none⟩ = some (.int .u8 k) := hk3.cell 0
  have ef0 := hk3.frozen 0
  have e1 : World.cell? wE ⟨(w.heap.size + 2), 1, none⟩ = some (.int .i64 u) := hk3.cell 1
  have ef1 := hk3.frozen 1
  have e2 : World.cell? wE ⟨(w.heap.size + 2), 2, none⟩ = some (.int .i64 b) := hk3.cell 2
  have ef2 := hk3.frozen 2
  have efl := hk3.lt
  go_wp2_with fail
  refine (HEV.out _).mono ?_
  rintro _ w1 ⟨rfl, hb1⟩
  have hB1 := bstep hbE hb1
  have hs1 := hb1.size
  clear p0 p1 p2 p3 p4 g0 g1 g2 g3 g4 gl
  clear e0 e1 e2 ef0 ef1 ef2 efl
  replace hk1 := hk1.keep hb1
  replace hk2 := hk2.keep hb1
  replace hk3 := hk3.keep hb1
  replace hk4 := hk4.keep hb1
  replace hxE := hxE.keep hb1
  replace hyE := hyE.keep hb1
  replace hrE := hrE.keep hb1
  have q0 : World.cell? w1 ⟨(w.heap.size + 3), 0, none⟩ = some (.slice none 0 0) := hk4.cell 0
  have f0 := hk4.frozen 0
  have q1 : World.cell? w1 ⟨(w.heap.size + 3), 1, none⟩ = some (.slice none 0 0) := hk4.cell 1
  have f1 := hk4.frozen 1
  have q2 : World.cell? w1 ⟨(w.heap.size + 3), 2, none⟩ = some (.slice none 0 0) := hk4.cell 2
  have f2 := hk4.frozen 2
  have q3 : World.cell? w1 ⟨(w.heap.size + 3), 3, none⟩ = some (.slice none 0 0) := hk4.cell 3
  have f3 := hk4.frozen 3
  have q4 : World.cell? w1 ⟨(w.heap.size + 3), 4, none⟩ = some (.slice none 0 0) := hk4.cell 4
  have f4 := hk4.frozen 4
  have fl := hk4.lt
  go_wp2
  exact bodyPost_ret (v := .tuple #[.agg #[.slice none 0 0, .slice none 0 0, .slice none 0 0, .slice none 0 0, .slice none 0 0], .int .i64 2]) (by simp [results, Try.results50, go_sem, q0, q1, q2, q3, q4, f0, f1, f2, f3, f4, fl]) rfl (none_fin HR.out (by first | exact hB1 | exact balloc hB2 _) (by omega) _ _ _ _ _)
 rw [hev] at HEV
 obtain ⟨hu0, hu1, rfl⟩ := ev_done hkk hev
 obtain ⟨U, rfl⟩ : ∃ U : Nat, u = U := ⟨u.toNat, by omega⟩
 have hU : U < t.length := by omega
 have hst := step_done (d := d) (t := t) hkk hU
 clear hu0 hu1 hev
 have eT : t.getD U 0 = t[U] := getD_lt _ _ hU
 rw [eT] at hst
 by_cases h1 : t[U] = -1
 ·rw [if_pos h1] at hst
  have HR := Lib.hid (hNO.out _ hst (by decide))
  have HT := Lib.hid h1
  clear hst h1 hNO hOK
  go_enter Try.func50, Try.ntmps50
  go_wp2_with fail
  rw [← hwE]
  clear hwE
  have p0 : World.cell? wE ⟨(w.heap.size + 1), 0, none⟩ = some (.slice S1 a.s.length c1) := hk2.cell 0
  have g0 := hk2.frozen 0
  have p1 : World.cell? wE ⟨(w.heap.size + 1), 1, none⟩ = some (.slice N1 a.n.length c2) := hk2.cell 1
  have g1 := hk2.frozen 1
  have p2 : World.cell? wE ⟨(w.heap.size + 1), 2, none⟩ = some (.slice G1 a.g.length c3) := hk2.cell 2
  have g2 := hk2.frozen 2
  have p3 : World.cell? wE ⟨(w.heap.size + 1), 3, none⟩ = some (.slice D d.length c4) := hk2.cell 3
  have g3 := hk2.frozen 3
  have p4 : World.cell? wE ⟨(w.heap.size + 1), 4, none⟩ = some (.slice T t.length c5) := hk2.cell 4
  have g4 := hk2.frozen 4
  have gl := hk2.lt
  have e0 : World.cell? wE ⟨(w.heap.size + 2), 0, none⟩ = some (.int .u8 k) := hk3.cell 0
  have ef0 := hk3.frozen 0
  have e1 : World.cell? wE ⟨(w.heap.size + 2), 1, none⟩ = some (.int .i64 (U : Int)) := hk3.cell 1
  have ef1 := hk3.frozen 1
  have e2 : World.cell? wE ⟨(w.heap.size + 2), 2, none⟩ = some (.int .i64 0) := hk3.cell 2
  have ef2 := hk3.frozen 2
  have efl := hk3.lt
  go_wp2_with fail
  refine (HEV.out _).mono ?_
  rintro _ w1 ⟨rfl, hb1⟩
  have hB1 := bstep hbE hb1
  have hs1 := hb1.size
  clear p0 p1 p2 p3 p4 g0 g1 g2 g3 g4 gl
  clear e0 e1 e2 ef0 ef1 ef2 efl
  replace hk1 := hk1.keep hb1
  replace hk2 := hk2.keep hb1
  replace hk3 := hk3.keep hb1
  replace hk4 := hk4.keep hb1
  replace hxE := hxE.keep hb1
  replace hyE := hyE.keep hb1
  replace hrE := hrE.keep hb1
  have p0 : World.cell? w1 ⟨(w.heap.size + 1), 0, none⟩ = some (.slice S1 a.s.length c1) := hk2.cell 0
  have g0 := hk2.frozen 0
  have p1 : World.cell? w1 ⟨(w.heap.size + 1), 1, none⟩ = some (.slice N1 a.n.length c2) := hk2.cell 1
  have g1 := hk2.frozen 1
  have p2 : World.cell? w1 ⟨(w.heap.size + 1), 2, none⟩ = some (.slice G1 a.g.length c3) := hk2.cell 2
  have g2 := hk2.frozen 2
  have p3 : World.cell? w1 ⟨(w.heap.size + 1), 3, none⟩ = some (.slice D d.length c4) := hk2.cell 3
  have g3 := hk2.frozen 3
  have p4 : World.cell? w1 ⟨(w.heap.size + 1), 4, none⟩ = some (.slice T t.length c5) := hk2.cell 4
  have g4 := hk2.frozen 4
  have gl := hk2.lt
  go_wp2_with fail
  refine (HCP.out _ hrE).mono ?_
  rintro _ w2 ⟨S2, N2, G2, D2, T2, z1, z2, z3, z4, z5, rfl, hC, hb2⟩
  have hB2 := bstep hB1 hb2
  have hs2 := hb2.size
  clear p0 p1 p2 p3 p4 g0 g1 g2 g3 g4 gl
  replace hk1 := hk1.keep hb2
  replace hk3 := hk3.keep hb2
  replace hk4 := hk4.keep hb2
  replace hxE := hxE.keep hb2
  replace hyE := hyE.keep hb2
  obtain ⟨gT, cuT, rfl, hgT, _⟩ := made_blk hC.t ht0
  have e0 : World.cell? w2 ⟨(w.heap.size + 2), 0, none⟩ = some (.int .u8 k) := hk3.cell 0
  have ef0 := hk3.frozen 0
  have e1 : World.cell? w2 ⟨(w.heap.size + 2), 1, none⟩ = some (.int .i64 (U : Int)) := hk3.cell 1
  have ef1 := hk3.frozen 1
  have e2 : World.cell? w2 ⟨(w.heap.size + 2), 2, none⟩ = some (.int .i64 0) := hk3.cell 2
  have ef2 := hk3.frozen 2
  have efl := hk3.lt
  have q0 : World.cell? w2 ⟨(w.heap.size + 3), 0, none⟩ = some (.slice none 0 0) := hk4.cell 0
  have f0 := hk4.frozen 0
  have q1 : World.cell? w2 ⟨(w.heap.size + 3), 1, none⟩ = some (.slice none 0 0) := hk4.cell 1
  have f1 := hk4.frozen 1
  have q2 : World.cell? w2 ⟨(w.heap.size + 3), 2, none⟩ = some (.slice none 0 0) := hk4.cell 2
  have f2 := hk4.frozen 2
  have q3 : World.cell? w2 ⟨(w.heap.size + 3), 3, none⟩ = some (.slice none 0 0) := hk4.cell 3
  have f3 := hk4.frozen 3
  have q4 : World.cell? w2 ⟨(w.heap.size + 3), 4, none⟩ = some (.slice none 0 0) := hk4.cell 4
  have f4 := hk4.frozen 4
  have fl := hk4.lt
  obtain ⟨m1, m2, m3, m4⟩ := made_cell (ev := fun x => Value.int .i64 x) (fun _ => rfl) hC.t hU
  simp only [HT.out] at m1
  go_wp2
  exact bodyPost_ret (v := .tuple #[.agg #[.slice none 0 0, .slice none 0 0, .slice none 0 0, .slice none 0 0, .slice none 0 0], .int .i64 36]) (by simp [results, Try.results50, go_sem, q0, q1, q2, q3, q4, f0, f1, f2, f3, f4, fl]) rfl ((none_fin HR.out hB2 (by omega) _ _ _ _ _).alloc _)
 rw [if_neg h1] at hst
 obtain ⟨A, hA⟩ : ∃ A : Nat, t[U] = A := ⟨t[U].toNat, by have := hAT t[U] (List.getElem_mem hU); omega⟩
 have hAd : A < d.length := by have := hAT t[U] (List.getElem_mem hU); have := hG.d; omega
 have hne : ((A : Int) == -1) = false := by rw [beq_eq_false_iff_ne]; omega
 rw [hA, Int.toNat_natCast] at hst
 have HT := Lib.hid hA
 have eD : d.getD A true = d[A] := getD_lt _ _ hAd
 clear h1 hNO
 by_cases h2 : k = 2 ∧ d[A] = false
 ·obtain ⟨rfl, hdA⟩ := h2
  rw [if_pos rfl] at hst
  have HR := Lib.hid (hOK.out _ _ hst)
  have HBK := Lib.hid (HAB.out A (by rw [eD]; exact hdA))
  have HD := Lib.hid hdA
  clear hst hOK hdA hA hAT eD eT
  generalize SM (d.set A true) = a2 at *
  go_enter Try.func50, Try.ntmps50
  go_wp2_with fail
  rw [← hwE]
  clear hwE
  have p0 : World.cell? wE ⟨(w.heap.size + 1), 0, none⟩ = some (.slice S1 a.s.length c1) := hk2.cell 0
  have g0 := hk2.frozen 0
  have p1 : World.cell? wE ⟨(w.heap.size + 1), 1, none⟩ = some (.slice N1 a.n.length c2) := hk2.cell 1
  have g1 := hk2.frozen 1
  have p2 : World.cell? wE ⟨(w.heap.size + 1), 2, none⟩ = some (.slice G1 a.g.length c3) := hk2.cell 2
  have g2 := hk2.frozen 2
  have p3 : World.cell? wE ⟨(w.heap.size + 1), 3, none⟩ = some (.slice D d.length c4) := hk2.cell 3
  have g3 := hk2.frozen 3
  have p4 : World.cell? wE ⟨(w.heap.size + 1), 4, none⟩ = some (.slice T t.length c5) := hk2.cell 4
  have g4 := hk2.frozen 4
  have gl := hk2.lt
  have e0 : World.cell? wE ⟨(w.heap.size + 2), 0, none⟩ = some (.int .u8 2) := hk3.cell 0
  have ef0 := hk3.frozen 0
  have e1 : World.cell? wE ⟨(w.heap.size + 2), 1, none⟩ = some (.int .i64 (U : Int)) := hk3.cell 1
  have ef1 := hk3.frozen 1
  have e2 : World.cell? wE ⟨(w.heap.size + 2), 2, none⟩ = some (.int .i64 0) := hk3.cell 2
  have ef2 := hk3.frozen 2
  have efl := hk3.lt
  go_wp2_with fail
  refine (HEV.out _).mono ?_
  rintro _ w1 ⟨rfl, hb1⟩
  have hB1 := bstep hbE hb1
  have hs1 := hb1.size
  clear p0 p1 p2 p3 p4 g0 g1 g2 g3 g4 gl
  clear e0 e1 e2 ef0 ef1 ef2 efl
  replace hk1 := hk1.keep hb1
  replace hk2 := hk2.keep hb1
  replace hk3 := hk3.keep hb1
  replace hk4 := hk4.keep hb1
  replace hxE := hxE.keep hb1
  replace hyE := hyE.keep hb1
  replace hrE := hrE.keep hb1
  have p0 : World.cell? w1 ⟨(w.heap.size + 1), 0, none⟩ = some (.slice S1 a.s.length c1) := hk2.cell 0
  have g0 := hk2.frozen 0
  have p1 : World.cell? w1 ⟨(w.heap.size + 1), 1, none⟩ = some (.slice N1 a.n.length c2) := hk2.cell 1
  have g1 := hk2.frozen 1
  have p2 : World.cell? w1 ⟨(w.heap.size + 1), 2, none⟩ = some (.slice G1 a.g.length c3) := hk2.cell 2
  have g2 := hk2.frozen 2
  have p3 : World.cell? w1 ⟨(w.heap.size + 1), 3, none⟩ = some (.slice D d.length c4) := hk2.cell 3
  have g3 := hk2.frozen 3
  have p4 : World.cell? w1 ⟨(w.heap.size + 1), 4, none⟩ = some (.slice T t.length c5) := hk2.cell 4
  have g4 := hk2.frozen 4
  have gl := hk2.lt
  go_wp2_with fail
  refine (HCP.out _ hrE).mono ?_
  rintro _ w2 ⟨S2, N2, G2, D2, T2, z1, z2, z3, z4, z5, rfl, hC, hb2⟩
  have hB2 := bstep hB1 hb2
  have hs2 := hb2.size
  clear p0 p1 p2 p3 p4 g0 g1 g2 g3 g4 gl
  replace hk1 := hk1.keep hb2
  replace hk3 := hk3.keep hb2
  replace hk4 := hk4.keep hb2
  replace hxE := hxE.keep hb2
  replace hyE := hyE.keep hb2
  obtain ⟨gT, cuT, rfl, hgT, _⟩ := made_blk hC.t ht0
  have e0 : World.cell? w2 ⟨(w.heap.size + 2), 0, none⟩ = some (.int .u8 2) := hk3.cell 0
  have ef0 := hk3.frozen 0
  have e1 : World.cell? w2 ⟨(w.heap.size + 2), 1, none⟩ = some (.int .i64 (U : Int)) := hk3.cell 1
  have ef1 := hk3.frozen 1
  have e2 : World.cell? w2 ⟨(w.heap.size + 2), 2, none⟩ = some (.int .i64 0) := hk3.cell 2
  have ef2 := hk3.frozen 2
  have efl := hk3.lt
  have q0 : World.cell? w2 ⟨(w.heap.size + 3), 0, none⟩ = some (.slice none 0 0) := hk4.cell 0
  have f0 := hk4.frozen 0
  have q1 : World.cell? w2 ⟨(w.heap.size + 3), 1, none⟩ = some (.slice none 0 0) := hk4.cell 1
  have f1 := hk4.frozen 1
  have q2 : World.cell? w2 ⟨(w.heap.size + 3), 2, none⟩ = some (.slice none 0 0) := hk4.cell 2
  have f2 := hk4.frozen 2
  have q3 : World.cell? w2 ⟨(w.heap.size + 3), 3, none⟩ = some (.slice none 0 0) := hk4.cell 3
  have f3 := hk4.frozen 3
  have q4 : World.cell? w2 ⟨(w.heap.size + 3), 4, none⟩ = some (.slice none 0 0) := hk4.cell 4
  have f4 := hk4.frozen 4
  have fl := hk4.lt
  obtain ⟨m1, m2, m3, m4⟩ := made_cell (ev := fun x => Value.int .i64 x) (fun _ => rfl) hC.t hU
  obtain ⟨gD, cuD, rfl, hgD, hkD, _⟩ := made_blk hC.d (by simp only; omega)
  obtain ⟨n1, n2, n3, n4⟩ := made_cell (ev := fun x => Value.bool x) (fun _ => rfl) hC.d hAd
  have nDT : gT ≠ gD := made_type hC.t ht0 hkD (by decide)
  simp only [HT.out] at m1
  simp only [HD.out] at n1
  have t1 : ¬ gT = w.heap.size + 3 := by omega
  have t2 : ¬ gT = w2.heap.size := by omega
  have t3 : ¬ w.heap.size + 3 = gT := by omega
  have t4 : ¬ w2.heap.size = gT := by omega
  have t5 : ¬ gT = gD := nDT
  have t6 : ¬ gD = gT := fun e => nDT e.symm
  have t7 : ¬ gT = w.heap.size := by have := hk1.lt; omega
  have t8 : ¬ w.heap.size = gT := by have := hk1.lt; omega
  have j0 : World.cell? w2 ⟨w.heap.size, 0, none⟩ = some (.slice X xs.length cx) := hk1.cell 0
  have jf0 := hk1.frozen 0
  have j1 : World.cell? w2 ⟨w.heap.size, 1, none⟩ = some (.slice Y ys.length cy) := hk1.cell 1
  have jf1 := hk1.frozen 1
  have j2 : World.cell? w2 ⟨w.heap.size, 2, none⟩ = some (.int .i64 (M : Int)) := hk1.cell 2
  have jf2 := hk1.frozen 2
  have j3 : World.cell? w2 ⟨w.heap.size, 3, none⟩ = some (.int .i64 (S : Int)) := hk1.cell 3
  have jf3 := hk1.frozen 3
  have jfl := hk1.lt
  go_wp2_with fail
  obtain ⟨wV, hwV⟩ : ∃ wV, wV = (w2.setCell ⟨gT, U, none⟩ (.int .i64 (-1))).alloc (.cells #[.slice S2 a.s.length z1, .slice N2 a.n.length z2, .slice G2 a.g.length z3, .slice (some ⟨gD, 0, none⟩) d.length z4, .slice (some ⟨gT, 0, none⟩) t.length z5] 42) := ⟨_, rfl⟩
  have hkV : Blk wV w2.heap.size 42 #[.slice S2 a.s.length z1, .slice N2 a.n.length z2, .slice G2 a.g.length z3, .slice (some ⟨gD, 0, none⟩) d.length z4, .slice (some ⟨gT, 0, none⟩) t.length z5] := by rw [hwV]; exact Blk.newAt _ _ (by simp [World.setCell])
  have hkR : Blk wV (w.heap.size + 3) 42 #[.slice none 0 0, .slice none 0 0, .slice none 0 0, .slice none 0 0, .slice none 0 0] := by rw [hwV]; exact (hk4.far (p := ⟨gT, U, none⟩) t3 _).alloc _
  have hCV : CW w1.heap.size wV S2 N2 G2 (some ⟨gD, 0, none⟩) (some ⟨gT, 0, none⟩) z1 z2 z3 z4 z5 ⟨a, d, t.set U (-1)⟩ := by rw [hwV]; exact (hC.setT (k := U) hU (-1)).keep (balloc (Below.refl _ _) _)
  have hBV : Below w.heap.size w wV := by rw [hwV]; exact balloc (hB2.setCell (p := ⟨gT, U, none⟩) (by simp only; omega) _) _
  have hsV : wV.heap.size = w2.heap.size + 1 := by rw [hwV]; simp [World.setCell]
  rw [← hwV]
  clear hwV hk1 hk3 m1 m2 m3 n1 n2 j0 j1 j2 j3 jf0 jf1 jf2 jf3 jfl q0 q1 q2 q3 q4 f0 f1 f2 f3 f4 fl hxE hyE hkD
  clear e0 e1 e2 ef0 ef1 ef2 efl
  refine (HBK.out S2 N2 G2 z1 z2 z3 _ (hx.keep hBV) (hy.keep hBV) hCV.rw_.a).mono ?_
  rintro _ w5 ⟨S5, N5, G5, y1, y2, y3, rfl, ra5, fa5, hb5⟩
  have hkV5 := hkV.keep hb5
  have hkR5 := hkR.keep hb5
  have hC5 := hCV.keep hb5
  have hB5 := bstep hBV hb5
  obtain ⟨n1, n2, n3', n4'⟩ := made_cell (ev := fun x => Value.bool x) (fun _ => rfl) hC5.d hAd
  simp only at n1
  have p0 : World.cell? w5 ⟨w2.heap.size, 0, none⟩ = some (.slice S2 a.s.length z1) := hkV5.cell 0
  have g0 := hkV5.frozen 0
  have p1 : World.cell? w5 ⟨w2.heap.size, 1, none⟩ = some (.slice N2 a.n.length z2) := hkV5.cell 1
  have g1 := hkV5.frozen 1
  have p2 : World.cell? w5 ⟨w2.heap.size, 2, none⟩ = some (.slice G2 a.g.length z3) := hkV5.cell 2
  have g2 := hkV5.frozen 2
  have p3 : World.cell? w5 ⟨w2.heap.size, 3, none⟩ = some (.slice (some ⟨gD, 0, none⟩) d.length z4) := hkV5.cell 3
  have g3 := hkV5.frozen 3
  have p4 : World.cell? w5 ⟨w2.heap.size, 4, none⟩ = some (.slice (some ⟨gT, 0, none⟩) t.length z5) := hkV5.cell 4
  have g4 := hkV5.frozen 4
  have gl := hkV5.lt
  have q0 : World.cell? w5 ⟨(w.heap.size + 3), 0, none⟩ = some (.slice none 0 0) := hkR5.cell 0
  have f0 := hkR5.frozen 0
  have q1 : World.cell? w5 ⟨(w.heap.size + 3), 1, none⟩ = some (.slice none 0 0) := hkR5.cell 1
  have f1 := hkR5.frozen 1
  have q2 : World.cell? w5 ⟨(w.heap.size + 3), 2, none⟩ = some (.slice none 0 0) := hkR5.cell 2
  have f2 := hkR5.frozen 2
  have q3 : World.cell? w5 ⟨(w.heap.size + 3), 3, none⟩ = some (.slice none 0 0) := hkR5.cell 3
  have f3 := hkR5.frozen 3
  have q4 : World.cell? w5 ⟨(w.heap.size + 3), 4, none⟩ = some (.slice none 0 0) := hkR5.cell 4
  have f4 := hkR5.frozen 4
  have fl := hkR5.lt
  have s1 : ¬ gD = w2.heap.size := by omega
  have s2 : ¬ w2.heap.size = gD := by omega
  have s3 : ¬ gD = w.heap.size + 3 := by omega
  have s4 : ¬ w.heap.size + 3 = gD := by omega
  have s5 : ¬ w2.heap.size = w.heap.size + 3 := by omega
  have s6 : ¬ w.heap.size + 3 = w2.heap.size := by omega
  go_wp2
  refine bodyPost_ret (v := .tuple #[.agg #[.slice S5 a2.s.length y1, .slice N5 a2.n.length y2, .slice G5 a2.g.length y3, .slice (some ⟨gD, 0, none⟩) d.length z4, .slice (some ⟨gT, 0, none⟩) t.length z5], .int .i64 0]) (by simp [results, Try.results50, go_sem, q0, q1, q2, q3, q4, f0, f1, f2, f3, f4, fl, p0, p1, p2, p3, p4, s1, s2, s3, s4, s5, s6]) rfl ?_
  rw [HR.out]
  have k1' := hkV5.put 0 (.slice S5 a2.s.length y1)
  have k2' := k1'.put 1 (.slice N5 a2.n.length y2)
  have k3' := k2'.put 2 (.slice G5 a2.g.length y3)
  have hC6 := (((hC5.far (p := ⟨w2.heap.size, 0, none⟩) hkV5 (.slice S5 a2.s.length y1)).far (p := ⟨w2.heap.size, 1, none⟩) k1' (.slice N5 a2.n.length y2)).far (p := ⟨w2.heap.size, 2, none⟩) k2' (.slice G5 a2.g.length y3)).setD (k := A) hAd true
  have ra6 := (((ra5.far fa5 (p := ⟨w2.heap.size, 0, none⟩) (by simp only; omega) (.slice S5 a2.s.length y1)).far fa5 (p := ⟨w2.heap.size, 1, none⟩) (by simp only; omega) (.slice N5 a2.n.length y2)).far fa5 (p := ⟨w2.heap.size, 2, none⟩) (by simp only; omega) (.slice G5 a2.g.length y3)).far fa5 (p := ⟨gD, A, none⟩) (by simp only; omega) (.bool true)
  have hkR6 := (((hkR5.far (p := ⟨w2.heap.size, 0, none⟩) s6 (.slice S5 a2.s.length y1)).far (p := ⟨w2.heap.size, 1, none⟩) s6 (.slice N5 a2.n.length y2)).far (p := ⟨w2.heap.size, 2, none⟩) s6 (.slice G5 a2.g.length y3)).far (p := ⟨gD, A, none⟩) s4 (.bool true)
  have hB6 := (((hB5.setCell (p := ⟨w2.heap.size, 0, none⟩) (by simp only; omega) (.slice S5 a2.s.length y1)).setCell (p := ⟨w2.heap.size, 1, none⟩) (by simp only; omega) (.slice N5 a2.n.length y2)).setCell (p := ⟨w2.heap.size, 2, none⟩) (by simp only; omega) (.slice G5 a2.g.length y3)).setCell (p := ⟨gD, A, none⟩) (by simp only; omega) (.bool true)
  have hfin := (work_fin (w := w) (x := 0) (c1 := y1) (c2 := y2) (c3 := y3) (c4 := z4) (c5 := z5) (r := ⟨a2, d.set A true, t.set U (-1)⟩) ⟨ra6, hC6.rw_.d, hC6.rw_.t⟩ hkR6 hB6 (by omega)).alloc (.cells #[.slice S5 a2.s.length y1, .slice N5 a2.n.length y2, .slice G5 a2.g.length y3] 39)
  simp only [List.length_set] at hfin
  exact hfin
 ·have hset : (if k = 2 then d.set A true else d) = d := by
   split
   ·rename_i hk2
    have h3 : d[A] = true := by
     cases e : d[A]
     ·exact absurd ⟨hk2, e⟩ h2
     ·rfl
    refine List.ext_getElem (by rw [List.length_set]) fun j h4 h5 => ?_
    rw [List.getElem_set]
    split
    ·rename_i e; subst e; exact h3.symm
    ·rfl
   ·rfl
  rw [hset] at hst
  have HR := Lib.hid (hOK.out _ _ hst)
  have hD2 : k = 2 → d[A] = true := fun e => by
   cases e2 : d[A]
   ·exact absurd ⟨e, e2⟩ h2
   ·rfl
  clear hst hOK hset h2 hA hAT eD eT HAB
  rcases hkk with rfl | rfl
  ·have HD := Lib.hid (hD2 rfl)
   clear hD2
   go_enter Try.func50, Try.ntmps50
   go_wp2_with fail
   rw [← hwE]
   clear hwE
   have p0 : World.cell? wE ⟨(w.heap.size + 1), 0, none⟩ = some (.slice S1 a.s.length c1) := hk2.cell 0
   have g0 := hk2.frozen 0
   have p1 : World.cell? wE ⟨(w.heap.size + 1), 1, none⟩ = some (.slice N1 a.n.length c2) := hk2.cell 1
   have g1 := hk2.frozen 1
   have p2 : World.cell? wE ⟨(w.heap.size + 1), 2, none⟩ = some (.slice G1 a.g.length c3) := hk2.cell 2
   have g2 := hk2.frozen 2
   have p3 : World.cell? wE ⟨(w.heap.size + 1), 3, none⟩ = some (.slice D d.length c4) := hk2.cell 3
   have g3 := hk2.frozen 3
   have p4 : World.cell? wE ⟨(w.heap.size + 1), 4, none⟩ = some (.slice T t.length c5) := hk2.cell 4
   have g4 := hk2.frozen 4
   have gl := hk2.lt
   have e0 : World.cell? wE ⟨(w.heap.size + 2), 0, none⟩ = some (.int .u8 2) := hk3.cell 0
   have ef0 := hk3.frozen 0
   have e1 : World.cell? wE ⟨(w.heap.size + 2), 1, none⟩ = some (.int .i64 (U : Int)) := hk3.cell 1
   have ef1 := hk3.frozen 1
   have e2 : World.cell? wE ⟨(w.heap.size + 2), 2, none⟩ = some (.int .i64 0) := hk3.cell 2
   have ef2 := hk3.frozen 2
   have efl := hk3.lt
   go_wp2_with fail
   refine (HEV.out _).mono ?_
   rintro _ w1 ⟨rfl, hb1⟩
   have hB1 := bstep hbE hb1
   have hs1 := hb1.size
   clear p0 p1 p2 p3 p4 g0 g1 g2 g3 g4 gl
   clear e0 e1 e2 ef0 ef1 ef2 efl
   replace hk1 := hk1.keep hb1
   replace hk2 := hk2.keep hb1
   replace hk3 := hk3.keep hb1
   replace hk4 := hk4.keep hb1
   replace hxE := hxE.keep hb1
   replace hyE := hyE.keep hb1
   replace hrE := hrE.keep hb1
   have p0 : World.cell? w1 ⟨(w.heap.size + 1), 0, none⟩ = some (.slice S1 a.s.length c1) := hk2.cell 0
   have g0 := hk2.frozen 0
   have p1 : World.cell? w1 ⟨(w.heap.size + 1), 1, none⟩ = some (.slice N1 a.n.length c2) := hk2.cell 1
   have g1 := hk2.frozen 1
   have p2 : World.cell? w1 ⟨(w.heap.size + 1), 2, none⟩ = some (.slice G1 a.g.length c3) := hk2.cell 2
   have g2 := hk2.frozen 2
   have p3 : World.cell? w1 ⟨(w.heap.size + 1), 3, none⟩ = some (.slice D d.length c4) := hk2.cell 3
   have g3 := hk2.frozen 3
   have p4 : World.cell? w1 ⟨(w.heap.size + 1), 4, none⟩ = some (.slice T t.length c5) := hk2.cell 4
   have g4 := hk2.frozen 4
   have gl := hk2.lt
   go_wp2_with fail
   refine (HCP.out _ hrE).mono ?_
   rintro _ w2 ⟨S2, N2, G2, D2, T2, z1, z2, z3, z4, z5, rfl, hC, hb2⟩
   have hB2 := bstep hB1 hb2
   have hs2 := hb2.size
   clear p0 p1 p2 p3 p4 g0 g1 g2 g3 g4 gl
   replace hk1 := hk1.keep hb2
   replace hk3 := hk3.keep hb2
   replace hk4 := hk4.keep hb2
   replace hxE := hxE.keep hb2
   replace hyE := hyE.keep hb2
   obtain ⟨gT, cuT, rfl, hgT, _⟩ := made_blk hC.t ht0
   have e0 : World.cell? w2 ⟨(w.heap.size + 2), 0, none⟩ = some (.int .u8 2) := hk3.cell 0
   have ef0 := hk3.frozen 0
   have e1 : World.cell? w2 ⟨(w.heap.size + 2), 1, none⟩ = some (.int .i64 (U : Int)) := hk3.cell 1
   have ef1 := hk3.frozen 1
   have e2 : World.cell? w2 ⟨(w.heap.size + 2), 2, none⟩ = some (.int .i64 0) := hk3.cell 2
   have ef2 := hk3.frozen 2
   have efl := hk3.lt
   have q0 : World.cell? w2 ⟨(w.heap.size + 3), 0, none⟩ = some (.slice none 0 0) := hk4.cell 0
   have f0 := hk4.frozen 0
   have q1 : World.cell? w2 ⟨(w.heap.size + 3), 1, none⟩ = some (.slice none 0 0) := hk4.cell 1
   have f1 := hk4.frozen 1
   have q2 : World.cell? w2 ⟨(w.heap.size + 3), 2, none⟩ = some (.slice none 0 0) := hk4.cell 2
   have f2 := hk4.frozen 2
   have q3 : World.cell? w2 ⟨(w.heap.size + 3), 3, none⟩ = some (.slice none 0 0) := hk4.cell 3
   have f3 := hk4.frozen 3
   have q4 : World.cell? w2 ⟨(w.heap.size + 3), 4, none⟩ = some (.slice none 0 0) := hk4.cell 4
   have f4 := hk4.frozen 4
   have fl := hk4.lt
   obtain ⟨gD, cuD, rfl, hgD, hkD, _⟩ := made_blk hC.d (by simp only; omega)
   obtain ⟨n1, n2, n3, n4⟩ := made_cell (ev := fun x => Value.bool x) (fun _ => rfl) hC.d hAd
   have nDT : gT ≠ gD := made_type hC.t ht0 hkD (by decide)
   have t5 : ¬ gT = gD := nDT
   have t6 : ¬ gD = gT := fun e => nDT e.symm
   simp only [HD.out] at n1
   obtain ⟨m1, m2, m3, m4⟩ := made_cell (ev := fun x => Value.int .i64 x) (fun _ => rfl) hC.t hU
   simp only [HT.out] at m1
   have t1 : ¬ gT = w.heap.size + 3 := by omega
   have t2 : ¬ gT = w2.heap.size := by omega
   have t3 : ¬ w.heap.size + 3 = gT := by omega
   have t4 : ¬ w2.heap.size = gT := by omega
   go_wp2
   refine bodyPost_ret (v := .tuple #[.agg #[.slice S2 a.s.length z1, .slice N2 a.n.length z2, .slice G2 a.g.length z3, .slice (some ⟨gD, 0, none⟩) d.length z4, .slice (some ⟨gT, 0, none⟩) t.length z5], .int .i64 0]) (by simp [results, Try.results50, go_sem, q0, q1, q2, q3, q4, f0, f1, f2, f3, f4, fl, t1, t2, t3, t4]) rfl ?_
   rw [HR.out, haD]
   have hC3 := hC.setT (k := U) hU (-1)
   have hfin := (work_fin (w := w) (x := 0) (c1 := z1) (c2 := z2) (c3 := z3) (c4 := z4) (c5 := z5) hC3.rw_ (hk4.far (p := ⟨gT, U, none⟩) t3 _) (hB2.setCell (p := ⟨gT, U, none⟩) (by simp only; omega) _) (by omega)).alloc (.cells #[.slice S2 a.s.length z1, .slice N2 a.n.length z2, .slice G2 a.g.length z3, .slice (some ⟨gD, 0, none⟩) d.length z4, .slice (some ⟨gT, 0, none⟩) t.length z5] 42)
   simp only [List.length_set] at hfin
   exact hfin
  ·clear hD2
   go_enter Try.func50, Try.ntmps50
   go_wp2_with fail
   rw [← hwE]
   clear hwE
   have p0 : World.cell? wE ⟨(w.heap.size + 1), 0, none⟩ = some (.slice S1 a.s.length c1) := hk2.cell 0
   have g0 := hk2.frozen 0
   have p1 : World.cell? wE ⟨(w.heap.size + 1), 1, none⟩ = some (.slice N1 a.n.length c2) := hk2.cell 1
   have g1 := hk2.frozen 1
   have p2 : World.cell? wE ⟨(w.heap.size + 1), 2, none⟩ = some (.slice G1 a.g.length c3) := hk2.cell 2
   have g2 := hk2.frozen 2
   have p3 : World.cell? wE ⟨(w.heap.size + 1), 3, none⟩ = some (.slice D d.length c4) := hk2.cell 3
   have g3 := hk2.frozen 3
   have p4 : World.cell? wE ⟨(w.heap.size + 1), 4, none⟩ = some (.slice T t.length c5) := hk2.cell 4
   have g4 := hk2.frozen 4
   have gl := hk2.lt
   have e0 : World.cell? wE ⟨(w.heap.size + 2), 0, none⟩ = some (.int .u8 3) := hk3.cell 0
   have ef0 := hk3.frozen 0
   have e1 : World.cell? wE ⟨(w.heap.size + 2), 1, none⟩ = some (.int .i64 (U : Int)) := hk3.cell 1
   have ef1 := hk3.frozen 1
   have e2 : World.cell? wE ⟨(w.heap.size + 2), 2, none⟩ = some (.int .i64 0) := hk3.cell 2
   have ef2 := hk3.frozen 2
   have efl := hk3.lt
   go_wp2_with fail
   refine (HEV.out _).mono ?_
   rintro _ w1 ⟨rfl, hb1⟩
   have hB1 := bstep hbE hb1
   have hs1 := hb1.size
   clear p0 p1 p2 p3 p4 g0 g1 g2 g3 g4 gl
   clear e0 e1 e2 ef0 ef1 ef2 efl
   replace hk1 := hk1.keep hb1
   replace hk2 := hk2.keep hb1
   replace hk3 := hk3.keep hb1
   replace hk4 := hk4.keep hb1
   replace hxE := hxE.keep hb1
   replace hyE := hyE.keep hb1
   replace hrE := hrE.keep hb1
   have p0 : World.cell? w1 ⟨(w.heap.size + 1), 0, none⟩ = some (.slice S1 a.s.length c1) := hk2.cell 0
   have g0 := hk2.frozen 0
   have p1 : World.cell? w1 ⟨(w.heap.size + 1), 1, none⟩ = some (.slice N1 a.n.length c2) := hk2.cell 1
   have g1 := hk2.frozen 1
   have p2 : World.cell? w1 ⟨(w.heap.size + 1), 2, none⟩ = some (.slice G1 a.g.length c3) := hk2.cell 2
   have g2 := hk2.frozen 2
   have p3 : World.cell? w1 ⟨(w.heap.size + 1), 3, none⟩ = some (.slice D d.length c4) := hk2.cell 3
   have g3 := hk2.frozen 3
   have p4 : World.cell? w1 ⟨(w.heap.size + 1), 4, none⟩ = some (.slice T t.length c5) := hk2.cell 4
   have g4 := hk2.frozen 4
   have gl := hk2.lt
   go_wp2_with fail
   refine (HCP.out _ hrE).mono ?_
   rintro _ w2 ⟨S2, N2, G2, D2, T2, z1, z2, z3, z4, z5, rfl, hC, hb2⟩
   have hB2 := bstep hB1 hb2
   have hs2 := hb2.size
   clear p0 p1 p2 p3 p4 g0 g1 g2 g3 g4 gl
   replace hk1 := hk1.keep hb2
   replace hk3 := hk3.keep hb2
   replace hk4 := hk4.keep hb2
   replace hxE := hxE.keep hb2
   replace hyE := hyE.keep hb2
   obtain ⟨gT, cuT, rfl, hgT, _⟩ := made_blk hC.t ht0
   have e0 : World.cell? w2 ⟨(w.heap.size + 2), 0, none⟩ = some (.int .u8 3) := hk3.cell 0
   have ef0 := hk3.frozen 0
   have e1 : World.cell? w2 ⟨(w.heap.size + 2), 1, none⟩ = some (.int .i64 (U : Int)) := hk3.cell 1
   have ef1 := hk3.frozen 1
   have e2 : World.cell? w2 ⟨(w.heap.size + 2), 2, none⟩ = some (.int .i64 0) := hk3.cell 2
   have ef2 := hk3.frozen 2
   have efl := hk3.lt
   have q0 : World.cell? w2 ⟨(w.heap.size + 3), 0, none⟩ = some (.slice none 0 0) := hk4.cell 0
   have f0 := hk4.frozen 0
   have q1 : World.cell? w2 ⟨(w.heap.size + 3), 1, none⟩ = some (.slice none 0 0) := hk4.cell 1
   have f1 := hk4.frozen 1
   have q2 : World.cell? w2 ⟨(w.heap.size + 3), 2, none⟩ = some (.slice none 0 0) := hk4.cell 2
   have f2 := hk4.frozen 2
   have q3 : World.cell? w2 ⟨(w.heap.size + 3), 3, none⟩ = some (.slice none 0 0) := hk4.cell 3
   have f3 := hk4.frozen 3
   have q4 : World.cell? w2 ⟨(w.heap.size + 3), 4, none⟩ = some (.slice none 0 0) := hk4.cell 4
   have f4 := hk4.frozen 4
   have fl := hk4.lt
   obtain ⟨m1, m2, m3, m4⟩ := made_cell (ev := fun x => Value.int .i64 x) (fun _ => rfl) hC.t hU
   simp only [HT.out] at m1
   have t1 : ¬ gT = w.heap.size + 3 := by omega
   have t2 : ¬ gT = w2.heap.size := by omega
   have t3 : ¬ w.heap.size + 3 = gT := by omega
   have t4 : ¬ w2.heap.size = gT := by omega
   go_wp2
   refine bodyPost_ret (v := .tuple #[.agg #[.slice S2 a.s.length z1, .slice N2 a.n.length z2, .slice G2 a.g.length z3, .slice D2 d.length z4, .slice (some ⟨gT, 0, none⟩) t.length z5], .int .i64 0]) (by simp [results, Try.results50, go_sem, q0, q1, q2, q3, q4, f0, f1, f2, f3, f4, fl, t1, t2, t3, t4]) rfl ?_
   rw [HR.out, haD]
   have hC3 := hC.setT (k := U) hU (-1)
   have hfin := (work_fin (w := w) (x := 0) (c1 := z1) (c2 := z2) (c3 := z3) (c4 := z4) (c5 := z5) hC3.rw_ (hk4.far (p := ⟨gT, U, none⟩) t3 _) (hB2.setCell (p := ⟨gT, U, none⟩) (by simp only; omega) _) (by omega)).alloc (.cells #[.slice S2 a.s.length z1, .slice N2 a.n.length z2, .slice G2 a.g.length z3, .slice D2 d.length z4, .slice (some ⟨gT, 0, none⟩) t.length z5] 42)
   simp only [List.length_set] at hfin
   exact hfin
end Wk
end Go.Proofs.Ytdekbncpodjgnaa
