/-
  Parts of the proof of WorkerNames: WkY.
-/
import Derived.Test.YtdekbncpodjgnaaT19
import Derived.Test.YtdekbncpodjgnaaT20
namespace Go.Proofs.Ytdekbncpodjgnaa
open Go.RowKit Runs Lagc Reg
set_option linter.unusedVariables false
set_option linter.unusedSimpArgs false
namespace Wk
open Lagw
set_option maxRecDepth 20000 in
set_option maxHeartbeats 1000000 in
theorem step_any {xs ys : List Int} {M S : Nat} (hj : Job xs ys M S) (X Y S1 N1 G1 D T : Option Addr) (cx cy c1 c2 c3 c4 c5 : Nat) (d : List Bool) (t : List Int) (k u b : Int) (w : World) (hx : RI .i64 w X xs) (hy : RI .i64 w Y ys) (hcx : xs.length ≤ cx) (hG : Good19 (cdiv xs.length S) d t) (hr : RW w S1 N1 G1 D T ⟨sumA xs ys M S d, d, t⟩) :
 Calls Try.prog 50 #[.agg #[.slice X xs.length cx, .slice Y ys.length cy, .int .i64 (M : Int), .int .i64 (S : Int)], .agg #[.slice S1 (sumA xs ys M S d).s.length c1, .slice N1 (sumA xs ys M S d).n.length c2, .slice G1 (sumA xs ys M S d).g.length c3, .slice D d.length c4, .slice T t.length c5], .agg #[.int .u8 k, .int .i64 u, .int .i64 b]] w (RetW w (stW xs ys M S (stepS d t ⟨k, u, b⟩))) := by
 by_cases k1 : k = 1
 ·subst k1
  exact step_take_any hj X Y S1 N1 G1 D T cx cy c1 c2 c3 c4 c5 d t u b w hx hy hcx hG hr
 by_cases k2 : k = 2 ∨ k = 3
 ·exact step_done_any hj X Y S1 N1 G1 D T cx cy c1 c2 c3 c4 c5 d t k u b k2 w hx hy hcx hG hr
 by_cases k4 : k = 4
 ·subst k4
  exact step_restart_any hj X Y S1 N1 G1 D T cx cy c1 c2 c3 c4 c5 d t u b w hx hy hcx hG hr
 have hfA := (sumA_is hj hG.d).fine
 have hOK := Lib.hid (fun d2 t2 (h : stepS d t ⟨k, u, b⟩ = ((d2, t2), 0)) => stW_ok (xs := xs) (ys := ys) (M := M) (S := S) h)
 have hNO := Lib.hid (fun x (h : stepS d t ⟨k, u, b⟩ = (([], []), x)) (hx : x ≠ 0) => stW_no (xs := xs) (ys := ys) (M := M) (S := S) h hx)
 generalize stW xs ys M S (stepS d t ⟨k, u, b⟩) = RES at *
 generalize hGS : sumA xs ys M S = SM at *
 generalize haD : SM d = a at *
 obtain ⟨wE, hwE⟩ : ∃ wE, wE = (((w.alloc (.cells #[.slice X xs.length cx, .slice Y ys.length cy, .int .i64 (M : Int), .int .i64 (S : Int)] 24)).alloc (.cells #[.slice S1 a.s.length c1, .slice N1 a.n.length c2, .slice G1 a.g.length c3, .slice D d.length c4, .slice T t.length c5] 42)).alloc (.cells #[.int .u8 k, .int .i64 u, .int .i64 b] 54)).alloc (.cells #[.slice .none 0 0, .slice .none 0 0, .slice .none 0 0, .slice .none 0 0, .slice .none 0 0] 42) := ⟨_, rfl⟩
 have hk1 : Blk wE w.heap.size 24 #[.slice X xs.length cx, .slice Y ys.length cy, .int .i64 (M : Int), .int .i64 (S : Int)] := by rw [hwE]; exact (((Blk.new _ _ _).alloc _).alloc _).alloc _
 have hk2 : Blk wE (w.heap.size + 1) 42 #[.slice S1 a.s.length c1, .slice N1 a.n.length c2, .slice G1 a.g.length c3, .slice D d.length c4, .slice T t.length c5] := by rw [hwE]; exact ((Blk.newAt _ _ (by simp)).alloc _).alloc _
 have hk3 : Blk wE (w.heap.size + 2) 54 #[.int .u8 k, .int .i64 u, .int .i64 b] := by rw [hwE]; exact (Blk.newAt _ _ (by simp)).alloc _
 have hk4 : Blk wE (w.heap.size + 3) 42 #[.slice .none 0 0, .slice .none 0 0, .slice .none 0 0, .slice .none 0 0, .slice .none 0 0] := by rw [hwE]; exact Blk.newAt _ _ (by simp)
 have hbE : Below w.heap.size w wE := by rw [hwE]; exact balloc (balloc (balloc (balloc (Below.refl _ _) _) _) _) _
 have hsE : wE.heap.size = w.heap.size + 4 := by rw [hwE]; simp
 have hxE := hx.keep hbE
 have hyE := hy.keep hbE
 have hrE := hr.keep hbE
 have ht0 : 0 < t.length := hG.t0
 have ht6 := hG.t6
 have hdC := hG.d
 have hc64 := hj.c
 have HEV := Lib.hid (fun w => isEvent_any S1 N1 G1 D T a.s.length a.n.length a.g.length d.length t.length c1 c2 c3 c4 c5 k u b w)
 have HCP := Lib.hid (fun w hx => copyWork_any S1 N1 G1 D T c1 c2 c3 c4 c5 ⟨a, d, t⟩ w hx (by have := hfA.ls; simp only; omega) (by have := hfA.ls; have := hfA.ln; simp only; omega) (by have := hfA.lg; simp only; omega) (by simp only; omega) (by simp only; omega))
 clear hr hfA hc64 hdC
 cases hev : isEvB d.length t.length k u b
 ·have HR := Lib.hid (hNO.out 2 (step_ev hev) (by decide))
  rw [hev] at HEV
  clear hev hNO hOK k1 k2 k4
  go_enter Try.func50, Try.ntmps50
  go_wp2_with fail
  rw [← hwE]
  clear hwE
  have p0 : World.cell? wE ⟨(w.heap.size + 1), 0, none⟩ = some (.slice S1 a.s.length c1) := hk2.cell 0
  have g0 := hk2.frozen 0
  have p1 : World.cell? wE ⟨(w.heap.size + 1), 1, none⟩ = some (.slice N1 a.n.length c2) := hk2.cell 1
  have g1 := hk2.frozen 1
  have p2 : World.cell? wE ⟨(w.heap.size + 1), 2, none⟩ = some (.slice G1 a.g.length c3) := hk2.cell 2
  have g2 := hk2.frozen 2
  have p3 : World.cell? wE ⟨(w.heap.size + 1), 3, none⟩ = some (.slice D d.length c4) := hk2.cell 3
  have g3 := hk2.frozen 3
  have p4 : World.cell? wE ⟨(w.heap.size + 1), 4, none⟩ = some (.slice T t.length c5) := hk2.cell 4
  have g4 := hk2.frozen 4
  have gl := hk2.lt
  have e0 : World.cell? wE ⟨(w.heap.size + 2), 0, none⟩ = some (.int .u8 k) := hk3.cell 0
  have ef0 := hk3.frozen 0
  have e1 : World.cell? wE ⟨(w.heap.size + 2), 1, none⟩ = some (.int .i64 u) := hk3.cell 1
  have ef1 := hk3.frozen 1
  have e2 : World.cell? wE ⟨(w.heap.size + 2), 2, none⟩ = some (.int .i64 b) := hk3.cell 2
  have ef2 := hk3.frozen 2
  have efl := hk3.lt
  go_wp2_with fail
  refine (HEV.out _).mono ?_
  rintro _ w1 ⟨rfl, hb1⟩
  have hB1 := bstep hbE hb1
  have hs1 := hb1.size
  clear p0 p1 p2 p3 p4 g0 g1 g2 g3 g4 gl
  clear e0 e1 e2 ef0 ef1 ef2 efl
  replace hk1 := hk1.keep hb1
  replace hk2 := hk2.keep hb1
  replace hk3 := hk3.keep hb1
  replace hk4 := hk4.keep hb1
  replace hxE := hxE.keep hb1
  replace hyE := hyE.keep hb1
  replace hrE := hrE.keep hb1
  have q0 : World.cell? w1 ⟨(w.heap.size + 3), 0, none⟩ = some (.slice none 0 0) := hk4.cell 0
  have f0 := hk4.frozen 0
  have q1 : World.cell? w1 ⟨(w.heap.size + 3), 1, none⟩ = some (.slice none 0 0) := hk4.cell 1
  have f1 := hk4.frozen 1
  have q2 : World.cell? w1 ⟨(w.heap.size + 3), 2, none⟩ = some (.slice none 0 0) := hk4.cell 2
  have f2 := hk4.frozen 2
  have q3 : World.cell? w1 ⟨(w.heap.size + 3), 3, none⟩ = some (.slice none 0 0) := hk4.cell 3
  have f3 := hk4.frozen 3
  have q4 : World.cell? w1 ⟨(w.heap.size + 3), 4, none⟩ = some (.slice none 0 0) := hk4.cell 4
  have f4 := hk4.frozen 4
  have fl := hk4.lt
  go_wp2
  exact bodyPost_ret (v := .tuple #[.agg #[.slice none 0 0, .slice none 0 0, .slice none 0 0, .slice none 0 0, .slice none 0 0], .int .i64 2]) (by simp [results, Try.results50, go_sem, q0, q1, q2, q3, q4, f0, f1, f2, f3, f4, fl]) rfl (none_fin HR.out (by first | exact hB1 | exact balloc hB2 _) (by omega) _ _ _ _ _)
 ·exfalso
  have := ev_kind hev
  omega
noncomputable def applyS (xs ys : List Int) (m s : Int) (r : Work) (e : Ev) : Work × Int :=
 if stateErr xs ys m s r ≠ 0 then (.none, stateErr xs ys m s r) else stW xs ys m.toNat s.toNat (stepS r.d r.t e)
theorem stateErr_zero {xs ys : List Int} {m s : Int} {r : Work} (h : stateErr xs ys m s r = 0) : ∃ M S : Nat, m = M ∧ s = S ∧ Job xs ys M S ∧ Good19 (cdiv xs.length S) r.d r.t ∧ r.a = sumA xs ys M S r.d := by
 by_cases he : jobErr xs ys m s = 0
 ·obtain ⟨_, _, M, S, rfl, rfl, _⟩ := jobErr_zero he
  cases hb : stateB xs ys M S r
  ·rw [stateErr_no he hb] at h; cases h
  ·unfold stateB at hb
   simp only [Bool.and_eq_true, decide_eq_true_eq] at hb
   obtain ⟨⟨⟨h1, h2, h3⟩, h4⟩, h5⟩ := hb
   refine ⟨M, S, rfl, rfl, Job.of he, ⟨h1, h2, h3, fun x hx => ?_⟩, sameB_iff.1 h5⟩
   have := List.all_eq_true.1 h4 x hx
   rwa [decide_eq_true_eq] at this
 ·rw [stateErr_job he] at h
  exact absurd h he
set_option maxRecDepth 20000 in
set_option maxHeartbeats 2000000 in
theorem apply_any (X Y S1 N1 G1 D T : Option Addr) (cx cy c1 c2 c3 c4 c5 : Nat) (xs ys : List Int) (m s : Int) (r : Work) (k u b : Int) (w : World) (hx : RI .i64 w X xs) (hy : RI .i64 w Y ys) (hcx : xs.length ≤ cx) (hl : xs.length ≤ 1000000) (hl2 : ys.length ≤ 1000000) (hr : RW w S1 N1 G1 D T r) (l1 : r.a.s.length ≤ 1000000) (l2 : r.a.n.length ≤ 1000000) (l3 : r.a.g.length ≤ 1000000) (l4 : r.d.length ≤ 1000000) (l5 : r.t.length ≤ 1000000) :
 Calls Try.prog 22 #[.agg #[.slice X xs.length cx, .slice Y ys.length cy, .int .i64 m, .int .i64 s], .agg #[.slice S1 r.a.s.length c1, .slice N1 r.a.n.length c2, .slice G1 r.a.g.length c3, .slice D r.d.length c4, .slice T r.t.length c5], .agg #[.int .u8 k, .int .i64 u, .int .i64 b]] w (RetW w (applyS xs ys m s r ⟨k, u, b⟩)) := by
 obtain ⟨wE, hwE⟩ : ∃ wE, wE = (((w.alloc (.cells #[.slice X xs.length cx, .slice Y ys.length cy, .int .i64 m, .int .i64 s] 24)).alloc (.cells #[.slice S1 r.a.s.length c1, .slice N1 r.a.n.length c2, .slice G1 r.a.g.length c3, .slice D r.d.length c4, .slice T r.t.length c5] 42)).alloc (.cells #[.int .u8 k, .int .i64 u, .int .i64 b] 54)).alloc (.cells #[.slice .none 0 0, .slice .none 0 0, .slice .none 0 0, .slice .none 0 0, .slice .none 0 0] 42) := ⟨_, rfl⟩
 have hk1 : Blk wE w.heap.size 24 #[.slice X xs.length cx, .slice Y ys.length cy, .int .i64 m, .int .i64 s] := by rw [hwE]; exact (((Blk.new _ _ _).alloc _).alloc _).alloc _
 have hk2 : Blk wE (w.heap.size + 1) 42 #[.slice S1 r.a.s.length c1, .slice N1 r.a.n.length c2, .slice G1 r.a.g.length c3, .slice D r.d.length c4, .slice T r.t.length c5] := by rw [hwE]; exact ((Blk.newAt _ _ (by simp)).alloc _).alloc _
 have hk3 : Blk wE (w.heap.size + 2) 54 #[.int .u8 k, .int .i64 u, .int .i64 b] := by rw [hwE]; exact (Blk.newAt _ _ (by simp)).alloc _
 have hk4 : Blk wE (w.heap.size + 3) 42 #[.slice .none 0 0, .slice .none 0 0, .slice .none 0 0, .slice .none 0 0, .slice .none 0 0] := by rw [hwE]; exact Blk.newAt _ _ (by simp)
 have hbE : Below w.heap.size w wE := by rw [hwE]; exact balloc (balloc (balloc (balloc (Below.refl _ _) _) _) _) _
 have hsE : wE.heap.size = w.heap.size + 4 := by rw [hwE]; simp
 have hxE := hx.keep hbE
 have hyE := hy.keep hbE
 have hrE := hr.keep hbE
 have HK := Lib.hid (fun w hx hy hr => checkState_any X Y S1 N1 G1 D T cx cy c1 c2 c3 c4 c5 xs ys m s r w hx hy hcx hl hl2 hr l1 l2 l3 l4 l5)
 by_cases he : stateErr xs ys m s r = 0
 ·obtain ⟨M, S, rfl, rfl, hj, hG, ha⟩ := stateErr_zero he
  have HR : Hid (applyS xs ys M S r ⟨k, u, b⟩ = stW xs ys M S (stepS r.d r.t ⟨k, u, b⟩)) := Lib.hid (by unfold applyS; rw [if_neg (by simp [he])]; simp)
  rw [he] at HK
  obtain ⟨ra, rd, rt⟩ := r
  simp only at ha hG HR HK hr hrE l1 l2 l3 l4 l5 hk2
  subst ha
  have HS := Lib.hid (fun w hx hy hr => step_any hj X Y S1 N1 G1 D T cx cy c1 c2 c3 c4 c5 rd rt k u b w hx hy hcx hG hr)
  generalize stW xs ys M S (stepS rd rt ⟨k, u, b⟩) = RES at *
  obtain ⟨R, re⟩ := RES
  clear he hG
  generalize hGS : sumA xs ys M S rd = a at *
  go_enter Try.func22, Try.ntmps22
  go_wp2_with fail
  rw [← hwE]
  clear hwE
  have p0 : World.cell? wE ⟨(w.heap.size + 1), 0, none⟩ = some (.slice S1 a.s.length c1) := hk2.cell 0
  have g0 := hk2.frozen 0
  have p1 : World.cell? wE ⟨(w.heap.size + 1), 1, none⟩ = some (.slice N1 a.n.length c2) := hk2.cell 1
  have g1 := hk2.frozen 1
  have p2 : World.cell? wE ⟨(w.heap.size + 1), 2, none⟩ = some (.slice G1 a.g.length c3) := hk2.cell 2
  have g2 := hk2.frozen 2
  have p3 : World.cell? wE ⟨(w.heap.size + 1), 3, none⟩ = some (.slice D rd.length c4) := hk2.cell 3
  have g3 := hk2.frozen 3
  have p4 : World.cell? wE ⟨(w.heap.size + 1), 4, none⟩ = some (.slice T rt.length c5) := hk2.cell 4
  have g4 := hk2.frozen 4
  have gl := hk2.lt
  have j0 : World.cell? wE ⟨w.heap.size, 0, none⟩ = some (.slice X xs.length cx) := hk1.cell 0
  have jf0 := hk1.frozen 0
  have j1 : World.cell? wE ⟨w.heap.size, 1, none⟩ = some (.slice Y ys.length cy) := hk1.cell 1
  have jf1 := hk1.frozen 1
  have j2 : World.cell? wE ⟨w.heap.size, 2, none⟩ = some (.int .i64 (M : Int)) := hk1.cell 2
  have jf2 := hk1.frozen 2
  have j3 : World.cell? wE ⟨w.heap.size, 3, none⟩ = some (.int .i64 (S : Int)) := hk1.cell 3
  have jf3 := hk1.frozen 3
  have jfl := hk1.lt
  go_wp2_with fail
  refine (HK.out _ hxE hyE hrE).mono ?_
  rintro _ w1 ⟨rfl, hb1⟩
  have hB1 := bstep hbE hb1
  have hs1 := hb1.size
  clear p0 p1 p2 p3 p4 g0 g1 g2 g3 g4 gl
  clear j0 j1 j2 j3 jf0 jf1 jf2 jf3 jfl
  replace hk1 := hk1.keep hb1
  replace hk2 := hk2.keep hb1
  replace hk3 := hk3.keep hb1
  replace hk4 := hk4.keep hb1
  replace hxE := hxE.keep hb1
  replace hyE := hyE.keep hb1
  replace hrE := hrE.keep hb1
  have p0 : World.cell? w1 ⟨(w.heap.size + 1), 0, none⟩ = some (.slice S1 a.s.length c1) := hk2.cell 0
  have g0 := hk2.frozen 0
  have p1 : World.cell? w1 ⟨(w.heap.size + 1), 1, none⟩ = some (.slice N1 a.n.length c2) := hk2.cell 1
  have g1 := hk2.frozen 1
  have p2 : World.cell? w1 ⟨(w.heap.size + 1), 2, none⟩ = some (.slice G1 a.g.length c3) := hk2.cell 2
  have g2 := hk2.frozen 2
  have p3 : World.cell? w1 ⟨(w.heap.size + 1), 3, none⟩ = some (.slice D rd.length c4) := hk2.cell 3
  have g3 := hk2.frozen 3
  have p4 : World.cell? w1 ⟨(w.heap.size + 1), 4, none⟩ = some (.slice T rt.length c5) := hk2.cell 4
  have g4 := hk2.frozen 4
  have gl := hk2.lt
  have j0 : World.cell? w1 ⟨w.heap.size, 0, none⟩ = some (.slice X xs.length cx) := hk1.cell 0
  have jf0 := hk1.frozen 0
  have j1 : World.cell? w1 ⟨w.heap.size, 1, none⟩ = some (.slice Y ys.length cy) := hk1.cell 1
  have jf1 := hk1.frozen 1
  have j2 : World.cell? w1 ⟨w.heap.size, 2, none⟩ = some (.int .i64 (M : Int)) := hk1.cell 2
  have jf2 := hk1.frozen 2
  have j3 : World.cell? w1 ⟨w.heap.size, 3, none⟩ = some (.int .i64 (S : Int)) := hk1.cell 3
  have jf3 := hk1.frozen 3
  have jfl := hk1.lt
  have e0 : World.cell? w1 ⟨(w.heap.size + 2), 0, none⟩ = some (.int .u8 k) := hk3.cell 0
  have ef0 := hk3.frozen 0
  have e1 : World.cell? w1 ⟨(w.heap.size + 2), 1, none⟩ = some (.int .i64 u) := hk3.cell 1
  have ef1 := hk3.frozen 1
  have e2 : World.cell? w1 ⟨(w.heap.size + 2), 2, none⟩ = some (.int .i64 b) := hk3.cell 2
  have ef2 := hk3.frozen 2
  have efl := hk3.lt
  go_wp2_with fail
  refine (HS.out _ hxE hyE hrE).mono ?_
  rintro _ w2 ⟨S2, N2, G2, D2, T2, z1, z2, z3, z4, z5, rfl, rv, hb2⟩
  clear p0 p1 p2 p3 p4 g0 g1 g2 g3 g4 gl
  clear j0 j1 j2 j3 jf0 jf1 jf2 jf3 jfl
  clear e0 e1 e2 ef0 ef1 ef2 efl
  have hB2 := bstep hB1 hb2
  replace hk4 := hk4.keep hb2
  have q0 : World.cell? w2 ⟨(w.heap.size + 3), 0, none⟩ = some (.slice none 0 0) := hk4.cell 0
  have f0 := hk4.frozen 0
  have q1 : World.cell? w2 ⟨(w.heap.size + 3), 1, none⟩ = some (.slice none 0 0) := hk4.cell 1
  have f1 := hk4.frozen 1
  have q2 : World.cell? w2 ⟨(w.heap.size + 3), 2, none⟩ = some (.slice none 0 0) := hk4.cell 2
  have f2 := hk4.frozen 2
  have q3 : World.cell? w2 ⟨(w.heap.size + 3), 3, none⟩ = some (.slice none 0 0) := hk4.cell 3
  have f3 := hk4.frozen 3
  have q4 : World.cell? w2 ⟨(w.heap.size + 3), 4, none⟩ = some (.slice none 0 0) := hk4.cell 4
  have f4 := hk4.frozen 4
  have fl := hk4.lt
  go_wp2
  refine bodyPost_ret (v := .tuple #[.agg #[.slice S2 R.a.s.length z1, .slice N2 R.a.n.length z2, .slice G2 R.a.g.length z3, .slice D2 R.d.length z4, .slice T2 R.t.length z5], .int .i64 re]) (by simp [results, Try.results22, go_sem, q0, q1, q2, q3, q4, f0, f1, f2, f3, f4, fl]) rfl ?_
  rw [HR.out]
  exact work_fin rv hk4 hB2 (by omega)
 ·have e1 : (stateErr xs ys m s r != 0) = true := by simp [he]
  have HR : Hid (applyS xs ys m s r ⟨k, u, b⟩ = (.none, stateErr xs ys m s r)) := Lib.hid (by unfold applyS; rw [if_pos he])
  clear he
  generalize stateErr xs ys m s r = E at *
  go_enter Try.func22, Try.ntmps22
  go_wp2_with fail
  rw [← hwE]
  clear hwE
  have p0 : World.cell? wE ⟨(w.heap.size + 1), 0, none⟩ = some (.slice S1 r.a.s.length c1) := hk2.cell 0
  have g0 := hk2.frozen 0
  have p1 : World.cell? wE ⟨(w.heap.size + 1), 1, none⟩ = some (.slice N1 r.a.n.length c2) := hk2.cell 1
  have g1 := hk2.frozen 1
  have p2 : World.cell? wE ⟨(w.heap.size + 1), 2, none⟩ = some (.slice G1 r.a.g.length c3) := hk2.cell 2
  have g2 := hk2.frozen 2
  have p3 : World.cell? wE ⟨(w.heap.size + 1), 3, none⟩ = some (.slice D r.d.length c4) := hk2.cell 3
  have g3 := hk2.frozen 3
  have p4 : World.cell? wE ⟨(w.heap.size + 1), 4, none⟩ = some (.slice T r.t.length c5) := hk2.cell 4
  have g4 := hk2.frozen 4
  have gl := hk2.lt
  have j0 : World.cell? wE ⟨w.heap.size, 0, none⟩ = some (.slice X xs.length cx) := hk1.cell 0
  have jf0 := hk1.frozen 0
  have j1 : World.cell? wE ⟨w.heap.size, 1, none⟩ = some (.slice Y ys.length cy) := hk1.cell 1
  have jf1 := hk1.frozen 1
  have j2 : World.cell? wE ⟨w.heap.size, 2, none⟩ = some (.int .i64 m) := hk1.cell 2
  have jf2 := hk1.frozen 2
  have j3 : World.cell? wE ⟨w.heap.size, 3, none⟩ = some (.int .i64 s) := hk1.cell 3
  have jf3 := hk1.frozen 3
  have jfl := hk1.lt
  go_wp2_with fail
  refine (HK.out _ hxE hyE hrE).mono ?_
  rintro _ w1 ⟨rfl, hb1⟩
  have hB1 := bstep hbE hb1
  have hs1 := hb1.size
  clear p0 p1 p2 p3 p4 g0 g1 g2 g3 g4 gl
  clear j0 j1 j2 j3 jf0 jf1 jf2 jf3 jfl
  replace hk1 := hk1.keep hb1
  replace hk2 := hk2.keep hb1
  replace hk3 := hk3.keep hb1
  replace hk4 := hk4.keep hb1
  replace hxE := hxE.keep hb1
  replace hyE := hyE.keep hb1
  replace hrE := hrE.keep hb1
  have q0 : World.cell? w1 ⟨(w.heap.size + 3), 0, none⟩ = some (.slice none 0 0) := hk4.cell 0
  have f0 := hk4.frozen 0
  have q1 : World.cell? w1 ⟨(w.heap.size + 3), 1, none⟩ = some (.slice none 0 0) := hk4.cell 1
  have f1 := hk4.frozen 1
  have q2 : World.cell? w1 ⟨(w.heap.size + 3), 2, none⟩ = some (.slice none 0 0) := hk4.cell 2
  have f2 := hk4.frozen 2
  have q3 : World.cell? w1 ⟨(w.heap.size + 3), 3, none⟩ = some (.slice none 0 0) := hk4.cell 3
  have f3 := hk4.frozen 3
  have q4 : World.cell? w1 ⟨(w.heap.size + 3), 4, none⟩ = some (.slice none 0 0) := hk4.cell 4
  have f4 := hk4.frozen 4
  have fl := hk4.lt
  go_wp2
  exact bodyPost_ret (v := .tuple #[.agg #[.slice none 0 0, .slice none 0 0, .slice none 0 0, .slice none 0 0, .slice none 0 0], .int .i64 E]) (by simp [results, Try.results22, go_sem, q0, q1, q2, q3, q4, f0, f1, f2, f3, f4, fl]) rfl (none_fin HR.out hB1 (by omega) _ _ _ _ _)
end Wk
end Go.Proofs.Ytdekbncpodjgnaa
