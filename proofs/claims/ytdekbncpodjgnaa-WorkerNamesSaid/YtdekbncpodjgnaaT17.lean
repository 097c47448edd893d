/-
  Parts of the proof of WorkerNames: WkV.
-/
import Derived.Test.YtdekbncpodjgnaaT16
namespace Go.Proofs.Ytdekbncpodjgnaa
open Go.RowKit Runs Lagc Reg
set_option linter.unusedVariables false
set_option linter.unusedSimpArgs false
namespace Wk
open Lagw
set_option maxRecDepth 20000 in
set_option maxHeartbeats 4000000 in
theorem sumOf_any {xs ys : List Int} {M S : Nat} (hj : Job xs ys M S) (X Y D : Option Addr) (cx cy c4 : Nat) (d : List Bool) (w : World) (hx : RI .i64 w X xs) (hy : RI .i64 w Y ys) (hcx : xs.length ≤ cx) (hd : RBo w D d) (hC : d.length = cdiv xs.length S) :
 Calls Try.prog 61 #[.agg #[.slice X xs.length cx, .slice Y ys.length cy, .int .i64 (M : Int), .int .i64 (S : Int)], .slice D d.length c4] w (RetA w (sumA xs ys M S d, 0)) := by
 obtain ⟨wE, hwE⟩ : ∃ wE, wE = (w.alloc (.cells #[.slice X xs.length cx, .slice Y ys.length cy, .int .i64 (M : Int), .int .i64 (S : Int)] 24)).alloc (.cells #[.slice .none 0 0, .slice .none 0 0, .slice .none 0 0] 39) := ⟨_, rfl⟩
 have hk1 : Blk wE w.heap.size 24 #[.slice X xs.length cx, .slice Y ys.length cy, .int .i64 (M : Int), .int .i64 (S : Int)] := by rw [hwE]; exact (Blk.new _ _ _).alloc _
 have hk2 : Blk wE (w.heap.size + 1) 39 #[.slice .none 0 0, .slice .none 0 0, .slice .none 0 0] := by rw [hwE]; exact Blk.newAt _ _ (by simp)
 have hbE : Below w.heap.size w wE := by rw [hwE]; exact balloc (balloc (Below.refl _ _) _) _
 have hsE : wE.heap.size = w.heap.size + 2 := by rw [hwE]; simp
 have hlx := hj.lx
 have hc64 := hj.c
 have hM := hj.m
 have hd64 : d.length ≤ 64 := by omega
 have HN := Lib.hid (fun w => accNew_any (M : Int) w (by omega))
 rw [show newS (M : Int) = (sumA xs ys M S (maskD d 0), 0) by rw [maskD_zero, hC, ← sumA_new hj, newS_yes hM]] at HN
 have HNO := Lib.hid (fun k (h : d.getD k false = false) => (congrArg (sumA xs ys M S) (maskD_no h)))
 have HA := Lib.hid (fun k (hk : k < d.length) (h : d.getD k false = true) S1 N1 G1 c1 c2 c3 w hx hy ha => addBlock_any hj X Y S1 N1 G1 cx cy c1 c2 c3 k (sumA xs ys M S (maskD d k)) (sumA xs ys M S (maskD d (k + 1))) w hx hy hcx ha (sumA_is hj (by rw [maskD_len]; exact hC)).fine ((cdiv_lt hj.s).1 (by omega)) (sumA_mask hj hC hk h))
 have HE : Hid (sumA xs ys M S (maskD d d.length) = sumA xs ys M S d) := Lib.hid (by rw [maskD_full d (Nat.le_refl _)])
 have hxE := hx.keep hbE
 have hyE := hy.keep hbE
 have hdE := hd.keep hbE
 generalize hSm : (fun k => sumA xs ys M S (maskD d k)) = Sm at *
 have hSk : ∀ k, sumA xs ys M S (maskD d k) = Sm k := fun k => by rw [← hSm]
 simp only [hSk] at HN HNO HA HE
 generalize sumA xs ys M S d = SD at *
 clear hSk hSm hx hy hd hC
 go_enter Try.func61, Try.ntmps61
 go_wp2_with fail
 rw [← hwE]
 clear hwE
 have q0 : World.cell? wE ⟨w.heap.size, 0, none⟩ = some (.slice X xs.length cx) := hk1.cell 0
 have f0 := hk1.frozen 0
 have q1 : World.cell? wE ⟨w.heap.size, 1, none⟩ = some (.slice Y ys.length cy) := hk1.cell 1
 have f1 := hk1.frozen 1
 have q2 : World.cell? wE ⟨w.heap.size, 2, none⟩ = some (.int .i64 (M : Int)) := hk1.cell 2
 have f2 := hk1.frozen 2
 have q3 : World.cell? wE ⟨w.heap.size, 3, none⟩ = some (.int .i64 (S : Int)) := hk1.cell 3
 have f3 := hk1.frozen 3
 have fl := hk1.lt
 go_wp2_with fail
 refine (HN.out _).mono ?_
 rintro _ w1 ⟨S1, N1, G1, y1, y2, y3, rfl, ra1, fa1, hb1⟩
 clear q0 q1 q2 q3 f0 f1 f2 f3 fl
 have hB1 := bstep hbE hb1
 replace hk1 := hk1.keep hb1
 replace hk2 := hk2.keep hb1
 replace hxE := hxE.keep hb1
 replace hyE := hyE.keep hb1
 replace hdE := hdE.keep hb1
 have hl2 := hk2.lt
 have hsz1 := hb1.size
 go_wp2
 go_loopg [7, 22] d.length (fun gk e i wr => ∃ (k : Nat) (S6 N6 G6 : Option Addr) (x1 x2 x3 : Nat), k + gk = d.length ∧ e = .int .i64 0 ∧ i = .int .i64 k ∧ Blk wr w1.heap.size 39 #[.slice S6 (Sm k).s.length x1, .slice N6 (Sm k).n.length x2, .slice G6 (Sm k).g.length x3] ∧ RA wr S6 N6 G6 (Sm k) ∧ FA wE.heap.size S6 N6 G6 ∧ Below w1.heap.size w1 wr)
 case atStart => exact ⟨0, S1, N1, G1, y1, y2, y3, by omega, rfl, rfl, Blk.new _ _ _, ra1.keep (balloc (Below.refl _ _) _), fa1, balloc (Below.refl _ _) _⟩
 case round =>
  obtain ⟨k, S6, N6, G6, x1, x2, x3, hk, rfl, rfl, hkV, ra, fa, hb⟩ := hrel
  have hk' : k ≤ d.length := by omega
  have HK := Lib.hid hk
  clear hk
  have hkJ := hk1.keep hb
  have hkR := hk2.keep hb
  have hxr := hxE.keep hb
  have hyr := hyE.keep hb
  have hdr := hdE.keep hb
  have hBr := bstep hB1 hb
  by_cases hlt : k < d.length
  ·obtain ⟨bd, od, hDe, hdl, hdc⟩ := hdr (by omega)
   have hdk := hdc k hlt
   have HAk := Lib.hid (HA.out k hlt)
   have HNk := Lib.hid (HNO.out k)
   clear hdc hdr hdE
   subst hDe
   generalize d.getD k false = x at *
   cases x
   ·go_wp2
    go_roundg (gk - 1)
    case rel => exact ⟨k + 1, S6, N6, G6, x1, x2, x3, by have := HK.out; omega, by rfl, by go_num, by rw [HNk.out (by trivial)]; exact hkV, by rw [HNk.out (by trivial)]; exact ra, fa, hb⟩
    case measure => have := HK.out; omega
   ·have q0 : World.cell? wr ⟨w.heap.size, 0, none⟩ = some (.slice X xs.length cx) := hkJ.cell 0
    have f0 := hkJ.frozen 0
    have q1 : World.cell? wr ⟨w.heap.size, 1, none⟩ = some (.slice Y ys.length cy) := hkJ.cell 1
    have f1 := hkJ.frozen 1
    have q2 : World.cell? wr ⟨w.heap.size, 2, none⟩ = some (.int .i64 (M : Int)) := hkJ.cell 2
    have f2 := hkJ.frozen 2
    have q3 : World.cell? wr ⟨w.heap.size, 3, none⟩ = some (.int .i64 (S : Int)) := hkJ.cell 3
    have f3 := hkJ.frozen 3
    have fl := hkJ.lt
    have p0 : World.cell? wr ⟨w1.heap.size, 0, none⟩ = some (.slice S6 (Sm k).s.length x1) := hkV.cell 0
    have g0 := hkV.frozen 0
    have p1 : World.cell? wr ⟨w1.heap.size, 1, none⟩ = some (.slice N6 (Sm k).n.length x2) := hkV.cell 1
    have g1 := hkV.frozen 1
    have p2 : World.cell? wr ⟨w1.heap.size, 2, none⟩ = some (.slice G6 (Sm k).g.length x3) := hkV.cell 2
    have g2 := hkV.frozen 2
    have gl := hkV.lt
    go_wp2_with fail
    refine (HAk.out (by trivial) S6 N6 G6 x1 x2 x3 _ hxr hyr ra).mono ?_
    rintro _ w3 ⟨S7, N7, G7, z1, z2, z3, rfl, ra7, fa7, hb3⟩
    have hkV3 := hkV.keep hb3
    have hsr := hkV.lt
    clear q0 q1 q2 q3 f0 f1 f2 f3 fl p0 p1 p2 g0 g1 g2 gl hkV
    have p0 : World.cell? w3 ⟨w1.heap.size, 0, none⟩ = some (.slice S6 (Sm k).s.length x1) := hkV3.cell 0
    have g0 := hkV3.frozen 0
    have p1 : World.cell? w3 ⟨w1.heap.size, 1, none⟩ = some (.slice N6 (Sm k).n.length x2) := hkV3.cell 1
    have g1 := hkV3.frozen 1
    have p2 : World.cell? w3 ⟨w1.heap.size, 2, none⟩ = some (.slice G6 (Sm k).g.length x3) := hkV3.cell 2
    have g2 := hkV3.frozen 2
    have gl := hkV3.lt
    go_wp2
    go_roundg (gk - 1)
    case rel => exact ⟨k + 1, S7, N7, G7, z1, z2, z3, by have := HK.out; omega, by rfl, by go_num, ((hkV3.put 0 _).put 1 _).put 2 _, ((ra7.far fa7 (p := ⟨w1.heap.size, 0, none⟩) hsr _).far fa7 (p := ⟨w1.heap.size, 1, none⟩) hsr _).far fa7 (p := ⟨w1.heap.size, 2, none⟩) hsr _, fa7.mono (by omega), (((bstep hb hb3).setCell (p := ⟨w1.heap.size, 0, none⟩) (Nat.le_refl _) _).setCell (p := ⟨w1.heap.size, 1, none⟩) (Nat.le_refl _) _).setCell (p := ⟨w1.heap.size, 2, none⟩) (Nat.le_refl _) _⟩
    case measure => have := HK.out; omega
  ·have hkd : k = d.length := by omega
   have e3 : Sm k = SD := by rw [hkd]; exact HE.out
   rw [e3] at hkV ra
   clear HK HA HNO
   have q0 : World.cell? wr ⟨(w.heap.size + 1), 0, none⟩ = some (.slice .none 0 0) := hkR.cell 0
   have f0 := hkR.frozen 0
   have q1 : World.cell? wr ⟨(w.heap.size + 1), 1, none⟩ = some (.slice .none 0 0) := hkR.cell 1
   have f1 := hkR.frozen 1
   have q2 : World.cell? wr ⟨(w.heap.size + 1), 2, none⟩ = some (.slice .none 0 0) := hkR.cell 2
   have f2 := hkR.frozen 2
   have fl := hkR.lt
   have p0 : World.cell? wr ⟨w1.heap.size, 0, none⟩ = some (.slice S6 SD.s.length x1) := hkV.cell 0
   have g0 := hkV.frozen 0
   have p1 : World.cell? wr ⟨w1.heap.size, 1, none⟩ = some (.slice N6 SD.n.length x2) := hkV.cell 1
   have g1 := hkV.frozen 1
   have p2 : World.cell? wr ⟨w1.heap.size, 2, none⟩ = some (.slice G6 SD.g.length x3) := hkV.cell 2
   have g2 := hkV.frozen 2
   have gl := hkV.lt
   go_wp2
   exact bodyPost_ret (v := .tuple #[.agg #[.slice S6 SD.s.length x1, .slice N6 SD.n.length x2, .slice G6 SD.g.length x3], .int .i64 0]) (by simp [results, Try.results61, go_sem, q0, q1, q2, f0, f1, f2, fl]) rfl (acc_fin ra fa (by omega) hBr (by omega) _ _ _)
noncomputable def stateB (xs ys : List Int) (M S : Nat) (r : Work) : Bool :=
 decide (r.d.length = cdiv xs.length S) && (decide (1 ≤ r.t.length) && decide (r.t.length ≤ 6)) && atB (cdiv xs.length S) r.t && sameB r.a (sumA xs ys M S r.d)
noncomputable def stateErr (xs ys : List Int) (m s : Int) (r : Work) : Int :=
 if jobErr xs ys m s ≠ 0 then jobErr xs ys m s else if stateB xs ys m.toNat s.toNat r = true then 0 else 8
theorem stateErr_job {xs ys : List Int} {m s : Int} {r : Work} (h : ¬ jobErr xs ys m s = 0) : stateErr xs ys m s r = jobErr xs ys m s := by simp [stateErr, h]
theorem stateErr_no {xs ys : List Int} {M S : Nat} {r : Work} (h : jobErr xs ys M S = 0) (h2 : stateB xs ys M S r = false) : stateErr xs ys M S r = 8 := by
 unfold stateErr
 rw [if_neg (by simp [h])]
 simp [h2]
theorem stateErr_ok {xs ys : List Int} {M S : Nat} {r : Work} (h : jobErr xs ys M S = 0) (h2 : stateB xs ys M S r = true) : stateErr xs ys M S r = 0 := by
 unfold stateErr
 rw [if_neg (by simp [h])]
 simp [h2]
theorem Job.of {xs ys : List Int} {M S : Nat} (h : jobErr xs ys M S = 0) : Job xs ys M S := by
 obtain ⟨h1, h2, M', S', e1, e2, h3, h4, h5, h6⟩ := jobErr_zero h
 obtain rfl : M = M' := by omega
 obtain rfl : S = S' := by omega
 exact ⟨h1, h2, h3, h4, h5, h6⟩
theorem atB_no {C : Nat} {t : List Int} {k : Nat} (hk : k < t.length) (h : t.getD k 0 < -1 ∨ (C : Int) ≤ t.getD k 0) : atB C t = false := by
 rw [Bool.eq_false_iff, Ne, atB, List.all_eq_true]
 intro h2
 have := h2 _ (getD_mem (d := 0) hk)
 rw [decide_eq_true_eq] at this
 omega
theorem atB_yes {C : Nat} {t : List Int} (h : ∀ j, j < t.length → -1 ≤ t.getD j 0 ∧ t.getD j 0 < (C : Int)) : atB C t = true := by
 rw [atB, List.all_eq_true]
 intro x hx
 obtain ⟨k, hk, rfl⟩ := List.getElem_of_mem hx
 have := h k hk
 rw [getD_lt _ _ hk] at this
 rw [decide_eq_true_eq]
 exact this
set_option maxRecDepth 20000 in
set_option maxHeartbeats 4000000 in
theorem checkState_any (X Y S1 N1 G1 D T : Option Addr) (cx cy c1 c2 c3 c4 c5 : Nat) (xs ys : List Int) (m s : Int) (r : Work) (w : World) (hx : RI .i64 w X xs) (hy : RI .i64 w Y ys) (hcx : xs.length ≤ cx) (hl : xs.length ≤ 1000000) (hl2 : ys.length ≤ 1000000) (hr : RW w S1 N1 G1 D T r) (l1 : r.a.s.length ≤ 1000000) (l2 : r.a.n.length ≤ 1000000) (l3 : r.a.g.length ≤ 1000000) (l4 : r.d.length ≤ 1000000) (l5 : r.t.length ≤ 1000000) :
 Calls Try.prog 49 #[.agg #[.slice X xs.length cx, .slice Y ys.length cy, .int .i64 m, .int .i64 s], .agg #[.slice S1 r.a.s.length c1, .slice N1 r.a.n.length c2, .slice G1 r.a.g.length c3, .slice D r.d.length c4, .slice T r.t.length c5]] w fun e w' => e = .returned (.int .i64 (stateErr xs ys m s r)) ∧ Below w.heap.size w w' := by
 obtain ⟨wE, hwE⟩ : ∃ wE, wE = (w.alloc (.cells #[.slice X xs.length cx, .slice Y ys.length cy, .int .i64 m, .int .i64 s] 24)).alloc (.cells #[.slice S1 r.a.s.length c1, .slice N1 r.a.n.length c2, .slice G1 r.a.g.length c3, .slice D r.d.length c4, .slice T r.t.length c5] 42) := ⟨_, rfl⟩
 have hk1 : Blk wE w.heap.size 24 #[.slice X xs.length cx, .slice Y ys.length cy, .int .i64 m, .int .i64 s] := by rw [hwE]; exact (Blk.new _ _ _).alloc _
 have hk2 : Blk wE (w.heap.size + 1) 42 #[.slice S1 r.a.s.length c1, .slice N1 r.a.n.length c2, .slice G1 r.a.g.length c3, .slice D r.d.length c4, .slice T r.t.length c5] := by rw [hwE]; exact Blk.newAt _ _ (by simp)
 have hbE : Below w.heap.size w wE := by rw [hwE]; exact balloc (balloc (Below.refl _ _) _) _
 have hsE : wE.heap.size = w.heap.size + 2 := by rw [hwE]; simp
 have hxE := hx.keep hbE
 have hyE := hy.keep hbE
 have hrE := hr.keep hbE
 have HK := Lib.hid (fun w hx hy => wkCheck_any X Y cx cy xs ys m s w hx hy (by omega) (by omega))
 rcases (Decidable.em (jobErr xs ys m s = 0)).symm with he | he
 ·have e1 : (jobErr xs ys m s != 0) = true := by simp [he]
  have HR := Lib.hid (stateErr_job (r := r) he)
  clear he
  generalize jobErr xs ys m s = J at *
  go_enter Try.func49, Try.ntmps49
  go_wp2_with fail
  rw [← hwE]
  clear hwE
  have q0 : World.cell? wE ⟨w.heap.size, 0, none⟩ = some (.slice X xs.length cx) := hk1.cell 0
  have f0 := hk1.frozen 0
  have q1 : World.cell? wE ⟨w.heap.size, 1, none⟩ = some (.slice Y ys.length cy) := hk1.cell 1
  have f1 := hk1.frozen 1
  have q2 : World.cell? wE ⟨w.heap.size, 2, none⟩ = some (.int .i64 m) := hk1.cell 2
  have f2 := hk1.frozen 2
  have q3 : World.cell? wE ⟨w.heap.size, 3, none⟩ = some (.int .i64 s) := hk1.cell 3
  have f3 := hk1.frozen 3
  have fl := hk1.lt
  go_wp2_with fail
  refine (HK.out _ hxE hyE).mono ?_
  rintro _ w1 ⟨rfl, hb1⟩
  clear q0 q1 q2 q3 f0 f1 f2 f3 fl
  go_wp2
  go_ret
  exact ⟨ret_int HR.out.symm, bstep hbE hb1⟩
 obtain ⟨_, _, M, S, rfl, rfl, _⟩ := jobErr_zero he
 have hj := Job.of he
 have HNo := Lib.hid (fun h => stateErr_no (r := r) he h)
 have HOk := Lib.hid (fun h => stateErr_ok (r := r) he h)
 rw [he] at HK
 have hlx := hj.lx
 have HC := Lib.hid (fun w => wkblk_any X Y xs.length ys.length cx cy (M : Int) S w hj.s hj.s2 hj.lx)
 have hc64 := hj.c
 have hSB : stateB xs ys M S r = (decide (r.d.length = cdiv xs.length S) && (decide (1 ≤ r.t.length) && decide (r.t.length ≤ 6)) && atB (cdiv xs.length S) r.t && sameB r.a (sumA xs ys M S r.d)) := rfl
 by_cases hdC : r.d.length = cdiv xs.length S
 ·have HS := Lib.hid (fun w hx hy hd => sumOf_any hj X Y D cx cy c4 r.d w hx hy hcx hd hdC)
  have hfS := (sumA_is hj hdC).fine
  generalize sumA xs ys M S r.d = SD at *
  have dC : ((r.d.length : Int) != ((cdiv xs.length S : Nat) : Int)) = false := by simp [hdC]
  generalize cdiv xs.length S = C at *
  rw [decide_eq_true hdC, Bool.true_and] at hSB
  clear he hj hdC
  by_cases ht1 : r.t.length < 1
  ·have HR := HNo.out (by rw [hSB, decide_eq_false (show ¬ 1 ≤ r.t.length by omega)]; simp)
   rw [HR]
   have dt : decide ((r.t.length : Int) < 1) = true := by simp; omega
   clear HNo HOk HR hSB
   go_enter Try.func49, Try.ntmps49
   go_wp2_with fail
   rw [← hwE]
   clear hwE
   have q0 : World.cell? wE ⟨w.heap.size, 0, none⟩ = some (.slice X xs.length cx) := hk1.cell 0
   have f0 := hk1.frozen 0
   have q1 : World.cell? wE ⟨w.heap.size, 1, none⟩ = some (.slice Y ys.length cy) := hk1.cell 1
   have f1 := hk1.frozen 1
   have q2 : World.cell? wE ⟨w.heap.size, 2, none⟩ = some (.int .i64 (M : Int)) := hk1.cell 2
   have f2 := hk1.frozen 2
   have q3 : World.cell? wE ⟨w.heap.size, 3, none⟩ = some (.int .i64 (S : Int)) := hk1.cell 3
   have f3 := hk1.frozen 3
   have fl := hk1.lt
   go_wp2_with fail
   refine (HK.out _ hxE hyE).mono ?_
   rintro _ w1 ⟨rfl, hb1⟩
   clear q0 q1 q2 q3 f0 f1 f2 f3 fl
   have hB1 := bstep hbE hb1
   replace hk1 := hk1.keep hb1
   replace hk2 := hk2.keep hb1
   replace hxE := hxE.keep hb1
   replace hyE := hyE.keep hb1
   replace hrE := hrE.keep hb1
   have q0 : World.cell? w1 ⟨w.heap.size, 0, none⟩ = some (.slice X xs.length cx) := hk1.cell 0
   have f0 := hk1.frozen 0
   have q1 : World.cell? w1 ⟨w.heap.size, 1, none⟩ = some (.slice Y ys.length cy) := hk1.cell 1
   have f1 := hk1.frozen 1
   have q2 : World.cell? w1 ⟨w.heap.size, 2, none⟩ = some (.int .i64 (M : Int)) := hk1.cell 2
   have f2 := hk1.frozen 2
   have q3 : World.cell? w1 ⟨w.heap.size, 3, none⟩ = some (.int .i64 (S : Int)) := hk1.cell 3
   have f3 := hk1.frozen 3
   have fl := hk1.lt
   go_wp2_with fail
   refine (HC.out _).mono ?_
   rintro _ w2 ⟨rfl, hb2⟩
   clear q0 q1 q2 q3 f0 f1 f2 f3 fl
   have hB2 := bstep hB1 hb2
   replace hk1 := hk1.keep hb2
   replace hk2 := hk2.keep hb2
   replace hxE := hxE.keep hb2
   replace hyE := hyE.keep hb2
   replace hrE := hrE.keep hb2
   have p0 : World.cell? w2 ⟨(w.heap.size + 1), 0, none⟩ = some (.slice S1 r.a.s.length c1) := hk2.cell 0
   have g0 := hk2.frozen 0
   have p1 : World.cell? w2 ⟨(w.heap.size + 1), 1, none⟩ = some (.slice N1 r.a.n.length c2) := hk2.cell 1
   have g1 := hk2.frozen 1
   have p2 : World.cell? w2 ⟨(w.heap.size + 1), 2, none⟩ = some (.slice G1 r.a.g.length c3) := hk2.cell 2
   have g2 := hk2.frozen 2
   have p3 : World.cell? w2 ⟨(w.heap.size + 1), 3, none⟩ = some (.slice D r.d.length c4) := hk2.cell 3
   have g3 := hk2.frozen 3
   have p4 : World.cell? w2 ⟨(w.heap.size + 1), 4, none⟩ = some (.slice T r.t.length c5) := hk2.cell 4
   have g4 := hk2.frozen 4
   have gl := hk2.lt
   go_wp2
   go_ret
   exact ⟨rfl, hB2⟩
  have dt : decide ((r.t.length : Int) < 1) = false := by simp; omega
  by_cases ht6 : 6 < r.t.length
  ·have HR := HNo.out (by rw [hSB, decide_eq_false (show ¬ r.t.length ≤ 6 by omega)]; simp)
   rw [HR]
   have dt6 : decide (6 < (r.t.length : Int)) = true := by simp; omega
   clear HNo HOk HR hSB
   go_enter Try.func49, Try.ntmps49
   go_wp2_with fail
   rw [← hwE]
   clear hwE
   have q0 : World.cell? wE ⟨w.heap.size, 0, none⟩ = some (.slice X xs.length cx) := hk1.cell 0
   have f0 := hk1.frozen 0
   have q1 : World.cell? wE ⟨w.heap.size, 1, none⟩ = some (.slice Y ys.length cy) := hk1.cell 1
   have f1 := hk1.frozen 1
   have q2 : World.cell? wE ⟨w.heap.size, 2, none⟩ = some (.int .i64 (M : Int)) := hk1.cell 2
   have f2 := hk1.frozen 2
   have q3 : World.cell? wE ⟨w.heap.size, 3, none⟩ = some (.int .i64 (S : Int)) := hk1.cell 3
   have f3 := hk1.frozen 3
   have fl := hk1.lt
   go_wp2_with fail
   refine (HK.out _ hxE hyE).mono ?_
   rintro _ w1 ⟨rfl, hb1⟩
   clear q0 q1 q2 q3 f0 f1 f2 f3 fl
   have hB1 := bstep hbE hb1
   replace hk1 := hk1.keep hb1
   replace hk2 := hk2.keep hb1
   replace hxE := hxE.keep hb1
   replace hyE := hyE.keep hb1
   replace hrE := hrE.keep hb1
   have q0 : World.cell? w1 ⟨w.heap.size, 0, none⟩ = some (.slice X xs.length cx) := hk1.cell 0
   have f0 := hk1.frozen 0
   have q1 : World.cell? w1 ⟨w.heap.size, 1, none⟩ = some (.slice Y ys.length cy) := hk1.cell 1
   have f1 := hk1.frozen 1
   have q2 : World.cell? w1 ⟨w.heap.size, 2, none⟩ = some (.int .i64 (M : Int)) := hk1.cell 2
   have f2 := hk1.frozen 2
   have q3 : World.cell? w1 ⟨w.heap.size, 3, none⟩ = some (.int .i64 (S : Int)) := hk1.cell 3
   have f3 := hk1.frozen 3
   have fl := hk1.lt
   go_wp2_with fail
   refine (HC.out _).mono ?_
   rintro _ w2 ⟨rfl, hb2⟩
   clear q0 q1 q2 q3 f0 f1 f2 f3 fl
   have hB2 := bstep hB1 hb2
   replace hk1 := hk1.keep hb2
   replace hk2 := hk2.keep hb2
   replace hxE := hxE.keep hb2
   replace hyE := hyE.keep hb2
   replace hrE := hrE.keep hb2
   have p0 : World.cell? w2 ⟨(w.heap.size + 1), 0, none⟩ = some (.slice S1 r.a.s.length c1) := hk2.cell 0
   have g0 := hk2.frozen 0
   have p1 : World.cell? w2 ⟨(w.heap.size + 1), 1, none⟩ = some (.slice N1 r.a.n.length c2) := hk2.cell 1
   have g1 := hk2.frozen 1
   have p2 : World.cell? w2 ⟨(w.heap.size + 1), 2, none⟩ = some (.slice G1 r.a.g.length c3) := hk2.cell 2
   have g2 := hk2.frozen 2
   have p3 : World.cell? w2 ⟨(w.heap.size + 1), 3, none⟩ = some (.slice D r.d.length c4) := hk2.cell 3
   have g3 := hk2.frozen 3
   have p4 : World.cell? w2 ⟨(w.heap.size + 1), 4, none⟩ = some (.slice T r.t.length c5) := hk2.cell 4
   have g4 := hk2.frozen 4
   have gl := hk2.lt
   go_wp2
   go_ret
   exact ⟨rfl, hB2⟩
  have dt6 : decide (6 < (r.t.length : Int)) = false := by simp; omega
  rw [decide_eq_true (show 1 ≤ r.t.length by omega), decide_eq_true (show r.t.length ≤ 6 by omega), Bool.true_and, Bool.true_and] at hSB
  have HAN := Lib.hid (fun k hk h => HNo.out (by rw [hSB, atB_no (C := C) (t := r.t) (k := k) hk h]; rfl))
  have HSN := Lib.hid (fun (ha : atB C r.t = true) (h : sameB r.a SD = false) => HNo.out (by rw [hSB, ha, h]; rfl))
  have HSY := Lib.hid (fun (ha : atB C r.t = true) (h : sameB r.a SD = true) => HOk.out (by rw [hSB, ha, h]; rfl))
  have HE1 := Lib.hid (fun A B c d w hx hy => equalC_any A B c d SD.s r.a.s w hx hy (by have := hfS.ls; omega) l1)
  have HE2 := Lib.hid (fun A B c d w hx hy => equalC_any A B c d SD.n r.a.n w hx hy (by have := hfS.ls; have := hfS.ln; omega) l2)
  have HE3 := Lib.hid (fun A B c d w hx hy => equalG_any A B c d SD.g r.a.g w hx hy (by have := hfS.lg; omega) l3)
  clear HNo HOk hSB hfS
  generalize stateErr xs ys M S r = RES at *
  go_enter Try.func49, Try.ntmps49
  go_wp2_with fail
  rw [← hwE]
  clear hwE
  have q0 : World.cell? wE ⟨w.heap.size, 0, none⟩ = some (.slice X xs.length cx) := hk1.cell 0
  have f0 := hk1.frozen 0
  have q1 : World.cell? wE ⟨w.heap.size, 1, none⟩ = some (.slice Y ys.length cy) := hk1.cell 1
  have f1 := hk1.frozen 1
  have q2 : World.cell? wE ⟨w.heap.size, 2, none⟩ = some (.int .i64 (M : Int)) := hk1.cell 2
  have f2 := hk1.frozen 2
  have q3 : World.cell? wE ⟨w.heap.size, 3, none⟩ = some (.int .i64 (S : Int)) := hk1.cell 3
  have f3 := hk1.frozen 3
  have fl := hk1.lt
  go_wp2_with fail
  refine (HK.out _ hxE hyE).mono ?_
  rintro _ w1 ⟨rfl, hb1⟩
  clear q0 q1 q2 q3 f0 f1 f2 f3 fl
  have hB1 := bstep hbE hb1
  replace hk1 := hk1.keep hb1
  replace hk2 := hk2.keep hb1
  replace hxE := hxE.keep hb1
  replace hyE := hyE.keep hb1
  replace hrE := hrE.keep hb1
  have q0 : World.cell? w1 ⟨w.heap.size, 0, none⟩ = some (.slice X xs.length cx) := hk1.cell 0
  have f0 := hk1.frozen 0
  have q1 : World.cell? w1 ⟨w.heap.size, 1, none⟩ = some (.slice Y ys.length cy) := hk1.cell 1
  have f1 := hk1.frozen 1
  have q2 : World.cell? w1 ⟨w.heap.size, 2, none⟩ = some (.int .i64 (M : Int)) := hk1.cell 2
  have f2 := hk1.frozen 2
  have q3 : World.cell? w1 ⟨w.heap.size, 3, none⟩ = some (.int .i64 (S : Int)) := hk1.cell 3
  have f3 := hk1.frozen 3
  have fl := hk1.lt
  go_wp2_with fail
  refine (HC.out _).mono ?_
  rintro _ w2 ⟨rfl, hb2⟩
  clear q0 q1 q2 q3 f0 f1 f2 f3 fl
  have hB2 := bstep hB1 hb2
  replace hk1 := hk1.keep hb2
  replace hk2 := hk2.keep hb2
  replace hxE := hxE.keep hb2
  replace hyE := hyE.keep hb2
  replace hrE := hrE.keep hb2
  have p0 : World.cell? w2 ⟨(w.heap.size + 1), 0, none⟩ = some (.slice S1 r.a.s.length c1) := hk2.cell 0
  have g0 := hk2.frozen 0
  have p1 : World.cell? w2 ⟨(w.heap.size + 1), 1, none⟩ = some (.slice N1 r.a.n.length c2) := hk2.cell 1
  have g1 := hk2.frozen 1
  have p2 : World.cell? w2 ⟨(w.heap.size + 1), 2, none⟩ = some (.slice G1 r.a.g.length c3) := hk2.cell 2
  have g2 := hk2.frozen 2
  have p3 : World.cell? w2 ⟨(w.heap.size + 1), 3, none⟩ = some (.slice D r.d.length c4) := hk2.cell 3
  have g3 := hk2.frozen 3
  have p4 : World.cell? w2 ⟨(w.heap.size + 1), 4, none⟩ = some (.slice T r.t.length c5) := hk2.cell 4
  have g4 := hk2.frozen 4
  have gl := hk2.lt
  go_wp2
  go_loopg [38] r.t.length (fun gk i wr => ∃ k : Nat, k + gk = r.t.length ∧ i = .int .i64 k ∧ w2 = wr ∧ Hid (∀ j, j < k → -1 ≤ r.t.getD j 0 ∧ r.t.getD j 0 < (C : Int)))
  case atStart => exact ⟨0, by omega, rfl, rfl, Lib.hid (by intro j hj; omega)⟩
  case round =>
   obtain ⟨k, hk, rfl, rfl, hall⟩ := hrel
   have hk' : k ≤ r.t.length := by omega
   have HK2 := Lib.hid hk
   clear hk HK
   by_cases hlt : k < r.t.length
   ·obtain ⟨bt, ot, hTe, htl, htc⟩ := hrE.t (by omega)
    have htk := htc k hlt
    have HNX := Lib.hid (fun h => all_lt_succ (p := fun j => -1 ≤ r.t.getD j 0 ∧ r.t.getD j 0 < (C : Int)) hall.out h)
    have HANk := Lib.hid (HAN.out k hlt)
    clear htc HAN
    subst hTe
    generalize r.t.getD k 0 = x at *
    by_cases hx1 : x < -1
    ·have dx : decide (x < -1) = true := decide_eq_true hx1
     have HR := HANk.out (.inl hx1)
     clear hx1
     go_wp2
     go_ret
     exact ⟨ret_int HR.symm, hB2⟩
    have dx : decide (x < -1) = false := decide_eq_false hx1
    by_cases hx2 : (C : Int) ≤ x
    ·have dx2 : decide ((C : Int) ≤ x) = true := decide_eq_true hx2
     have HR := HANk.out (.inr hx2)
     clear hx1 hx2
     go_wp2
     go_ret
     exact ⟨ret_int HR.symm, hB2⟩
    have dx2 : decide ((C : Int) ≤ x) = false := decide_eq_false hx2
    have HX := Lib.hid (HNX.out ⟨by omega, by omega⟩)
    clear hx1 hx2
    go_wp2
    go_roundg (gk - 1)
    case rel => exact ⟨k + 1, by have := HK2.out; omega, by go_num, rfl, HX⟩
    case measure => have := HK2.out; omega
   ·have hat := atB_yes (C := C) (t := r.t) (fun j hj => hall.out j (by omega))
    have HSN2 := Lib.hid (HSN.out hat)
    have HSY2 := Lib.hid (HSY.out hat)
    clear hall HSN HSY hat HAN HK2
    cases h1 : decide (SD.s = r.a.s)
    ·have HR := HSN2.out (by unfold sameB; rw [decide_eq_false_iff_not] at h1 ⊢; exact fun h => h1 h.1.symm)
     rw [h1] at HE1
     clear h1
     have q0 : World.cell? w2 ⟨w.heap.size, 0, none⟩ = some (.slice X xs.length cx) := hk1.cell 0
     have f0 := hk1.frozen 0
     have q1 : World.cell? w2 ⟨w.heap.size, 1, none⟩ = some (.slice Y ys.length cy) := hk1.cell 1
     have f1 := hk1.frozen 1
     have q2 : World.cell? w2 ⟨w.heap.size, 2, none⟩ = some (.int .i64 (M : Int)) := hk1.cell 2
     have f2 := hk1.frozen 2
     have q3 : World.cell? w2 ⟨w.heap.size, 3, none⟩ = some (.int .i64 (S : Int)) := hk1.cell 3
     have f3 := hk1.frozen 3
     have fl := hk1.lt
     go_wp2_with fail
     refine (HS.out _ hxE hyE hrE.d).mono ?_
     rintro _ w3 ⟨S3, N3, G3, x1, x2, x3, rfl, ra, fa, hb3⟩
     clear q0 q1 q2 q3 f0 f1 f2 f3 fl
     clear p0 p1 p2 p3 p4 g0 g1 g2 g3 g4 gl
     replace hk2 := hk2.keep hb3
     replace hrE := hrE.keep hb3
     have hB3 := bstep hB2 hb3
     have p0 : World.cell? w3 ⟨(w.heap.size + 1), 0, none⟩ = some (.slice S1 r.a.s.length c1) := hk2.cell 0
     have g0 := hk2.frozen 0
     have p1 : World.cell? w3 ⟨(w.heap.size + 1), 1, none⟩ = some (.slice N1 r.a.n.length c2) := hk2.cell 1
     have g1 := hk2.frozen 1
     have p2 : World.cell? w3 ⟨(w.heap.size + 1), 2, none⟩ = some (.slice G1 r.a.g.length c3) := hk2.cell 2
     have g2 := hk2.frozen 2
     have p3 : World.cell? w3 ⟨(w.heap.size + 1), 3, none⟩ = some (.slice D r.d.length c4) := hk2.cell 3
     have g3 := hk2.frozen 3
     have p4 : World.cell? w3 ⟨(w.heap.size + 1), 4, none⟩ = some (.slice T r.t.length c5) := hk2.cell 4
     have g4 := hk2.frozen 4
     have gl := hk2.lt
     have hsz := hk2.lt
     go_wp2_with fail
     go_wp2_with fail
     refine (HE1.out S3 S1 x1 c1 _ (ra.s.keep (balloc (Below.refl _ _) _)) (hrE.a.s.keep (balloc (Below.refl _ _) _))).mono ?_
     rintro _ _ ⟨rfl, n4, rfl⟩
     go_wp2
     go_ret
     exact ⟨ret_int HR.symm, below_drewN (balloc hB3 _) _⟩
    rw [h1] at HE1
    cases h2 : decide (SD.n = r.a.n)
    ·have HR := HSN2.out (by unfold sameB; rw [decide_eq_false_iff_not] at h2 ⊢; exact fun h => h2 h.2.1.symm)
     rw [h2] at HE2
     clear h1 h2
     have q0 : World.cell? w2 ⟨w.heap.size, 0, none⟩ = some (.slice X xs.length cx) := hk1.cell 0
     have f0 := hk1.frozen 0
     have q1 : World.cell? w2 ⟨w.heap.size, 1, none⟩ = some (.slice Y ys.length cy) := hk1.cell 1
     have f1 := hk1.frozen 1
     have q2 : World.cell? w2 ⟨w.heap.size, 2, none⟩ = some (.int .i64 (M : Int)) := hk1.cell 2
     have f2 := hk1.frozen 2
     have q3 : World.cell? w2 ⟨w.heap.size, 3, none⟩ = some (.int .i64 (S : Int)) := hk1.cell 3
     have f3 := hk1.frozen 3
     have fl := hk1.lt
     go_wp2_with fail
     refine (HS.out _ hxE hyE hrE.d).mono ?_
     rintro _ w3 ⟨S3, N3, G3, x1, x2, x3, rfl, ra, fa, hb3⟩
     clear q0 q1 q2 q3 f0 f1 f2 f3 fl
     clear p0 p1 p2 p3 p4 g0 g1 g2 g3 g4 gl
     replace hk2 := hk2.keep hb3
     replace hrE := hrE.keep hb3
     have hB3 := bstep hB2 hb3
     have p0 : World.cell? w3 ⟨(w.heap.size + 1), 0, none⟩ = some (.slice S1 r.a.s.length c1) := hk2.cell 0
     have g0 := hk2.frozen 0
     have p1 : World.cell? w3 ⟨(w.heap.size + 1), 1, none⟩ = some (.slice N1 r.a.n.length c2) := hk2.cell 1
     have g1 := hk2.frozen 1
     have p2 : World.cell? w3 ⟨(w.heap.size + 1), 2, none⟩ = some (.slice G1 r.a.g.length c3) := hk2.cell 2
     have g2 := hk2.frozen 2
     have p3 : World.cell? w3 ⟨(w.heap.size + 1), 3, none⟩ = some (.slice D r.d.length c4) := hk2.cell 3
     have g3 := hk2.frozen 3
     have p4 : World.cell? w3 ⟨(w.heap.size + 1), 4, none⟩ = some (.slice T r.t.length c5) := hk2.cell 4
     have g4 := hk2.frozen 4
     have gl := hk2.lt
     have hsz := hk2.lt
     go_wp2_with fail
     go_wp2_with fail
     refine (HE1.out S3 S1 x1 c1 _ (ra.s.keep (balloc (Below.refl _ _) _)) (hrE.a.s.keep (balloc (Below.refl _ _) _))).mono ?_
     rintro _ _ ⟨rfl, n4, rfl⟩
     go_wp2_with fail
     refine (HE2.out N3 N1 x2 c2 _ (ra.n.keep (below_drewN (balloc (Below.refl _ _) _) _)) (hrE.a.n.keep (below_drewN (balloc (Below.refl _ _) _) _))).mono ?_
     rintro _ _ ⟨rfl, n5, rfl⟩
     go_wp2
     go_ret
     exact ⟨ret_int HR.symm, below_drewN (balloc hB3 _) _⟩
    rw [h2] at HE2
    cases h3 : decide (SD.g = r.a.g)
    ·have HR := HSN2.out (by unfold sameB; rw [decide_eq_false_iff_not] at h3 ⊢; exact fun h => h3 h.2.2.symm)
     rw [h3] at HE3
     clear h1 h2 h3
     have q0 : World.cell? w2 ⟨w.heap.size, 0, none⟩ = some (.slice X xs.length cx) := hk1.cell 0
     have f0 := hk1.frozen 0
     have q1 : World.cell? w2 ⟨w.heap.size, 1, none⟩ = some (.slice Y ys.length cy) := hk1.cell 1
     have f1 := hk1.frozen 1
     have q2 : World.cell? w2 ⟨w.heap.size, 2, none⟩ = some (.int .i64 (M : Int)) := hk1.cell 2
     have f2 := hk1.frozen 2
     have q3 : World.cell? w2 ⟨w.heap.size, 3, none⟩ = some (.int .i64 (S : Int)) := hk1.cell 3
     have f3 := hk1.frozen 3
     have fl := hk1.lt
     go_wp2_with fail
     refine (HS.out _ hxE hyE hrE.d).mono ?_
     rintro _ w3 ⟨S3, N3, G3, x1, x2, x3, rfl, ra, fa, hb3⟩
     clear q0 q1 q2 q3 f0 f1 f2 f3 fl
     clear p0 p1 p2 p3 p4 g0 g1 g2 g3 g4 gl
     replace hk2 := hk2.keep hb3
     replace hrE := hrE.keep hb3
     have hB3 := bstep hB2 hb3
     have p0 : World.cell? w3 ⟨(w.heap.size + 1), 0, none⟩ = some (.slice S1 r.a.s.length c1) := hk2.cell 0
     have g0 := hk2.frozen 0
     have p1 : World.cell? w3 ⟨(w.heap.size + 1), 1, none⟩ = some (.slice N1 r.a.n.length c2) := hk2.cell 1
     have g1 := hk2.frozen 1
     have p2 : World.cell? w3 ⟨(w.heap.size + 1), 2, none⟩ = some (.slice G1 r.a.g.length c3) := hk2.cell 2
     have g2 := hk2.frozen 2
     have p3 : World.cell? w3 ⟨(w.heap.size + 1), 3, none⟩ = some (.slice D r.d.length c4) := hk2.cell 3
     have g3 := hk2.frozen 3
     have p4 : World.cell? w3 ⟨(w.heap.size + 1), 4, none⟩ = some (.slice T r.t.length c5) := hk2.cell 4
     have g4 := hk2.frozen 4
     have gl := hk2.lt
     have hsz := hk2.lt
     go_wp2_with fail
     go_wp2_with fail
     refine (HE1.out S3 S1 x1 c1 _ (ra.s.keep (balloc (Below.refl _ _) _)) (hrE.a.s.keep (balloc (Below.refl _ _) _))).mono ?_
     rintro _ _ ⟨rfl, n4, rfl⟩
     go_wp2_with fail
     refine (HE2.out N3 N1 x2 c2 _ (ra.n.keep (below_drewN (balloc (Below.refl _ _) _) _)) (hrE.a.n.keep (below_drewN (balloc (Below.refl _ _) _) _))).mono ?_
     rintro _ _ ⟨rfl, n5, rfl⟩
     go_wp2_with fail
     refine (HE3.out G3 G1 x3 c3 _ (ra.g.keep (below_drewN (balloc (Below.refl _ _) _) _)) (hrE.a.g.keep (below_drewN (balloc (Below.refl _ _) _) _))).mono ?_
     rintro _ _ ⟨rfl, n6, rfl⟩
     go_wp2
     go_ret
     exact ⟨ret_int HR.symm, below_drewN (balloc hB3 _) _⟩
    rw [h3] at HE3
    have HR := HSY2.out (by unfold sameB; rw [decide_eq_true_eq] at h1 h2 h3 ⊢; exact ⟨h1.symm, h2.symm, h3.symm⟩)
    clear h1 h2 h3
    have q0 : World.cell? w2 ⟨w.heap.size, 0, none⟩ = some (.slice X xs.length cx) := hk1.cell 0
    have f0 := hk1.frozen 0
    have q1 : World.cell? w2 ⟨w.heap.size, 1, none⟩ = some (.slice Y ys.length cy) := hk1.cell 1
    have f1 := hk1.frozen 1
    have q2 : World.cell? w2 ⟨w.heap.size, 2, none⟩ = some (.int .i64 (M : Int)) := hk1.cell 2
    have f2 := hk1.frozen 2
    have q3 : World.cell? w2 ⟨w.heap.size, 3, none⟩ = some (.int .i64 (S : Int)) := hk1.cell 3
    have f3 := hk1.frozen 3
    have fl := hk1.lt
    go_wp2_with fail
    refine (HS.out _ hxE hyE hrE.d).mono ?_
    rintro _ w3 ⟨S3, N3, G3, x1, x2, x3, rfl, ra, fa, hb3⟩
    clear q0 q1 q2 q3 f0 f1 f2 f3 fl
    clear p0 p1 p2 p3 p4 g0 g1 g2 g3 g4 gl
    replace hk2 := hk2.keep hb3
    replace hrE := hrE.keep hb3
    have hB3 := bstep hB2 hb3
    have p0 : World.cell? w3 ⟨(w.heap.size + 1), 0, none⟩ = some (.slice S1 r.a.s.length c1) := hk2.cell 0
    have g0 := hk2.frozen 0
    have p1 : World.cell? w3 ⟨(w.heap.size + 1), 1, none⟩ = some (.slice N1 r.a.n.length c2) := hk2.cell 1
    have g1 := hk2.frozen 1
    have p2 : World.cell? w3 ⟨(w.heap.size + 1), 2, none⟩ = some (.slice G1 r.a.g.length c3) := hk2.cell 2
    have g2 := hk2.frozen 2
    have p3 : World.cell? w3 ⟨(w.heap.size + 1), 3, none⟩ = some (.slice D r.d.length c4) := hk2.cell 3
    have g3 := hk2.frozen 3
    have p4 : World.cell? w3 ⟨(w.heap.size + 1), 4, none⟩ = some (.slice T r.t.length c5) := hk2.cell 4
    have g4 := hk2.frozen 4
    have gl := hk2.lt
    have hsz := hk2.lt
    go_wp2_with fail
    go_wp2_with fail
    refine (HE1.out S3 S1 x1 c1 _ (ra.s.keep (balloc (Below.refl _ _) _)) (hrE.a.s.keep (balloc (Below.refl _ _) _))).mono ?_
    rintro _ _ ⟨rfl, n4, rfl⟩
    go_wp2_with fail
    refine (HE2.out N3 N1 x2 c2 _ (ra.n.keep (below_drewN (balloc (Below.refl _ _) _) _)) (hrE.a.n.keep (below_drewN (balloc (Below.refl _ _) _) _))).mono ?_
    rintro _ _ ⟨rfl, n5, rfl⟩
    go_wp2_with fail
    refine (HE3.out G3 G1 x3 c3 _ (ra.g.keep (below_drewN (balloc (Below.refl _ _) _) _)) (hrE.a.g.keep (below_drewN (balloc (Below.refl _ _) _) _))).mono ?_
    rintro _ _ ⟨rfl, n6, rfl⟩
    go_wp2
    go_ret
    exact ⟨ret_int HR.symm, below_drewN (balloc hB3 _) _⟩
 ·have dC : ((r.d.length : Int) != ((cdiv xs.length S : Nat) : Int)) = true := by simp; omega
  have HR := HNo.out (by rw [hSB, decide_eq_false hdC]; rfl)
  rw [HR]
  clear HNo HOk HR hSB he hj hdC
  generalize cdiv xs.length S = C at *
  go_enter Try.func49, Try.ntmps49
  go_wp2_with fail
  rw [← hwE]
  clear hwE
  have q0 : World.cell? wE ⟨w.heap.size, 0, none⟩ = some (.slice X xs.length cx) := hk1.cell 0
  have f0 := hk1.frozen 0
  have q1 : World.cell? wE ⟨w.heap.size, 1, none⟩ = some (.slice Y ys.length cy) := hk1.cell 1
  have f1 := hk1.frozen 1
  have q2 : World.cell? wE ⟨w.heap.size, 2, none⟩ = some (.int .i64 (M : Int)) := hk1.cell 2
  have f2 := hk1.frozen 2
  have q3 : World.cell? wE ⟨w.heap.size, 3, none⟩ = some (.int .i64 (S : Int)) := hk1.cell 3
  have f3 := hk1.frozen 3
  have fl := hk1.lt
  go_wp2_with fail
  refine (HK.out _ hxE hyE).mono ?_
  rintro _ w1 ⟨rfl, hb1⟩
  clear q0 q1 q2 q3 f0 f1 f2 f3 fl
  have hB1 := bstep hbE hb1
  replace hk1 := hk1.keep hb1
  replace hk2 := hk2.keep hb1
  replace hxE := hxE.keep hb1
  replace hyE := hyE.keep hb1
  replace hrE := hrE.keep hb1
  have q0 : World.cell? w1 ⟨w.heap.size, 0, none⟩ = some (.slice X xs.length cx) := hk1.cell 0
  have f0 := hk1.frozen 0
  have q1 : World.cell? w1 ⟨w.heap.size, 1, none⟩ = some (.slice Y ys.length cy) := hk1.cell 1
  have f1 := hk1.frozen 1
  have q2 : World.cell? w1 ⟨w.heap.size, 2, none⟩ = some (.int .i64 (M : Int)) := hk1.cell 2
  have f2 := hk1.frozen 2
  have q3 : World.cell? w1 ⟨w.heap.size, 3, none⟩ = some (.int .i64 (S : Int)) := hk1.cell 3
  have f3 := hk1.frozen 3
  have fl := hk1.lt
  go_wp2_with fail
  refine (HC.out _).mono ?_
  rintro _ w2 ⟨rfl, hb2⟩
  clear q0 q1 q2 q3 f0 f1 f2 f3 fl
  have hB2 := bstep hB1 hb2
  replace hk1 := hk1.keep hb2
  replace hk2 := hk2.keep hb2
  replace hxE := hxE.keep hb2
  replace hyE := hyE.keep hb2
  replace hrE := hrE.keep hb2
  have p0 : World.cell? w2 ⟨(w.heap.size + 1), 0, none⟩ = some (.slice S1 r.a.s.length c1) := hk2.cell 0
  have g0 := hk2.frozen 0
  have p1 : World.cell? w2 ⟨(w.heap.size + 1), 1, none⟩ = some (.slice N1 r.a.n.length c2) := hk2.cell 1
  have g1 := hk2.frozen 1
  have p2 : World.cell? w2 ⟨(w.heap.size + 1), 2, none⟩ = some (.slice G1 r.a.g.length c3) := hk2.cell 2
  have g2 := hk2.frozen 2
  have p3 : World.cell? w2 ⟨(w.heap.size + 1), 3, none⟩ = some (.slice D r.d.length c4) := hk2.cell 3
  have g3 := hk2.frozen 3
  have p4 : World.cell? w2 ⟨(w.heap.size + 1), 4, none⟩ = some (.slice T r.t.length c5) := hk2.cell 4
  have g4 := hk2.frozen 4
  have gl := hk2.lt
  go_wp2
  go_ret
  exact ⟨rfl, hB2⟩
end Wk
end Go.Proofs.Ytdekbncpodjgnaa
