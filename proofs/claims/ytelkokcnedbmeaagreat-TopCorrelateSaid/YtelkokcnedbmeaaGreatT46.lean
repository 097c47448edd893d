/-
  Parts of the proof of TopCorrelate: WkR WkN WkL OpenE WkM.
-/
import Derived.Test.YtelkokcnedbmeaaGreatT44
import Derived.Test.YtelkokcnedbmeaaGreatT14
import Derived.Test.YtelkokcnedbmeaaGreatT45
import Derived.Test.YtelkokcnedbmeaaGreatT03
import Derived.Deep.RegionHeld3
import Derived.Test.YtelkokcnedbmeaaGreatT01
import Derived.Lib.SmallJoins
import Derived.Test.YtelkokcnedbmeaaGreatT41
import Derived.Test.YtelkokcnedbmeaaGreatT37
import Derived.Deep.Strs
namespace Go.Proofs.YtelkokcnedbmeaaGreat
open Go.RowKit Runs Lagc Reg
set_option maxRecDepth 20000
set_option linter.unusedVariables false
set_option linter.unusedSimpArgs false
namespace Wk
open Lagw
def cellF (a : Acc) (k : Nat) : Int × Int := (val (a.s.getD k (0, 0)), val (a.n.getD k (0, 0)))
noncomputable def resS (xs ys : List Int) (m s : Int) (r : Work) : List (Int × Int) × Int :=
 if stateErr xs ys m s r ≠ 0 then ([], stateErr xs ys m s r) else if r.d.all id = true then (fullL (cellF r.a) (2 * m.toNat + 1), 0) else ([], 22)
theorem mk_cap (n : Nat) (hn : n ≤ 1000) (w : World) : (Instr.makeSlice 28 (.int .i64 0) (.int .i64 (n : Int))).run Tryz.prog w = .ok (.slice (some ⟨w.heap.size, 0, none⟩) 0 n) (w.alloc (.cells ((List.replicate n ((0 : Int), (0 : Int))).flatMap encP).toArray 61)) := by
 obtain ⟨i0, hi0, hz0, hz1, hz2⟩ := info_parts info_lag
 have h := run_make (P := Tryz.prog) w 28 61 i0 _ Tryz.underlying28 hi0 hz0 .i64 .i64 0 (n : Int) (by omega) (by omega) (by rw [hz2]; omega) (by omega)
 simp only [Int.toNat_natCast] at h
 rw [h]
 have e := made_flat encP i0.size (by intro x; rw [hz1]; rfl) (by rw [hz1]; omega) ((0 : Int), (0 : Int)) n
 first
  | rw [← e]; rfl
  | rfl
theorem own_cap {w : World} {base g n : Nat} {e : TypeId} (h : Blk w g e ((List.replicate n ((0 : Int), (0 : Int))).flatMap encP).toArray) (hb : base ≤ g) (hn : n ≤ 1000) : w.ownsRow base e 2 (.slice (some ⟨g, 0, none⟩) 0 n) 0 [] :=
 ⟨rfl, .inr ⟨g, n, _, rfl, hb, h, Nat.zero_le _, by unfold maxLen; omega, by simp [flat_len encP 2 encP_len], by simp⟩⟩
theorem all_no {d : List Bool} {k : Nat} (hk : k < d.length) (h : d.getD k false = false) : d.all id = false := by
 rw [Bool.eq_false_iff, Ne, List.all_eq_true]
 intro h2
 have := h2 _ (getD_mem (d := false) hk)
 rw [h] at this
 cases this
theorem all_yes {d : List Bool} (h : ∀ j, j < d.length → d.getD j false = true) : d.all id = true := by
 rw [List.all_eq_true]
 intro x hx
 obtain ⟨k, hk, rfl⟩ := List.getElem_of_mem hx
 have := h k hk
 rwa [getD_lt _ _ hk] at this
set_option maxRecDepth 20000 in
set_option maxHeartbeats 4000000 in
theorem result_any (X Y S1 N1 G1 D T : Option Addr) (cx cy c1 c2 c3 c4 c5 : Nat) (xs ys : List Int) (m s : Int) (r : Work) (w : World) (hx : RI .i64 w X xs) (hy : RI .i64 w Y ys) (hcx : xs.length ≤ cx) (hl : xs.length ≤ 1000000) (hl2 : ys.length ≤ 1000000) (hr : RW w S1 N1 G1 D T r) (l1 : r.a.s.length ≤ 1000000) (l2 : r.a.n.length ≤ 1000000) (l3 : r.a.g.length ≤ 1000000) (l4 : r.d.length ≤ 1000000) (l5 : r.t.length ≤ 1000000) :
 Calls Tryz.prog 12 #[.agg #[.slice X xs.length cx, .slice Y ys.length cy, .int .i64 m, .int .i64 s], .agg #[.slice S1 r.a.s.length c1, .slice N1 r.a.n.length c2, .slice G1 r.a.g.length c3, .slice D r.d.length c4, .slice T r.t.length c5]] w (RetQ 61 w (resS xs ys m s r)) := by
 have HK := Lib.hid (fun w hx hy hr => checkState_any X Y S1 N1 G1 D T cx cy c1 c2 c3 c4 c5 xs ys m s r w hx hy hcx hl hl2 hr l1 l2 l3 l4 l5)
 by_cases he : stateErr xs ys m s r = 0
 ·obtain ⟨M, S, rfl, rfl, hj, hG, ha⟩ := stateErr_zero he
  have hIs := sumA_is hj hG.d
  rw [← ha] at hIs
  have hf := hIs.fine
  have hlen := hIs.len
  have hM := hj.m
  rw [he] at HK
  have HR22 := Lib.hid (fun (h : r.d.all id = false) => show resS xs ys M S r = ([], 22) by unfold resS; rw [if_neg (by simp [he]), if_neg (by simp [h])])
  have HR0 := Lib.hid (fun (h : r.d.all id = true) => show resS xs ys M S r = (fullL (cellF r.a) (2 * M + 1), 0) by unfold resS; rw [if_neg (by simp [he]), if_pos h, Int.toNat_natCast])
  have HV := Lib.hid (fun (k : Nat) (hk : k < 2 * M + 1) w hx => accValue_any S1 N1 G1 c1 c2 c3 r.a ((k : Int) - (M : Int)) w hx (by omega) (by omega) (by omega) (by omega))
  have HVS : Hid (∀ k, k < 2 * M + 1 → valS r.a ((k : Int) - (M : Int)) = (cellF r.a k, 0)) := Lib.hid (fun k hk => by
   rw [valS_0 (I := k) (acc_fine.2 hf) (by rw [hlen]; omega) (by rw [hlen]; omega)]
   rfl)
  have hmk := mk_cap (2 * M + 1) (by omega)
  rw [show ((2 * M + 1 : Nat) : Int) = 2 * (M : Int) + 1 by omega] at hmk
  obtain ⟨i0, hi0, hz0, hz1, hz2⟩ := info_parts info_lag
  have HSUC := Lib.hid (fun k => fullL_succ (cellF r.a) k)
  have HFL := Lib.hid (fullL_len (cellF r.a) (2 * M + 1))
  generalize cellF r.a = F at *
  generalize resS xs ys M S r = RES at *
  clear hIs hf ha hG he hlen
  have hdC := hj.c
  obtain ⟨wE, hwE⟩ : ∃ wE, wE = (w.alloc (.cells #[.slice X xs.length cx, .slice Y ys.length cy, .int .i64 (M : Int), .int .i64 (S : Int)] 26)).alloc (.cells #[.slice S1 r.a.s.length c1, .slice N1 r.a.n.length c2, .slice G1 r.a.g.length c3, .slice D r.d.length c4, .slice T r.t.length c5] 40) := ⟨_, rfl⟩
  have hk1 : Blk wE w.heap.size 26 #[.slice X xs.length cx, .slice Y ys.length cy, .int .i64 (M : Int), .int .i64 (S : Int)] := by rw [hwE]; exact (Blk.new _ _ _).alloc _
  have hk2 : Blk wE (w.heap.size + 1) 40 #[.slice S1 r.a.s.length c1, .slice N1 r.a.n.length c2, .slice G1 r.a.g.length c3, .slice D r.d.length c4, .slice T r.t.length c5] := by rw [hwE]; exact Blk.newAt _ _ (by simp)
  have hbE : Below w.heap.size w wE := by rw [hwE]; exact balloc (balloc (Below.refl _ _) _) _
  have hsE : wE.heap.size = w.heap.size + 2 := by rw [hwE]; simp
  have hxE := hx.keep hbE
  have hyE := hy.keep hbE
  have hrE := hr.keep hbE
  clear hj hdC
  go_enter Tryz.func12, Tryz.ntmps12
  go_wp2_with fail
  rw [← hwE]
  clear hwE
  have q0 : World.cell? wE ⟨w.heap.size, 0, none⟩ = some (.slice X xs.length cx) := hk1.cell 0
  have f0 := hk1.frozen 0
  have q1 : World.cell? wE ⟨w.heap.size, 1, none⟩ = some (.slice Y ys.length cy) := hk1.cell 1
  have f1 := hk1.frozen 1
  have q2 : World.cell? wE ⟨w.heap.size, 2, none⟩ = some (.int .i64 (M : Int)) := hk1.cell 2
  have f2 := hk1.frozen 2
  have q3 : World.cell? wE ⟨w.heap.size, 3, none⟩ = some (.int .i64 (S : Int)) := hk1.cell 3
  have f3 := hk1.frozen 3
  have fl := hk1.lt
  have p0 : World.cell? wE ⟨(w.heap.size + 1), 0, none⟩ = some (.slice S1 r.a.s.length c1) := hk2.cell 0
  have g0 := hk2.frozen 0
  have p1 : World.cell? wE ⟨(w.heap.size + 1), 1, none⟩ = some (.slice N1 r.a.n.length c2) := hk2.cell 1
  have g1 := hk2.frozen 1
  have p2 : World.cell? wE ⟨(w.heap.size + 1), 2, none⟩ = some (.slice G1 r.a.g.length c3) := hk2.cell 2
  have g2 := hk2.frozen 2
  have p3 : World.cell? wE ⟨(w.heap.size + 1), 3, none⟩ = some (.slice D r.d.length c4) := hk2.cell 3
  have g3 := hk2.frozen 3
  have p4 : World.cell? wE ⟨(w.heap.size + 1), 4, none⟩ = some (.slice T r.t.length c5) := hk2.cell 4
  have g4 := hk2.frozen 4
  have gl := hk2.lt
  go_wp2_with fail
  refine (HK.out _ hxE hyE hrE).mono ?_
  rintro _ w1 ⟨rfl, hb1⟩
  clear q0 q1 q2 q3 f0 f1 f2 f3 fl
  clear p0 p1 p2 p3 p4 g0 g1 g2 g3 g4 gl
  have hB1 := bstep hbE hb1
  replace hk1 := hk1.keep hb1
  replace hk2 := hk2.keep hb1
  replace hrE := hrE.keep hb1
  have q0 : World.cell? w1 ⟨w.heap.size, 0, none⟩ = some (.slice X xs.length cx) := hk1.cell 0
  have f0 := hk1.frozen 0
  have q1 : World.cell? w1 ⟨w.heap.size, 1, none⟩ = some (.slice Y ys.length cy) := hk1.cell 1
  have f1 := hk1.frozen 1
  have q2 : World.cell? w1 ⟨w.heap.size, 2, none⟩ = some (.int .i64 (M : Int)) := hk1.cell 2
  have f2 := hk1.frozen 2
  have q3 : World.cell? w1 ⟨w.heap.size, 3, none⟩ = some (.int .i64 (S : Int)) := hk1.cell 3
  have f3 := hk1.frozen 3
  have fl := hk1.lt
  have p0 : World.cell? w1 ⟨(w.heap.size + 1), 0, none⟩ = some (.slice S1 r.a.s.length c1) := hk2.cell 0
  have g0 := hk2.frozen 0
  have p1 : World.cell? w1 ⟨(w.heap.size + 1), 1, none⟩ = some (.slice N1 r.a.n.length c2) := hk2.cell 1
  have g1 := hk2.frozen 1
  have p2 : World.cell? w1 ⟨(w.heap.size + 1), 2, none⟩ = some (.slice G1 r.a.g.length c3) := hk2.cell 2
  have g2 := hk2.frozen 2
  have p3 : World.cell? w1 ⟨(w.heap.size + 1), 3, none⟩ = some (.slice D r.d.length c4) := hk2.cell 3
  have g3 := hk2.frozen 3
  have p4 : World.cell? w1 ⟨(w.heap.size + 1), 4, none⟩ = some (.slice T r.t.length c5) := hk2.cell 4
  have g4 := hk2.frozen 4
  have gl := hk2.lt
  go_wp2
  go_loopg [23] r.d.length (fun gk i wr => ∃ k : Nat, k + gk = r.d.length ∧ i = .int .i64 k ∧ w1 = wr ∧ Hid (∀ j, j < k → r.d.getD j false = true))
  case atStart => exact ⟨0, by omega, rfl, rfl, Lib.hid (by intro j hj; omega)⟩
  case round =>
   obtain ⟨k, hk, rfl, rfl, hall⟩ := hrel
   have hk' : k ≤ r.d.length := by omega
   have HK2 := Lib.hid hk
   clear hk HK
   by_cases hlt : k < r.d.length
   ·obtain ⟨bd, od, hDe, hdl, hdc⟩ := hrE.d (by omega)
    have hdk := hdc k hlt
    have HNX := Lib.hid (fun h => all_lt_succ (p := fun j => r.d.getD j false = true) hall.out h)
    have HNO := Lib.hid (fun h => HR22.out (all_no hlt h))
    clear hdc
    subst hDe
    generalize r.d.getD k false = x at *
    cases x
    ·have HRR := Lib.hid (HNO.out (by trivial))
     go_wp2
     go_ret2
     exact RetQ.nil HRR.out hB1
    ·have HX := Lib.hid (HNX.out (by trivial))
     go_wp2
     go_roundg (gk - 1)
     case rel => exact ⟨k + 1, by have := HK2.out; omega, by go_num, rfl, HX⟩
     case measure => have := HK2.out; omega
   ·have hat := all_yes (d := r.d) (fun j hj => hall.out j (by omega))
    have HRES := Lib.hid (HR0.out hat)
    have f1 : IntKind.i64.wrap (2 * (M : Int)) = 2 * (M : Int) := IntWalk.i64_in _ (by omega)
    have f2 : IntKind.i64.wrap (2 * (M : Int) + 1) = 2 * (M : Int) + 1 := IntWalk.i64_in _ (by omega)
    have f3 : IntKind.i64.wrap (-(M : Int)) = -(M : Int) := IntWalk.i64_in _ (by omega)
    clear hall HR0 HR22 hat HK2
    go_wp2
    go_loopg [9, 10] (2 * M + 1) (fun gk v i wr => ∃ k : Nat, k + gk = 2 * M + 1 ∧ i = .int .i64 ((k : Int) - (M : Int)) ∧ wr.ownsRow w1.heap.size 61 2 v k ((fullL F k).flatMap encP) ∧ Below w1.heap.size w1 wr)
    case atStart => exact ⟨0, by omega, by simp, own_cap (Blk.new _ _ _) (Nat.le_refl _) (by omega), balloc (Below.refl _ _) _⟩
    case round =>
     obtain ⟨k, hk, rfl, hO, hb⟩ := hrel
     have hk' : k ≤ 2 * M + 1 := by omega
     have HK2 := Lib.hid hk
     clear hk hmk
     have hkJ := hk1.keep hb
     have hkW := hk2.keep hb
     have hrr := hrE.keep hb
     have hsz := hb.size
     clear q0 q1 q2 q3 f0 f1 f2 f3 fl
     clear p0 p1 p2 p3 p4 g0 g1 g2 g3 g4 gl
     have q0 : World.cell? wr ⟨w.heap.size, 0, none⟩ = some (.slice X xs.length cx) := hkJ.cell 0
     have f0 := hkJ.frozen 0
     have q1 : World.cell? wr ⟨w.heap.size, 1, none⟩ = some (.slice Y ys.length cy) := hkJ.cell 1
     have f1 := hkJ.frozen 1
     have q2 : World.cell? wr ⟨w.heap.size, 2, none⟩ = some (.int .i64 (M : Int)) := hkJ.cell 2
     have f2 := hkJ.frozen 2
     have q3 : World.cell? wr ⟨w.heap.size, 3, none⟩ = some (.int .i64 (S : Int)) := hkJ.cell 3
     have f3 := hkJ.frozen 3
     have fl := hkJ.lt
     have p0 : World.cell? wr ⟨(w.heap.size + 1), 0, none⟩ = some (.slice S1 r.a.s.length c1) := hkW.cell 0
     have g0 := hkW.frozen 0
     have p1 : World.cell? wr ⟨(w.heap.size + 1), 1, none⟩ = some (.slice N1 r.a.n.length c2) := hkW.cell 1
     have g1 := hkW.frozen 1
     have p2 : World.cell? wr ⟨(w.heap.size + 1), 2, none⟩ = some (.slice G1 r.a.g.length c3) := hkW.cell 2
     have g2 := hkW.frozen 2
     have p3 : World.cell? wr ⟨(w.heap.size + 1), 3, none⟩ = some (.slice D r.d.length c4) := hkW.cell 3
     have g3 := hkW.frozen 3
     have p4 : World.cell? wr ⟨(w.heap.size + 1), 4, none⟩ = some (.slice T r.t.length c5) := hkW.cell 4
     have g4 := hkW.frozen 4
     have gl := hkW.lt
     by_cases hlt : k < 2 * M + 1
     ·have HVk := Lib.hid (HV.out k hlt)
      rw [HVS.out k hlt] at HVk
      have hS := HSUC.out k
      have HS := Lib.hid hS
      clear hS HV HVS
      have d1 : decide ((k : Int) - (M : Int) ≤ (M : Int)) = true := decide_eq_true (by omega)
      have f4 : IntKind.i64.wrap ((k : Int) - (M : Int) + 1) = ((k + 1 : Nat) : Int) - (M : Int) := by rw [IntWalk.i64_in _ (by omega)]; omega
      have f5 : (k : Int) - (M : Int) + 1 = ((k + 1 : Nat) : Int) - (M : Int) := by omega
      have F5 := Lib.hid f5
      clear f5
      generalize hI : (k : Int) - (M : Int) = I at *
      generalize F k = fk at *
      go_wp2_with fail
      refine (HVk.out _ hrr.a).mono ?_
      rintro _ w3 ⟨rfl, hb3⟩
      have hO3 := own_keep hO hb3
      go_wp2_with (at_builtin; refine wpList_append_lies _ rfl (.tmp 55) (.tmp 59) 28 rfl w1.heap.size 61 i0 _ 2 16 Tryz.underlying28 hi0 hz0 hz1 hz2 rfl (by omega) _ k _ rfl (hO3.alloc _) ⟨w3.heap.size, 0, none⟩ 1 1 (encP fk) rfl rfl (encP_news w3 _ _) (encP_one _) (by omega) (by unfold maxLen; omega) (by omega) (by have := hb3.size; simp; omega) (w3.heap.size + 1) (by simp) ?_; intro g4 c4' w4 hown4 hgrow4 hat4 hlt4)
      have hB4 := own_below (balloc (bstep hb hb3) (.cells #[.int .i64 fk.1, .int .i64 fk.2] 61)) (hO3.alloc _) hgrow4 (Nat.le_refl _) (by have := hb3.size; simp; omega)
      go_roundg (gk - 1)
      case rel => exact ⟨k + 1, by have := HK2.out; omega, by first | rw [F5.out] | (rw [← hI] at *; go_num), by rw [HS.out, flat_snoc]; exact hown4, hB4⟩
      case measure => have := HK2.out; omega
     ·obtain rfl : k = 2 * M + 1 := by omega
      have d1 : decide (((2 * M + 1 : Nat) : Int) - (M : Int) ≤ (M : Int)) = false := decide_eq_false (by omega)
      obtain ⟨A1, k1, rfl, _⟩ := own_shape' hO
      go_wp2
      go_ret2
      rw [HRES.out]
      exact ⟨A1, k1, by rw [HFL.out]; rfl, by rw [HFL.out]; exact hO.mono hB1.size, bstep hB1 hb⟩
 ·have e1 : (stateErr xs ys m s r != 0) = true := by simp [he]
  have HR : Hid (resS xs ys m s r = ([], stateErr xs ys m s r)) := Lib.hid (by unfold resS; rw [if_pos he])
  obtain ⟨wE, hwE⟩ : ∃ wE, wE = (w.alloc (.cells #[.slice X xs.length cx, .slice Y ys.length cy, .int .i64 m, .int .i64 s] 26)).alloc (.cells #[.slice S1 r.a.s.length c1, .slice N1 r.a.n.length c2, .slice G1 r.a.g.length c3, .slice D r.d.length c4, .slice T r.t.length c5] 40) := ⟨_, rfl⟩
  have hk1 : Blk wE w.heap.size 26 #[.slice X xs.length cx, .slice Y ys.length cy, .int .i64 m, .int .i64 s] := by rw [hwE]; exact (Blk.new _ _ _).alloc _
  have hk2 : Blk wE (w.heap.size + 1) 40 #[.slice S1 r.a.s.length c1, .slice N1 r.a.n.length c2, .slice G1 r.a.g.length c3, .slice D r.d.length c4, .slice T r.t.length c5] := by rw [hwE]; exact Blk.newAt _ _ (by simp)
  have hbE : Below w.heap.size w wE := by rw [hwE]; exact balloc (balloc (Below.refl _ _) _) _
  have hsE : wE.heap.size = w.heap.size + 2 := by rw [hwE]; simp
  have hxE := hx.keep hbE
  have hyE := hy.keep hbE
  have hrE := hr.keep hbE
  clear he
  generalize stateErr xs ys m s r = E at *
  go_enter Tryz.func12, Tryz.ntmps12
  go_wp2_with fail
  rw [← hwE]
  clear hwE
  have q0 : World.cell? wE ⟨w.heap.size, 0, none⟩ = some (.slice X xs.length cx) := hk1.cell 0
  have f0 := hk1.frozen 0
  have q1 : World.cell? wE ⟨w.heap.size, 1, none⟩ = some (.slice Y ys.length cy) := hk1.cell 1
  have f1 := hk1.frozen 1
  have q2 : World.cell? wE ⟨w.heap.size, 2, none⟩ = some (.int .i64 m) := hk1.cell 2
  have f2 := hk1.frozen 2
  have q3 : World.cell? wE ⟨w.heap.size, 3, none⟩ = some (.int .i64 s) := hk1.cell 3
  have f3 := hk1.frozen 3
  have fl := hk1.lt
  have p0 : World.cell? wE ⟨(w.heap.size + 1), 0, none⟩ = some (.slice S1 r.a.s.length c1) := hk2.cell 0
  have g0 := hk2.frozen 0
  have p1 : World.cell? wE ⟨(w.heap.size + 1), 1, none⟩ = some (.slice N1 r.a.n.length c2) := hk2.cell 1
  have g1 := hk2.frozen 1
  have p2 : World.cell? wE ⟨(w.heap.size + 1), 2, none⟩ = some (.slice G1 r.a.g.length c3) := hk2.cell 2
  have g2 := hk2.frozen 2
  have p3 : World.cell? wE ⟨(w.heap.size + 1), 3, none⟩ = some (.slice D r.d.length c4) := hk2.cell 3
  have g3 := hk2.frozen 3
  have p4 : World.cell? wE ⟨(w.heap.size + 1), 4, none⟩ = some (.slice T r.t.length c5) := hk2.cell 4
  have g4 := hk2.frozen 4
  have gl := hk2.lt
  go_wp2_with fail
  refine (HK.out _ hxE hyE hrE).mono ?_
  rintro _ w1 ⟨rfl, hb1⟩
  clear q0 q1 q2 q3 f0 f1 f2 f3 fl
  clear p0 p1 p2 p3 p4 g0 g1 g2 g3 g4 gl
  have hB1 := bstep hbE hb1
  go_wp2
  go_ret2
  exact RetQ.nil HR.out hB1
end Wk
end Go.Proofs.YtelkokcnedbmeaaGreat
namespace Go.Proofs.YtelkokcnedbmeaaGreat
open Go.RowKit Runs Lagc Reg
set_option maxRecDepth 20000
set_option linter.unusedVariables false
set_option linter.unusedSimpArgs false
namespace Wk
open Lagw
theorem stateErr_work {xs ys : List Int} {M S : Nat} (hj : Job xs ys M S) {st : List Bool × List Int} (hG : Good19 (cdiv xs.length S) st.1 st.2) : stateErr xs ys M S (workS xs ys M S st) = 0 := by
 have he : jobErr xs ys M S = 0 := jobErr_ok hj.x hj.y (by rw [Int.toNat_natCast]; have := hj.m; have := hj.s; have := hj.s2; have := hj.c; omega)
 refine stateErr_ok he ?_
 unfold stateB workS
 simp only [Bool.and_eq_true, decide_eq_true_eq]
 refine ⟨⟨⟨hG.d, hG.t0, hG.t6⟩, ?_⟩, sameB_iff.2 rfl⟩
 rw [atB, List.all_eq_true]
 intro x hx
 rw [decide_eq_true_eq]
 exact hG.at_ x hx
def sumsF (xs ys : List Int) (M S : Nat) (d : List Bool) (k : Nat) : Int × Int := (sumD (fun b => ((lagB xs ys M S b).getD k (0, 0)).1) d 0, sumD (fun b => ((lagB xs ys M S b).getD k (0, 0)).2) d 0)
theorem res_work {xs ys : List Int} {M S : Nat} (hj : Job xs ys M S) {st : List Bool × List Int} (hG : Good19 (cdiv xs.length S) st.1 st.2) : resS xs ys M S (workS xs ys M S st) = if st.1.all id = true then (fullL (sumsF xs ys M S st.1) (2 * M + 1), 0) else ([], 22) := by
 unfold resS
 rw [if_neg (by rw [stateErr_work hj hG]; simp), Int.toNat_natCast]
 have hI := sumA_is hj hG.d
 have e : fullL (cellF (workS xs ys M S st).a) (2 * M + 1) = fullL (sumsF xs ys M S st.1) (2 * M + 1) := fullL_congr fun k hk => by
  show (val ((sumA xs ys M S st.1).s.getD k (0, 0)), val ((sumA xs ys M S st.1).n.getD k (0, 0))) = _
  rw [hI.vs k hk, hI.vn k hk]
  rfl
 rw [e]
 rfl
theorem work_small {xs ys : List Int} {M S : Nat} (hj : Job xs ys M S) {st : List Bool × List Int} (hG : Good19 (cdiv xs.length S) st.1 st.2) : (workS xs ys M S st).a.s.length ≤ 511 ∧ (workS xs ys M S st).a.n.length ≤ 511 ∧ (workS xs ys M S st).a.g.length ≤ 64 ∧ (workS xs ys M S st).d.length ≤ 64 ∧ (workS xs ys M S st).t.length ≤ 6 := by
 have hf := (sumA_is hj hG.d).fine
 have h1 := hf.ls
 have h2 := hf.ln
 have h3 := hf.lg
 have h4 := hj.c
 have h5 := hG.d
 have h6 := hG.t6
 show (sumA xs ys M S st.1).s.length ≤ 511 ∧ (sumA xs ys M S st.1).n.length ≤ 511 ∧ (sumA xs ys M S st.1).g.length ≤ 64 ∧ st.1.length ≤ 64 ∧ st.2.length ≤ 6
 omega
end Wk
end Go.Proofs.YtelkokcnedbmeaaGreat
namespace Go.Proofs.YtelkokcnedbmeaaGreat
open Go.RowKit Runs Lagc Reg
set_option maxRecDepth 20000
set_option linter.unusedVariables false
set_option linter.unusedSimpArgs false
namespace Wk
open Lagw
def preF (xs : List Int) (S b k : Nat) : Int := if k / S < b then xs.getD k 0 else 0
def preL (xs : List Int) (S b : Nat) : List Int := fullL (preF xs S b) xs.length
theorem preL_len (xs : List Int) (S b : Nat) : (preL xs S b).length = xs.length := fullL_len _ _
theorem preL_all {xs : List Int} {S b : Nat} (hS : 1 ≤ S) (hb : cdiv xs.length S ≤ b) : preL xs S b = xs := by
 refine List.ext_getElem (preL_len _ _ _) fun k h1 h2 => ?_
 have e : (preL xs S b)[k] = preF xs S b k := by
  have := fullL_getD (preF xs S b) xs.length k 0 h2
  rw [List.getD_eq_getElem?_getD, List.getElem?_eq_getElem (by rw [fullL_len]; exact h2)] at this
  exact this
 rw [e]
 unfold preF
 have hk : k / S < b := by
  rcases Nat.lt_or_ge (k / S) b with h3 | h3
  ·exact h3
  ·exfalso
   have h4 : ¬ k / S < cdiv xs.length S := by omega
   rw [cdiv_lt hS] at h4
   have := Nat.div_mul_le_self k S
   omega
 rw [if_pos hk, getD_lt _ _ h2]
theorem pre_at {xs : List Int} {S b i : Nat} (hi : i < xs.length) : (preL xs S b).getD i 0 = preF xs S b i := fullL_getD _ _ _ _ hi
theorem own_at' {xs : List Int} {S b i : Nat} (hi : i < xs.length) : (ownL xs S b).getD i 0 = ownF xs S b i := fullL_getD _ _ _ _ hi
theorem pre_own (xs : List Int) (S b i : Nat) : (preF xs S (b + 1) i = preF xs S b i + ownF xs S b i) ∧ (nz (preF xs S (b + 1) i) = nz (preF xs S b i) + nz (ownF xs S b i)) := by
 unfold preF ownF
 by_cases h1 : i / S < b
 ·rw [if_pos (show i / S < b + 1 by omega), if_pos h1, if_neg (by omega)]
  simp [nz]
 ·by_cases h2 : i / S = b
  ·rw [if_pos (show i / S < b + 1 by omega), if_neg h1, if_pos h2]
   simp [nz]
  ·rw [if_neg (show ¬ i / S < b + 1 by omega), if_neg h1, if_neg h2]
   simp [nz]
theorem cells_pre {xs ys : List Int} {M S b k : Nat} (hk : k < 2 * M + 1) :
 (lagCells (preL xs S (b + 1)) ys M).getD k (0, 0) = (((lagCells (preL xs S b) ys M).getD k (0, 0)).1 + ((lagB xs ys M S b).getD k (0, 0)).1, ((lagCells (preL xs S b) ys M).getD k (0, 0)).2 + ((lagB xs ys M S b).getD k (0, 0)).2) := by
 unfold lagB
 rw [lagCells_at hk, lagCells_at hk, lagCells_at hk, preL_len, preL_len, ownL_len]
 have key : ∀ (f g h : Nat → Nat → Int), (∀ i k, i < xs.length → f i k = g i k + h i k) → ∀ d, pairSum f xs.length ys.length d = pairSum g xs.length ys.length d + pairSum h xs.length ys.length d := by
  intro f g h hfg d
  unfold pairSum
  rw [← sumR_add]
  refine sumR_congr fun i hi => ?_
  rw [← sumR_add]
  refine sumR_congr fun k _ => ?_
  rw [hfg i k hi]
  split <;> omega
 refine Prod.ext (key _ _ _ (fun i k hi => ?_) _) (key _ _ _ (fun i k hi => ?_) _)
 ·unfold prodF
  rw [pre_at hi, pre_at hi, own_at' hi, (pre_own xs S b i).1, Int.add_mul]
 ·unfold cntF
  rw [pre_at hi, pre_at hi, own_at' hi, (pre_own xs S b i).2, Int.add_mul]
theorem cells_zero (xs ys : List Int) (M S : Nat) : lagCells (preL xs S 0) ys M = List.replicate (2 * M + 1) (0, 0) := by
 refine List.ext_getElem (by rw [lagCells_len, List.length_replicate]) fun k h1 h2 => ?_
 rw [lagCells_len] at h1
 have e := lagCells_at (xs := preL xs S 0) (ys := ys) h1
 rw [getD_lt _ _ (by rw [lagCells_len]; exact h1)] at e
 rw [e, List.getElem_replicate]
 have hz : ∀ i, (preL xs S 0).getD i 0 = 0 := by
  intro i
  by_cases hi : i < xs.length
  ·rw [pre_at hi]; unfold preF; rw [if_neg (Nat.not_lt_zero _)]
  ·rw [List.getD_eq_getElem?_getD, List.getElem?_eq_none (by rw [preL_len]; omega)]; rfl
 have key : ∀ (f : Nat → Nat → Int), (∀ i k, f i k = 0) → ∀ n m d, pairSum f n m d = 0 := by
  intro f hf n m d
  unfold pairSum
  refine sumR_zero fun i _ => sumR_zero fun k _ => ?_
  rw [hf]; simp
 refine Prod.ext (key _ (fun i k => ?_) _ _ _) (key _ (fun i k => ?_) _ _ _)
 ·unfold prodF; rw [hz]; simp
 ·unfold cntF; rw [hz]; simp [nz]
theorem sums_all {xs ys : List Int} {M S : Nat} (hj : Job xs ys M S) : fullL (sumsF xs ys M S (List.replicate (cdiv xs.length S) true)) (2 * M + 1) = lagCells xs ys M := by
 have key : ∀ b k, k < 2 * M + 1 → (sumR (fun b => ((lagB xs ys M S b).getD k (0, 0)).1) b, sumR (fun b => ((lagB xs ys M S b).getD k (0, 0)).2) b) = (lagCells (preL xs S b) ys M).getD k (0, 0) := by
  intro b
  induction b with
  | zero =>
   intro k hk
   rw [cells_zero, List.getD_eq_getElem?_getD, List.getElem?_replicate, if_pos hk]
   rfl
  | succ b ih =>
   intro k hk
   rw [sumR_succ, sumR_succ, cells_pre hk, ← ih k hk]
 refine List.ext_getElem (by rw [fullL_len, lagCells_len]) fun k h1 h2 => ?_
 rw [lagCells_len] at h2
 have e1 := fullL_getD (sumsF xs ys M S (List.replicate (cdiv xs.length S) true)) (2 * M + 1) k (0, 0) h2
 rw [getD_lt _ _ (by rw [fullL_len]; exact h2)] at e1
 rw [e1]
 unfold sumsF
 rw [sumD_all, sumD_all]
 have e2 := key (cdiv xs.length S) k h2
 rw [preL_all hj.s (Nat.le_refl _), getD_lt _ _ (by rw [lagCells_len]; exact h2)] at e2
 simp only [Nat.zero_add]
 exact e2
end Wk
end Go.Proofs.YtelkokcnedbmeaaGreat
namespace Go.Proofs.YtelkokcnedbmeaaGreat
open Go.ChangeShapes Go.WideShapes Go.ChangeAt Go.RowKit Go.Deep
set_option maxRecDepth 20000
set_option linter.unusedVariables false
set_option linter.unusedSimpArgs false
namespace Wk
section
variable {H : Type} {enc : TypeId × Value → H} {P : Program} {W : World} {base : Nat} {spare : Nat → Bool} {held : Bool}
theorem open_triples {t e : TypeId} {f0 f1 f2 : Field} {k0 : IntKind} {fuel : Nat} {cs : List Value} {x : DataW H × List MemPlace} (ht : P.underlying t = some (.slice e)) (he : P.underlying e = some (.struct #[f0, f1, f2]))
 (ce : P.cellsOf e = 3) (o0 : f0.offset = 0) (o1 : f1.offset = 1) (o2 : f2.offset = 2) (t0 : P.underlying f0.type = some (.int k0)) (t1 : P.underlying f1.type = some (.int .i64)) (t2 : P.underlying f2.type = some (.int .i64)) (c0 : P.cellsOf f0.type = 1) (c1 : P.cellsOf f1.type = 1) (c2 : P.cellsOf f2.type = 1)
 (h : DataW.trod enc P W base spare held fuel t cs = some x) :
 (cs = [.slice none 0 0]) ∨ ∃ (a : Addr) (len cap : Nat) (F : Nat → Int × Int × Int), cs = [.slice (some a) len cap] ∧ len ≤ cap ∧ cap ≤ maxLen ∧
   ∀ i, i < len → W.cell? (a.add (i * 3)) = some (.int k0 (F i).1) ∧ W.cell? (a.add (i * 3 + 1)) = some (.int .i64 (F i).2.1) ∧ W.cell? (a.add (i * 3 + 2)) = some (.int .i64 (F i).2.2) ∧ (Lit.int k0 (F i).1).wf = true ∧ (Lit.int .i64 (F i).2.1).wf = true ∧ (Lit.int .i64 (F i).2.2).wf = true := by
 rcases open_slice ht h with ⟨h0, _⟩ | ⟨a, len, cap, m, n, D, Pl, rfl, hb, hl, hm, hmm, rfl, hx⟩
 ·exact Or.inl h0
 right
 have hlm : len ≤ m := by rw [hmm]; split <;> omega
 have each : ∀ i, i < len → ∃ q : Int × Int × Int, W.cell? (a.add (i * 3)) = some (.int k0 q.1) ∧ W.cell? (a.add (i * 3 + 1)) = some (.int .i64 q.2.1) ∧ W.cell? (a.add (i * 3 + 2)) = some (.int .i64 q.2.2) ∧ (Lit.int k0 q.1).wf = true ∧ (Lit.int .i64 q.2.1).wf = true ∧ (Lit.int .i64 q.2.2).wf = true := by
  intro i hi
  obtain ⟨cs', h1, h2⟩ := hx i (by omega)
  rw [ce] at h1
  obtain ⟨_, hlen, hcell⟩ := World.cells?_some h1
  obtain ⟨y0, y1, y2, n', _, hcl, g0, g1, g2⟩ := trod_struct3 he h2
  match cs', hlen with
  | [v0, v1, v2], _ =>
   simp [o0, o1, o2, c0, c1, c2] at g0 g1 g2
   have e0 := hcell 0 (by omega)
   have e1 := hcell 1 (by omega)
   have e2 := hcell 2 (by omega)
   rw [add_add] at e0 e1 e2
   obtain ⟨z0, q0, _, w0⟩ := DataW.trod_int t0 g0
   obtain ⟨z1, q1, _, w1⟩ := DataW.trod_int t1 g1
   obtain ⟨z2, q2, _, w2⟩ := DataW.trod_int t2 g2
   simp at q0 q1 q2
   subst q0 q1 q2
   exact ⟨(z0, z1, z2), by simpa using e0, by simpa using e1, by simpa using e2, w0, w1, w2⟩
 obtain ⟨F, hF⟩ := choose_lt each
 exact ⟨a, len, cap, F, rfl, hl, hm, hF⟩
end
structure InE (W : World) (A : Option Addr) (c : Nat) (l : List Ev) : Prop where
 r : RE W A l
 cp : l.length ≤ c
 len : l.length ≤ 9223372036854775807
 rg : ∀ e ∈ l, (0 ≤ e.k ∧ e.k ≤ 255) ∧ (-9223372036854775808 ≤ e.w ∧ e.w ≤ 9223372036854775807) ∧ (-9223372036854775808 ≤ e.b ∧ e.b ≤ 9223372036854775807)
theorem wf_u8 {n : Int} (h : (Lit.int .u8 n).wf = true) : 0 ≤ n ∧ n ≤ 255 := bounds_u8 h
set_option maxRecDepth 100000 in
theorem open_events {H : Type} {enc : TypeId × Value → H} {W : World} {base : Nat} {spare : Nat → Bool} {held : Bool} {a : Option Addr} {len cap : Nat} {d : DataW H} {p : List MemPlace}
 (h : DataW.Trod enc Tryz.prog W base spare held 23 (.slice a len cap) d p) : ∃ l : List Ev, len = l.length ∧ InE W a cap l := by
 obtain ⟨fuel, hf⟩ := h
 rcases open_triples (k0 := .u8) Tryz.underlying23 Tryz.underlying70 (by kernel_rfl) rfl rfl rfl Tryz.underlying5 Tryz.underlying3 Tryz.underlying3 (by kernel_rfl) (by kernel_rfl) (by kernel_rfl) hf with hcs | ⟨x, len', cap', F, hcs, hl, hm, hi⟩
 ·simp [Value.cells] at hcs
  obtain ⟨rfl, rfl, rfl⟩ := hcs
  exact ⟨[], rfl, fun h => absurd h (by simp), by simp, by simp, by simp⟩
 ·simp [Value.cells] at hcs
  obtain ⟨rfl, rfl, rfl⟩ := hcs
  have hlen : ((List.range len).map fun i => (⟨(F i).1, (F i).2.1, (F i).2.2⟩ : Ev)).length = len := by simp
  refine ⟨(List.range len).map fun i => ⟨(F i).1, (F i).2.1, (F i).2.2⟩, hlen.symm, ?_, by rw [hlen]; exact hl, by rw [hlen]; unfold maxLen at hm; omega, ?_⟩
  ·intro h0
   rw [hlen] at h0
   obtain ⟨b, off, rfl, hb⟩ := addr_plain (by simpa using (hi 0 (by omega)).1)
   refine ⟨b, off, rfl, hb, fun j hj => ?_⟩
   rw [hlen] at hj
   obtain ⟨h1, h2, h3, _⟩ := hi j hj
   rw [add_plain] at h1 h2 h3
   simp only [List.getElem_map, List.getElem_range]
   exact ⟨h1, by rw [← Nat.add_assoc] at h2; exact h2, by rw [← Nat.add_assoc] at h3; exact h3⟩
  ·intro y hy
   obtain ⟨i, h1, rfl⟩ := List.mem_map.1 hy
   obtain ⟨_, _, _, w0, w1, w2⟩ := hi i (by simpa using h1)
   exact ⟨wf_u8 w0, wf_rng w1, wf_rng w2⟩
end Wk
end Go.Proofs.YtelkokcnedbmeaaGreat
namespace Go.Proofs.YtelkokcnedbmeaaGreat
open Go.RowKit Runs Lagc Reg
set_option maxRecDepth 20000
set_option linter.unusedVariables false
set_option linter.unusedSimpArgs false
namespace Wk
open Lagw
theorem runL_facts {C : Nat} : ∀ (l : List Ev) (s : List Bool × List Int) (k : Nat), Good19 C s.1 s.2 → Good19 C (runL s l k).1.1.1 (runL s l k).1.1.2 ∧ (runL s l k).1.1.2.length = s.2.length ∧ (runL s l k).1.2 ≤ k + l.length ∧ ((runL s l k).2 = 0 ↔ (runL s l k).1.2 = k + l.length) := by
 intro l
 induction l with
 | nil => intro s k h; exact ⟨h, rfl, Nat.le_refl _, by simp [runL]⟩
 | cons e l ih =>
  intro s k h
  by_cases h0 : (stepS s.1 s.2 e).2 = 0
  ·have hs : runL s (e :: l) k = runL (stepS s.1 s.2 e).1 l (k + 1) := by rw [runL, if_neg (by simp [h0])]
   obtain ⟨h1, h2⟩ := step_good h h0
   obtain ⟨i1, i2, i3, i4⟩ := ih (stepS s.1 s.2 e).1 (k + 1) h1
   rw [hs]
   refine ⟨i1, i2.trans h2, by rw [List.length_cons]; omega, ?_⟩
   rw [i4, List.length_cons]
   omega
  ·have hs : runL s (e :: l) k = ((s, k), (stepS s.1 s.2 e).2) := by rw [runL, if_pos h0]
   rw [hs]
   refine ⟨h, rfl, by simp only [List.length_cons]; omega, ?_⟩
   simp only [List.length_cons]
   constructor
   ·intro h1; exact absurd h1 h0
   ·intro h1; omega
theorem run_facts {xs ys : List Int} {M S N : Nat} {l : List Ev} (hj : Job xs ys M S) (h1 : 1 ≤ N) (h6 : N ≤ 6) (hl : l.length ≤ 400) :
 ∃ (d : List Bool) (t : List Int) (k : Nat) (e : Int), runS xs ys M S N l = ((workS xs ys M S (d, t), (k : Int)), e) ∧ runL (start19 (cdiv xs.length S) N) l 0 = (((d, t), k), e) ∧ Good19 (cdiv xs.length S) d t ∧ t.length = N ∧ k ≤ l.length ∧ (e = 0 ↔ k = l.length) := by
 have he : jobErr xs ys M S = 0 := jobErr_ok hj.x hj.y (by rw [Int.toNat_natCast]; have := hj.m; have := hj.s; have := hj.s2; have := hj.c; omega)
 obtain ⟨i1, i2, i3, i4⟩ := runL_facts l (start19 (cdiv xs.length S) N) 0 (start_good h1 h6)
 generalize hr : runL (start19 (cdiv xs.length S) N) l 0 = r at *
 obtain ⟨⟨⟨d, t⟩, k⟩, e⟩ := r
 refine ⟨d, t, k, e, ?_, rfl, i1, by rw [i2]; simp [start19], by simpa using i3, by simpa using i4⟩
 unfold runS
 rw [if_neg (by rw [openS_ok he (by omega)]; simp), if_neg (by omega)]
 simp only [Int.toNat_natCast]
 rw [hr]
theorem all_true {d : List Bool} (h : d.all id = true) : d = List.replicate d.length true := by
 refine List.ext_getElem (by simp) fun k h1 h2 => ?_
 rw [List.getElem_replicate]
 exact List.all_eq_true.1 h _ (List.getElem_mem h1)
end Wk
end Go.Proofs.YtelkokcnedbmeaaGreat
