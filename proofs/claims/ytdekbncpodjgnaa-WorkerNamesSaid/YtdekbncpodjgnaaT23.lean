/-
  Parts of the proof of WorkerNames: AccP WkR.
-/
import Derived.Test.YtdekbncpodjgnaaT12
import Derived.Test.YtdekbncpodjgnaaT21
namespace Go.Proofs.Ytdekbncpodjgnaa
open Go.RowKit Runs Lagc
set_option linter.unusedVariables false
set_option linter.unusedSimpArgs false
def valP (w : World) (r : (Int × Int) × Int) (e : Ending) (w' : World) : Prop := e = .returned (.tuple #[.int .i64 r.1.1, .int .i64 r.1.2, .int .i64 r.2]) ∧ Below w.heap.size w w'
theorem valS_e {a : Acc} {lag : Int} (h : accErr a ≠ 0) : valS a lag = ((0, 0), accErr a) := by unfold valS; rw [if_pos h]
theorem valS_2 {a : Acc} {lag : Int} (h : accErr a = 0) (h2 : lag < -((a.s.length / 2 : Nat) : Int) ∨ ((a.s.length / 2 : Nat) : Int) < lag) : valS a lag = ((0, 0), 2) := by unfold valS; rw [if_neg (by simpa using h), if_pos h2]
theorem valS_0 {a : Acc} {lag : Int} {I : Nat} (h : accErr a = 0) (h2 : ¬ (lag < -((a.s.length / 2 : Nat) : Int) ∨ ((a.s.length / 2 : Nat) : Int) < lag)) (hI : lag + ((a.s.length / 2 : Nat) : Int) = (I : Int)) : valS a lag = ((val (a.s.getD I (0, 0)), val (a.n.getD I (0, 0))), 0) := by
 unfold valS; rw [if_neg (by simpa using h), if_neg h2, hI, Int.toNat_natCast]
set_option maxRecDepth 20000 in
set_option maxHeartbeats 1000000 in
theorem accValue_any (S N G : Option Addr) (c1 c2 c3 : Nat) (a : Acc) (lag : Int) (w : World) (hx : RA w S N G a) (l1 : a.s.length ≤ 140737488355328) (l2 : a.n.length ≤ 140737488355328) (l3 : a.g.length ≤ 140737488355328) (hlag : -9223372036854775808 ≤ lag ∧ lag ≤ 9223372036854775807) :
 Calls Try.prog 53 #[.agg #[.slice S a.s.length c1, .slice N a.n.length c2, .slice G a.g.length c3], .int .i64 lag] w (valP w (valS a lag)) := by
 have hb0 : Below w.heap.size w (w.alloc (.cells #[.slice S a.s.length c1, .slice N a.n.length c2, .slice G a.g.length c3] 39)) := balloc (Below.refl _ _) _
 have hk := Blk.new w 39 #[.slice S a.s.length c1, .slice N a.n.length c2, .slice G a.g.length c3]
 have HCA := fun w hx => accCheck_any S N G c1 c2 c3 a w hx l1 l2 l3
 by_cases ea : accErr a = 0
 ·have fa := acc_fine.1 ea
  have hls := fa.ls
  have hln := fa.ln
  rw [ea] at HCA
  by_cases h1 : lag < -((a.s.length / 2 : Nat) : Int)
  ·have HR := Lib.hid (valS_2 ea (.inl h1))
   clear ea fa hln
   have h1' : lag < -((a.s.length : Int) / 2) := by omega
   go_enter Try.func53, Try.ntmps53
   go_wp2_with fail
   refine (HCA _ (hx.keep hb0)).mono ?_
   rintro _ w1 ⟨rfl, hb1⟩
   have hkW := hk.keep hb1
   have q0 : World.cell? w1 ⟨w.heap.size, 0, none⟩ = some (.slice S a.s.length c1) := hkW.cell 0
   have f0 := hkW.frozen 0
   have q1 : World.cell? w1 ⟨w.heap.size, 1, none⟩ = some (.slice N a.n.length c2) := hkW.cell 1
   have f1 := hkW.frozen 1
   have q2 : World.cell? w1 ⟨w.heap.size, 2, none⟩ = some (.slice G a.g.length c3) := hkW.cell 2
   have f2 := hkW.frozen 2
   have fl := hkW.lt
   go_wp2
   refine bodyPost_ret (v := .tuple #[.int .i64 0, .int .i64 0, .int .i64 2]) (by simp [results, Try.results53, go_sem]) rfl ?_
   rw [HR.out]
   exact ⟨rfl, bstep hb0 hb1⟩
  by_cases h2 : ((a.s.length / 2 : Nat) : Int) < lag
  ·have HR := Lib.hid (valS_2 ea (.inr h2))
   clear ea fa hln
   have h1' : ¬ lag < -((a.s.length : Int) / 2) := by omega
   have h2' : (a.s.length : Int) / 2 < lag := by omega
   go_enter Try.func53, Try.ntmps53
   go_wp2_with fail
   refine (HCA _ (hx.keep hb0)).mono ?_
   rintro _ w1 ⟨rfl, hb1⟩
   have hkW := hk.keep hb1
   have q0 : World.cell? w1 ⟨w.heap.size, 0, none⟩ = some (.slice S a.s.length c1) := hkW.cell 0
   have f0 := hkW.frozen 0
   have q1 : World.cell? w1 ⟨w.heap.size, 1, none⟩ = some (.slice N a.n.length c2) := hkW.cell 1
   have f1 := hkW.frozen 1
   have q2 : World.cell? w1 ⟨w.heap.size, 2, none⟩ = some (.slice G a.g.length c3) := hkW.cell 2
   have f2 := hkW.frozen 2
   have fl := hkW.lt
   go_wp2
   refine bodyPost_ret (v := .tuple #[.int .i64 0, .int .i64 0, .int .i64 2]) (by simp [results, Try.results53, go_sem]) rfl ?_
   rw [HR.out]
   exact ⟨rfl, bstep hb0 hb1⟩
  obtain ⟨I, hI⟩ : ∃ I : Nat, lag + ((a.s.length / 2 : Nat) : Int) = (I : Int) := ⟨(lag + ((a.s.length / 2 : Nat) : Int)).toNat, by omega⟩
  have hIlt : I < a.s.length := by have := fa.odd; omega
  have hIlt2 : I < a.n.length := by omega
  have HR := Lib.hid (valS_0 ea (by omega) hI)
  obtain ⟨okS1, okS2⟩ := fine_okS fa _ (getD_mem (d := (0, 0)) hIlt)
  obtain ⟨okN1, okN2⟩ := fine_okN fa _ (getD_mem (d := (0, 0)) hIlt2)
  have h1' : ¬ lag < -((a.s.length : Int) / 2) := by omega
  have h2' : ¬ (a.s.length : Int) / 2 < lag := by omega
  have hw : IntKind.i64.wrap (lag + (a.s.length : Int) / 2) = (I : Int) := by rw [IntWalk.i64_in _ (by omega)]; omega
  have hI1 : (I : Int) < (a.s.length : Int) := by omega
  have hI2 : (I : Int) < (a.n.length : Int) := by omega
  clear ea fa hln hI h1 h2
  obtain ⟨b1, off1, rfl, hl1, hc1, hd1⟩ := hx.s.at_ hIlt
  obtain ⟨b2, off2, rfl, hl2, hc2, hd2⟩ := hx.n.at_ hIlt2
  generalize a.s.getD I (0, 0) = x at *
  generalize a.n.getD I (0, 0) = y at *
  go_enter Try.func53, Try.ntmps53
  go_wp2_with fail
  refine (HCA _ (hx.keep hb0)).mono ?_
  rintro _ w1 ⟨rfl, hb1⟩
  have hB1 := bstep hb0 hb1
  have hkW := hk.keep hb1
  have q0 : World.cell? w1 ⟨w.heap.size, 0, none⟩ = some (.slice (some ⟨b1, off1, none⟩) a.s.length c1) := hkW.cell 0
  have f0 := hkW.frozen 0
  have q1 : World.cell? w1 ⟨w.heap.size, 1, none⟩ = some (.slice (some ⟨b2, off2, none⟩) a.n.length c2) := hkW.cell 1
  have f1 := hkW.frozen 1
  have q2 : World.cell? w1 ⟨w.heap.size, 2, none⟩ = some (.slice G a.g.length c3) := hkW.cell 2
  have f2 := hkW.frozen 2
  have fl := hkW.lt
  have HH : Hid (∀ W, Below w1.heap.size w1 W → (W.cell? ⟨w.heap.size, 0, none⟩ = some (.slice (some ⟨b1, off1, none⟩) a.s.length c1) ∧ W.cell? ⟨w.heap.size, 1, none⟩ = some (.slice (some ⟨b2, off2, none⟩) a.n.length c2)) ∧ (W.cell? ⟨b1, off1 + I * 2, none⟩ = some (.int .i64 x.1) ∧ W.cell? ⟨b1, off1 + I * 2 + 1, none⟩ = some (.int .i64 x.2)) ∧ (W.cell? ⟨b2, off2 + I * 2, none⟩ = some (.int .i64 y.1) ∧ W.cell? ⟨b2, off2 + I * 2 + 1, none⟩ = some (.int .i64 y.2))) := Lib.hid (fun W hW => by
   have hBW := bstep hB1 hW
   have hkV := hkW.keep hW
   exact ⟨⟨hkV.cell 0, hkV.cell 1⟩, ⟨(hBW.cell (p := ⟨b1, _, none⟩) hl1).trans hc1, (hBW.cell (p := ⟨b1, _, none⟩) hl1).trans hd1⟩, (hBW.cell (p := ⟨b2, _, none⟩) hl2).trans hc2, (hBW.cell (p := ⟨b2, _, none⟩) hl2).trans hd2⟩)
  go_wp2
  go_region_held3 (fun W => (W.cell? ⟨w.heap.size, 0, none⟩ = some (.slice (some ⟨b1, off1, none⟩) a.s.length c1) ∧ W.cell? ⟨w.heap.size, 1, none⟩ = some (.slice (some ⟨b2, off2, none⟩) a.n.length c2)) ∧ (W.cell? ⟨b1, off1 + I * 2, none⟩ = some (.int .i64 x.1) ∧ W.cell? ⟨b1, off1 + I * 2 + 1, none⟩ = some (.int .i64 x.2)) ∧ (W.cell? ⟨b2, off2 + I * 2, none⟩ = some (.int .i64 y.1) ∧ W.cell? ⟨b2, off2 + I * 2 + 1, none⟩ = some (.int .i64 y.2)))
   (first | exact HH.out _ (Below.refl _ _) | exact HH.out _ (Below.drew (Below.refl _ _)) | exact HH.out _ hb9 | exact HH.out _ hb8 | fail)
   ((first
     |(go_at_call 68; (with_reducible refine (value_any x w1.drew okS1 okS2).mono ?_); rintro e w9 ⟨rfl, hb9'⟩; have hb9 : Below w1.heap.size w1 w9 := bstep (Below.drew (Below.refl _ _)) hb9')
     |(go_at_call 68; (with_reducible refine (value_any y w1.drew okN1 okN2).mono ?_); rintro e w9 ⟨rfl, hb9'⟩; have hb9 : Below w1.heap.size w1 w9 := bstep (Below.drew (Below.refl _ _)) hb9')
     |(go_at_call 68; (with_reducible refine (value_any x _ okS1 okS2).mono ?_); rintro e w8 ⟨rfl, hb8'⟩; have hb8 : Below w1.heap.size w1 w8 := bstep hb9 hb8')
     |(go_at_call 68; (with_reducible refine (value_any y _ okN1 okN2).mono ?_); rintro e w8 ⟨rfl, hb8'⟩; have hb8 : Below w1.heap.size w1 w8 := bstep hb9 hb8')
     | fail))
  all_goals go_wp2
  all_goals
   refine bodyPost_ret (v := .tuple #[.int .i64 (val x), .int .i64 (val y), .int .i64 0]) (by simp [results, Try.results53, go_sem]) rfl ?_
   rw [HR.out]
   exact ⟨rfl, by have hB8 := bstep hB1 hb8; (repeat (first | with_reducible exact Below.refl _ _ | assumption | with_reducible refine below_drewN ?_ _ | with_reducible refine Below.drew ?_ | with_reducible refine balloc ?_ _ | (with_reducible refine Below.setCell ?_ ?_ _; rotate_left; focus (first | (simp; done) | (simp; omega) | omega))))⟩
 ·have HR := Lib.hid (valS_e (lag := lag) ea)
  have e2 : (accErr a != 0) = true := by rw [bne_iff_ne]; exact ea
  clear ea
  generalize accErr a = E at *
  go_enter Try.func53, Try.ntmps53
  go_wp2_with fail
  refine (HCA _ (hx.keep hb0)).mono ?_
  rintro _ w1 ⟨rfl, hb1⟩
  go_wp2
  refine bodyPost_ret (v := .tuple #[.int .i64 0, .int .i64 0, .int .i64 E]) (by simp [results, Try.results53, go_sem]) rfl ?_
  rw [HR.out]
  exact ⟨rfl, bstep hb0 hb1⟩
end Go.Proofs.Ytdekbncpodjgnaa
namespace Go.Proofs.Ytdekbncpodjgnaa
open Go.RowKit Runs Lagc Reg
set_option linter.unusedVariables false
set_option linter.unusedSimpArgs false
namespace Wk
open Lagw
def cellF (a : Acc) (k : Nat) : Int × Int := (val (a.s.getD k (0, 0)), val (a.n.getD k (0, 0)))
noncomputable def resS (xs ys : List Int) (m s : Int) (r : Work) : List (Int × Int) × Int :=
 if stateErr xs ys m s r ≠ 0 then ([], stateErr xs ys m s r) else if r.d.all id = true then (fullL (cellF r.a) (2 * m.toNat + 1), 0) else ([], 22)
theorem mk_cap (n : Nat) (hn : n ≤ 1000) (w : World) : (Instr.makeSlice 31 (.int .i64 0) (.int .i64 (n : Int))).run Try.prog w = .ok (.slice (some ⟨w.heap.size, 0, none⟩) 0 n) (w.alloc (.cells ((List.replicate n ((0 : Int), (0 : Int))).flatMap encP).toArray 75)) := by
 obtain ⟨i0, hi0, hz0, hz1, hz2⟩ := info_parts info_lag
 have h := run_make (P := Try.prog) w 31 75 i0 _ Try.underlying31 hi0 hz0 .i64 .i64 0 (n : Int) (by omega) (by omega) (by rw [hz2]; omega) (by omega)
 simp only [Int.toNat_natCast] at h
 rw [h]
 have e := made_flat encP i0.size (by intro x; rw [hz1]; rfl) (by rw [hz1]; omega) ((0 : Int), (0 : Int)) n
 first
  | rw [← e]; rfl
  | rfl
theorem own_cap {w : World} {base g n : Nat} {e : TypeId} (h : Blk w g e ((List.replicate n ((0 : Int), (0 : Int))).flatMap encP).toArray) (hb : base ≤ g) (hn : n ≤ 1000) : w.ownsRow base e 2 (.slice (some ⟨g, 0, none⟩) 0 n) 0 [] :=
 ⟨rfl, .inr ⟨g, n, _, rfl, hb, h, Nat.zero_le _, by unfold maxLen; omega, by simp [flat_len encP 2 encP_len], by simp⟩⟩
theorem all_no {d : List Bool} {k : Nat} (hk : k < d.length) (h : d.getD k false = false) : d.all id = false := by
 rw [Bool.eq_false_iff, Ne, List.all_eq_true]
 intro h2
 have := h2 _ (getD_mem (d := false) hk)
 rw [h] at this
 cases this
theorem all_yes {d : List Bool} (h : ∀ j, j < d.length → d.getD j false = true) : d.all id = true := by
 rw [List.all_eq_true]
 intro x hx
 obtain ⟨k, hk, rfl⟩ := List.getElem_of_mem hx
 have := h k hk
 rwa [getD_lt _ _ hk] at this
set_option maxRecDepth 20000 in
set_option maxHeartbeats 4000000 in
theorem result_any (X Y S1 N1 G1 D T : Option Addr) (cx cy c1 c2 c3 c4 c5 : Nat) (xs ys : List Int) (m s : Int) (r : Work) (w : World) (hx : RI .i64 w X xs) (hy : RI .i64 w Y ys) (hcx : xs.length ≤ cx) (hl : xs.length ≤ 1000000) (hl2 : ys.length ≤ 1000000) (hr : RW w S1 N1 G1 D T r) (l1 : r.a.s.length ≤ 1000000) (l2 : r.a.n.length ≤ 1000000) (l3 : r.a.g.length ≤ 1000000) (l4 : r.d.length ≤ 1000000) (l5 : r.t.length ≤ 1000000) :
 Calls Try.prog 26 #[.agg #[.slice X xs.length cx, .slice Y ys.length cy, .int .i64 m, .int .i64 s], .agg #[.slice S1 r.a.s.length c1, .slice N1 r.a.n.length c2, .slice G1 r.a.g.length c3, .slice D r.d.length c4, .slice T r.t.length c5]] w (RetQ 75 w (resS xs ys m s r)) := by
 have HK := Lib.hid (fun w hx hy hr => checkState_any X Y S1 N1 G1 D T cx cy c1 c2 c3 c4 c5 xs ys m s r w hx hy hcx hl hl2 hr l1 l2 l3 l4 l5)
 by_cases he : stateErr xs ys m s r = 0
 ·obtain ⟨M, S, rfl, rfl, hj, hG, ha⟩ := stateErr_zero he
  have hIs := sumA_is hj hG.d
  rw [← ha] at hIs
  have hf := hIs.fine
  have hlen := hIs.len
  have hM := hj.m
  rw [he] at HK
  have HR22 := Lib.hid (fun (h : r.d.all id = false) => show resS xs ys M S r = ([], 22) by unfold resS; rw [if_neg (by simp [he]), if_neg (by simp [h])])
  have HR0 := Lib.hid (fun (h : r.d.all id = true) => show resS xs ys M S r = (fullL (cellF r.a) (2 * M + 1), 0) by unfold resS; rw [if_neg (by simp [he]), if_pos h, Int.toNat_natCast])
  have HV := Lib.hid (fun (k : Nat) (hk : k < 2 * M + 1) w hx => accValue_any S1 N1 G1 c1 c2 c3 r.a ((k : Int) - (M : Int)) w hx (by omega) (by omega) (by omega) (by omega))
  have HVS : Hid (∀ k, k < 2 * M + 1 → valS r.a ((k : Int) - (M : Int)) = (cellF r.a k, 0)) := Lib.hid (fun k hk => by
   rw [valS_0 (I := k) (acc_fine.2 hf) (by rw [hlen]; omega) (by rw [hlen]; omega)]
   rfl)
  have hmk := mk_cap (2 * M + 1) (by omega)
  rw [show ((2 * M + 1 : Nat) : Int) = 2 * (M : Int) + 1 by omega] at hmk
  obtain ⟨i0, hi0, hz0, hz1, hz2⟩ := info_parts info_lag
  have HSUC := Lib.hid (fun k => fullL_succ (cellF r.a) k)
  have HFL := Lib.hid (fullL_len (cellF r.a) (2 * M + 1))
  generalize cellF r.a = F at *
  generalize resS xs ys M S r = RES at *
  clear hIs hf ha hG he hlen
  have hdC := hj.c
  obtain ⟨wE, hwE⟩ : ∃ wE, wE = (w.alloc (.cells #[.slice X xs.length cx, .slice Y ys.length cy, .int .i64 (M : Int), .int .i64 (S : Int)] 24)).alloc (.cells #[.slice S1 r.a.s.length c1, .slice N1 r.a.n.length c2, .slice G1 r.a.g.length c3, .slice D r.d.length c4, .slice T r.t.length c5] 42) := ⟨_, rfl⟩
  have hk1 : Blk wE w.heap.size 24 #[.slice X xs.length cx, .slice Y ys.length cy, .int .i64 (M : Int), .int .i64 (S : Int)] := by rw [hwE]; exact (Blk.new _ _ _).alloc _
  have hk2 : Blk wE (w.heap.size + 1) 42 #[.slice S1 r.a.s.length c1, .slice N1 r.a.n.length c2, .slice G1 r.a.g.length c3, .slice D r.d.length c4, .slice T r.t.length c5] := by rw [hwE]; exact Blk.newAt _ _ (by simp)
  have hbE : Below w.heap.size w wE := by rw [hwE]; exact balloc (balloc (Below.refl _ _) _) _
  have hsE : wE.heap.size = w.heap.size + 2 := by rw [hwE]; simp
  have hxE := hx.keep hbE
  have hyE := hy.keep hbE
  have hrE := hr.keep hbE
  clear hj hdC
  go_enter Try.func26, Try.ntmps26
  go_wp2_with fail
  rw [← hwE]
  clear hwE
  have q0 : World.cell? wE ⟨w.heap.size, 0, none⟩ = some (.slice X xs.length cx) := hk1.cell 0
  have f0 := hk1.frozen 0
  have q1 : World.cell? wE ⟨w.heap.size, 1, none⟩ = some (.slice Y ys.length cy) := hk1.cell 1
  have f1 := hk1.frozen 1
  have q2 : World.cell? wE ⟨w.heap.size, 2, none⟩ = some (.int .i64 (M : Int)) := hk1.cell 2
  have f2 := hk1.frozen 2
  have q3 : World.cell? wE ⟨w.heap.size, 3, none⟩ = some (.int .i64 (S : Int)) := hk1.cell 3
  have f3 := hk1.frozen 3
  have fl := hk1.lt
  have p0 : World.cell? wE ⟨(w.heap.size + 1), 0, none⟩ = some (.slice S1 r.a.s.length c1) := hk2.cell 0
  have g0 := hk2.frozen 0
  have p1 : World.cell? wE ⟨(w.heap.size + 1), 1, none⟩ = some (.slice N1 r.a.n.length c2) := hk2.cell 1
  have g1 := hk2.frozen 1
  have p2 : World.cell? wE ⟨(w.heap.size + 1), 2, none⟩ = some (.slice G1 r.a.g.length c3) := hk2.cell 2
  have g2 := hk2.frozen 2
  have p3 : World.cell? wE ⟨(w.heap.size + 1), 3, none⟩ = some (.slice D r.d.length c4) := hk2.cell 3
  have g3 := hk2.frozen 3
  have p4 : World.cell? wE ⟨(w.heap.size + 1), 4, none⟩ = some (.slice T r.t.length c5) := hk2.cell 4
  have g4 := hk2.frozen 4
  have gl := hk2.lt
  go_wp2_with fail
  refine (HK.out _ hxE hyE hrE).mono ?_
  rintro _ w1 ⟨rfl, hb1⟩
  clear q0 q1 q2 q3 f0 f1 f2 f3 fl
  clear p0 p1 p2 p3 p4 g0 g1 g2 g3 g4 gl
  have hB1 := bstep hbE hb1
  replace hk1 := hk1.keep hb1
  replace hk2 := hk2.keep hb1
  replace hrE := hrE.keep hb1
  have q0 : World.cell? w1 ⟨w.heap.size, 0, none⟩ = some (.slice X xs.length cx) := hk1.cell 0
  have f0 := hk1.frozen 0
  have q1 : World.cell? w1 ⟨w.heap.size, 1, none⟩ = some (.slice Y ys.length cy) := hk1.cell 1
  have f1 := hk1.frozen 1
  have q2 : World.cell? w1 ⟨w.heap.size, 2, none⟩ = some (.int .i64 (M : Int)) := hk1.cell 2
  have f2 := hk1.frozen 2
  have q3 : World.cell? w1 ⟨w.heap.size, 3, none⟩ = some (.int .i64 (S : Int)) := hk1.cell 3
  have f3 := hk1.frozen 3
  have fl := hk1.lt
  have p0 : World.cell? w1 ⟨(w.heap.size + 1), 0, none⟩ = some (.slice S1 r.a.s.length c1) := hk2.cell 0
  have g0 := hk2.frozen 0
  have p1 : World.cell? w1 ⟨(w.heap.size + 1), 1, none⟩ = some (.slice N1 r.a.n.length c2) := hk2.cell 1
  have g1 := hk2.frozen 1
  have p2 : World.cell? w1 ⟨(w.heap.size + 1), 2, none⟩ = some (.slice G1 r.a.g.length c3) := hk2.cell 2
  have g2 := hk2.frozen 2
  have p3 : World.cell? w1 ⟨(w.heap.size + 1), 3, none⟩ = some (.slice D r.d.length c4) := hk2.cell 3
  have g3 := hk2.frozen 3
  have p4 : World.cell? w1 ⟨(w.heap.size + 1), 4, none⟩ = some (.slice T r.t.length c5) := hk2.cell 4
  have g4 := hk2.frozen 4
  have gl := hk2.lt
  go_wp2
  go_loopg [23] r.d.length (fun gk i wr => ∃ k : Nat, k + gk = r.d.length ∧ i = .int .i64 k ∧ w1 = wr ∧ Hid (∀ j, j < k → r.d.getD j false = true))
  case atStart => exact ⟨0, by omega, rfl, rfl, Lib.hid (by intro j hj; omega)⟩
  case round =>
   obtain ⟨k, hk, rfl, rfl, hall⟩ := hrel
   have hk' : k ≤ r.d.length := by omega
   have HK2 := Lib.hid hk
   clear hk HK
   by_cases hlt : k < r.d.length
   ·obtain ⟨bd, od, hDe, hdl, hdc⟩ := hrE.d (by omega)
    have hdk := hdc k hlt
    have HNX := Lib.hid (fun h => all_lt_succ (p := fun j => r.d.getD j false = true) hall.out h)
    have HNO := Lib.hid (fun h => HR22.out (all_no hlt h))
    clear hdc
    subst hDe
    generalize r.d.getD k false = x at *
    cases x
    ·have HRR := Lib.hid (HNO.out (by trivial))
     go_wp2
     go_ret2
     exact RetQ.nil HRR.out hB1
    ·have HX := Lib.hid (HNX.out (by trivial))
     go_wp2
     go_roundg (gk - 1)
     case rel => exact ⟨k + 1, by have := HK2.out; omega, by go_num, rfl, HX⟩
     case measure => have := HK2.out; omega
   ·have hat := all_yes (d := r.d) (fun j hj => hall.out j (by omega))
    have HRES := Lib.hid (HR0.out hat)
    have f1 : IntKind.i64.wrap (2 * (M : Int)) = 2 * (M : Int) := IntWalk.i64_in _ (by omega)
    have f2 : IntKind.i64.wrap (2 * (M : Int) + 1) = 2 * (M : Int) + 1 := IntWalk.i64_in _ (by omega)
    have f3 : IntKind.i64.wrap (-(M : Int)) = -(M : Int) := IntWalk.i64_in _ (by omega)
    clear hall HR0 HR22 hat HK2
    go_wp2
    go_loopg [9, 10] (2 * M + 1) (fun gk v i wr => ∃ k : Nat, k + gk = 2 * M + 1 ∧ i = .int .i64 ((k : Int) - (M : Int)) ∧ wr.ownsRow w1.heap.size 75 2 v k ((fullL F k).flatMap encP) ∧ Below w1.heap.size w1 wr)
    case atStart => exact ⟨0, by omega, by simp, own_cap (Blk.new _ _ _) (Nat.le_refl _) (by omega), balloc (Below.refl _ _) _⟩
    case round =>
     obtain ⟨k, hk, rfl, hO, hb⟩ := hrel
     have hk' : k ≤ 2 * M + 1 := by omega
     have HK2 := Lib.hid hk
     clear hk hmk
     have hkJ := hk1.keep hb
     have hkW := hk2.keep hb
     have hrr := hrE.keep hb
     have hsz := hb.size
     clear q0 q1 q2 q3 f0 f1 f2 f3 fl
     clear p0 p1 p2 p3 p4 g0 g1 g2 g3 g4 gl
     have q0 : World.cell? wr ⟨w.heap.size, 0, none⟩ = some (.slice X xs.length cx) := hkJ.cell 0
     have f0 := hkJ.frozen 0
     have q1 : World.cell? wr ⟨w.heap.size, 1, none⟩ = some (.slice Y ys.length cy) := hkJ.cell 1
     have f1 := hkJ.frozen 1
     have q2 : World.cell? wr ⟨w.heap.size, 2, none⟩ = some (.int .i64 (M : Int)) := hkJ.cell 2
     have f2 := hkJ.frozen 2
     have q3 : World.cell? wr ⟨w.heap.size, 3, none⟩ = some (.int .i64 (S : Int)) := hkJ.cell 3
     have f3 := hkJ.frozen 3
     have fl := hkJ.lt
     have p0 : World.cell? wr ⟨(w.heap.size + 1), 0, none⟩ = some (.slice S1 r.a.s.length c1) := hkW.cell 0
     have g0 := hkW.frozen 0
     have p1 : World.cell? wr ⟨(w.heap.size + 1), 1, none⟩ = some (.slice N1 r.a.n.length c2) := hkW.cell 1
     have g1 := hkW.frozen 1
     have p2 : World.cell? wr ⟨(w.heap.size + 1), 2, none⟩ = some (.slice G1 r.a.g.length c3) := hkW.cell 2
     have g2 := hkW.frozen 2
     have p3 : World.cell? wr ⟨(w.heap.size + 1), 3, none⟩ = some (.slice D r.d.length c4) := hkW.cell 3
     have g3 := hkW.frozen 3
     have p4 : World.cell? wr ⟨(w.heap.size + 1), 4, none⟩ = some (.slice T r.t.length c5) := hkW.cell 4
     have g4 := hkW.frozen 4
     have gl := hkW.lt
     by_cases hlt : k < 2 * M + 1
     ·have HVk := Lib.hid (HV.out k hlt)
      rw [HVS.out k hlt] at HVk
      have hS := HSUC.out k
      have HS := Lib.hid hS
      clear hS HV HVS
      have d1 : decide ((k : Int) - (M : Int) ≤ (M : Int)) = true := decide_eq_true (by omega)
      have f4 : IntKind.i64.wrap ((k : Int) - (M : Int) + 1) = ((k + 1 : Nat) : Int) - (M : Int) := by rw [IntWalk.i64_in _ (by omega)]; omega
      have f5 : (k : Int) - (M : Int) + 1 = ((k + 1 : Nat) : Int) - (M : Int) := by omega
      have F5 := Lib.hid f5
      clear f5
      generalize hI : (k : Int) - (M : Int) = I at *
      generalize F k = fk at *
      go_wp2_with fail
      refine (HVk.out _ hrr.a).mono ?_
      rintro _ w3 ⟨rfl, hb3⟩
      have hO3 := own_keep hO hb3
      go_wp2_with (at_builtin; refine wpList_append_lies _ rfl (.tmp 55) (.tmp 59) 31 rfl w1.heap.size 75 i0 _ 2 16 Try.underlying31 hi0 hz0 hz1 hz2 rfl (by omega) _ k _ rfl (hO3.alloc _) ⟨w3.heap.size, 0, none⟩ 1 1 (encP fk) rfl rfl (encP_news w3 _ _) (encP_one _) (by omega) (by unfold maxLen; omega) (by omega) (by have := hb3.size; simp; omega) (w3.heap.size + 1) (by simp) ?_; intro g4 c4' w4 hown4 hgrow4 hat4 hlt4)
      have hB4 := own_below (balloc (bstep hb hb3) (.cells #[.int .i64 fk.1, .int .i64 fk.2] 75)) (hO3.alloc _) hgrow4 (Nat.le_refl _) (by have := hb3.size; simp; omega)
      go_roundg (gk - 1)
      case rel => exact ⟨k + 1, by have := HK2.out; omega, by first | rw [F5.out] | (rw [← hI] at *; go_num), by rw [HS.out, flat_snoc]; exact hown4, hB4⟩
      case measure => have := HK2.out; omega
     ·obtain rfl : k = 2 * M + 1 := by omega
      have d1 : decide (((2 * M + 1 : Nat) : Int) - (M : Int) ≤ (M : Int)) = false := decide_eq_false (by omega)
      obtain ⟨A1, k1, rfl, _⟩ := own_shape' hO
      go_wp2
      go_ret2
      rw [HRES.out]
      exact ⟨A1, k1, by rw [HFL.out]; rfl, by rw [HFL.out]; exact hO.mono hB1.size, bstep hB1 hb⟩
 ·have e1 : (stateErr xs ys m s r != 0) = true := by simp [he]
  have HR : Hid (resS xs ys m s r = ([], stateErr xs ys m s r)) := Lib.hid (by unfold resS; rw [if_pos he])
  obtain ⟨wE, hwE⟩ : ∃ wE, wE = (w.alloc (.cells #[.slice X xs.length cx, .slice Y ys.length cy, .int .i64 m, .int .i64 s] 24)).alloc (.cells #[.slice S1 r.a.s.length c1, .slice N1 r.a.n.length c2, .slice G1 r.a.g.length c3, .slice D r.d.length c4, .slice T r.t.length c5] 42) := ⟨_, rfl⟩
  have hk1 : Blk wE w.heap.size 24 #[.slice X xs.length cx, .slice Y ys.length cy, .int .i64 m, .int .i64 s] := by rw [hwE]; exact (Blk.new _ _ _).alloc _
  have hk2 : Blk wE (w.heap.size + 1) 42 #[.slice S1 r.a.s.length c1, .slice N1 r.a.n.length c2, .slice G1 r.a.g.length c3, .slice D r.d.length c4, .slice T r.t.length c5] := by rw [hwE]; exact Blk.newAt _ _ (by simp)
  have hbE : Below w.heap.size w wE := by rw [hwE]; exact balloc (balloc (Below.refl _ _) _) _
  have hsE : wE.heap.size = w.heap.size + 2 := by rw [hwE]; simp
  have hxE := hx.keep hbE
  have hyE := hy.keep hbE
  have hrE := hr.keep hbE
  clear he
  generalize stateErr xs ys m s r = E at *
  go_enter Try.func26, Try.ntmps26
  go_wp2_with fail
  rw [← hwE]
  clear hwE
  have q0 : World.cell? wE ⟨w.heap.size, 0, none⟩ = some (.slice X xs.length cx) := hk1.cell 0
  have f0 := hk1.frozen 0
  have q1 : World.cell? wE ⟨w.heap.size, 1, none⟩ = some (.slice Y ys.length cy) := hk1.cell 1
  have f1 := hk1.frozen 1
  have q2 : World.cell? wE ⟨w.heap.size, 2, none⟩ = some (.int .i64 m) := hk1.cell 2
  have f2 := hk1.frozen 2
  have q3 : World.cell? wE ⟨w.heap.size, 3, none⟩ = some (.int .i64 s) := hk1.cell 3
  have f3 := hk1.frozen 3
  have fl := hk1.lt
  have p0 : World.cell? wE ⟨(w.heap.size + 1), 0, none⟩ = some (.slice S1 r.a.s.length c1) := hk2.cell 0
  have g0 := hk2.frozen 0
  have p1 : World.cell? wE ⟨(w.heap.size + 1), 1, none⟩ = some (.slice N1 r.a.n.length c2) := hk2.cell 1
  have g1 := hk2.frozen 1
  have p2 : World.cell? wE ⟨(w.heap.size + 1), 2, none⟩ = some (.slice G1 r.a.g.length c3) := hk2.cell 2
  have g2 := hk2.frozen 2
  have p3 : World.cell? wE ⟨(w.heap.size + 1), 3, none⟩ = some (.slice D r.d.length c4) := hk2.cell 3
  have g3 := hk2.frozen 3
  have p4 : World.cell? wE ⟨(w.heap.size + 1), 4, none⟩ = some (.slice T r.t.length c5) := hk2.cell 4
  have g4 := hk2.frozen 4
  have gl := hk2.lt
  go_wp2_with fail
  refine (HK.out _ hxE hyE hrE).mono ?_
  rintro _ w1 ⟨rfl, hb1⟩
  clear q0 q1 q2 q3 f0 f1 f2 f3 fl
  clear p0 p1 p2 p3 p4 g0 g1 g2 g3 g4 gl
  have hB1 := bstep hbE hb1
  go_wp2
  go_ret2
  exact RetQ.nil HR.out hB1
end Wk
end Go.Proofs.Ytdekbncpodjgnaa
