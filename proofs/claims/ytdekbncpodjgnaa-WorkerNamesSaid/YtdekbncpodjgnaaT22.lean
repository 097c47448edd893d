/-
  Parts of the proof of WorkerNames: WkZ.
-/
import Derived.Test.YtdekbncpodjgnaaT21
namespace Go.Proofs.Ytdekbncpodjgnaa
open Go.RowKit Runs Lagc Reg
set_option linter.unusedVariables false
set_option linter.unusedSimpArgs false
namespace Wk
open Lagw
def RE (w : World) (A : Option Addr) (l : List Ev) : Prop :=
 0 < l.length → ∃ b off, A = some ⟨b, off, none⟩ ∧ b < w.heap.size ∧ ∀ j (hj : j < l.length), w.cell? ⟨b, off + j * 3, none⟩ = some (.int .u8 l[j].k) ∧ w.cell? ⟨b, off + j * 3 + 1, none⟩ = some (.int .i64 l[j].w) ∧ w.cell? ⟨b, off + j * 3 + 2, none⟩ = some (.int .i64 l[j].b)
theorem RE.keep {w w' : World} {A : Option Addr} {l : List Ev} (h : RE w A l) (hb : Below w.heap.size w w') : RE w' A l := by
 intro h0
 obtain ⟨b, off, e, hlt, hc⟩ := h h0
 exact ⟨b, off, e, Nat.lt_of_lt_of_le hlt hb.size, fun j hj => ⟨(hb.cell (p := ⟨b, off + j * 3, none⟩) hlt).trans (hc j hj).1, (hb.cell (p := ⟨b, off + j * 3 + 1, none⟩) hlt).trans (hc j hj).2.1, (hb.cell (p := ⟨b, off + j * 3 + 2, none⟩) hlt).trans (hc j hj).2.2⟩⟩
noncomputable def workS (xs ys : List Int) (M S : Nat) (s : List Bool × List Int) : Work := ⟨sumA xs ys M S s.1, s.1, s.2⟩
def start19 (C N : Nat) : List Bool × List Int := (List.replicate C false, List.replicate N (-1))
theorem start_good {C N : Nat} (h1 : 1 ≤ N) (h2 : N ≤ 6) : Good19 C (start19 C N).1 (start19 C N).2 := by
 refine ⟨by simp [start19], by simp [start19, h1], by simp [start19, h2], fun x hx => ?_⟩
 rw [List.eq_of_mem_replicate hx]
 omega
theorem openS_zero {xs ys : List Int} {m s n : Int} (h : (openS xs ys m s n).2 = 0) : ∃ M S N : Nat, m = M ∧ s = S ∧ n = N ∧ Job xs ys M S ∧ 1 ≤ N ∧ N ≤ 6 ∧ openS xs ys m s n = (workS xs ys M S (start19 (cdiv xs.length S) N), 0) := by
 by_cases he : jobErr xs ys m s = 0
 ·by_cases hn : n < 1 ∨ 6 < n
  ·rw [openS_arg he hn] at h; cases h
  ·obtain ⟨_, _, M, S, rfl, rfl, _⟩ := jobErr_zero he
   obtain ⟨N, rfl⟩ : ∃ N : Nat, n = N := ⟨n.toNat, by omega⟩
   have hj := Job.of he
   refine ⟨M, S, N, rfl, rfl, rfl, hj, by omega, by omega, ?_⟩
   rw [openS_ok he hn, sumA_new hj]
   rfl
 ·rw [openS_err he] at h
  exact absurd h he
theorem openS_bad {xs ys : List Int} {m s n : Int} (h : (openS xs ys m s n).2 ≠ 0) : openS xs ys m s n = (.none, (openS xs ys m s n).2) := by
 by_cases he : jobErr xs ys m s = 0
 ·by_cases hn : n < 1 ∨ 6 < n
  ·rw [openS_arg he hn]
  ·exfalso
   obtain ⟨_, _, M, S, rfl, rfl, _⟩ := jobErr_zero he
   obtain ⟨N, rfl⟩ : ∃ N : Nat, n = N := ⟨n.toNat, by omega⟩
   rw [openS_ok he hn] at h
   exact h rfl
 ·rw [openS_err he]
noncomputable def runS (xs ys : List Int) (m s n : Int) (l : List Ev) : (Work × Int) × Int :=
 if (openS xs ys m s n).2 ≠ 0 then ((.none, 0), (openS xs ys m s n).2)
 else if 400 < l.length then ((.none, 0), 4)
 else ((workS xs ys m.toNat s.toNat (runL (start19 (cdiv xs.length s.toNat) n.toNat) l 0).1.1, (((runL (start19 (cdiv xs.length s.toNat) n.toNat) l 0).1.2 : Nat) : Int)), (runL (start19 (cdiv xs.length s.toNat) n.toNat) l 0).2)
def RetR (w : World) (r : (Work × Int) × Int) (e : Ending) (w' : World) : Prop :=
 ∃ S N G D T c1 c2 c3 c4 c5, e = .returned (.tuple #[.agg #[.slice S r.1.1.a.s.length c1, .slice N r.1.1.a.n.length c2, .slice G r.1.1.a.g.length c3, .slice D r.1.1.d.length c4, .slice T r.1.1.t.length c5], .int .i64 r.1.2, .int .i64 r.2]) ∧ RW w' S N G D T r.1.1 ∧ Below w.heap.size w w'
theorem RW.none {w : World} : RW w none none none none none Work.none := ⟨RA.none, RBo.nil, RI.nil⟩
theorem run_fin {w w6 : World} {g : Nat} {t : TypeId} {S N G D T : Option Addr} {c1 c2 c3 c4 c5 : Nat} {r : Work} {q : (Work × Int) × Int} {k x : Int} (hq : q = ((r, k), x)) (h : RW w6 S N G D T r) (hk : Blk w6 g t #[.slice none 0 0, .slice none 0 0, .slice none 0 0, .slice none 0 0, .slice none 0 0]) (hb : Below w.heap.size w w6) (hg : w.heap.size ≤ g) :
 RetR w q (.returned (.tuple #[.agg #[.slice S r.a.s.length c1, .slice N r.a.n.length c2, .slice G r.a.g.length c3, .slice D r.d.length c4, .slice T r.t.length c5], .int .i64 k, .int .i64 x]))
  (((((w6.setCell ⟨g, 0, none⟩ (.slice S r.a.s.length c1)).setCell ⟨g, 1, none⟩ (.slice N r.a.n.length c2)).setCell ⟨g, 2, none⟩ (.slice G r.a.g.length c3)).setCell ⟨g, 3, none⟩ (.slice D r.d.length c4)).setCell ⟨g, 4, none⟩ (.slice T r.t.length c5)) := by
 subst hq
 exact ⟨S, N, G, D, T, c1, c2, c3, c4, c5, rfl, (h.put5 hk).1, ((((hb.setCell (p := ⟨g, 0, none⟩) hg _).setCell (p := ⟨g, 1, none⟩) hg _).setCell (p := ⟨g, 2, none⟩) hg _).setCell (p := ⟨g, 3, none⟩) hg _).setCell (p := ⟨g, 4, none⟩) hg _⟩
theorem RetR.alloc {w W : World} {r : (Work × Int) × Int} {e : Ending} (h : RetR w r e W) (o : Obj) : RetR w r e (W.alloc o) := by
 obtain ⟨S, N, G, D, T, c1, c2, c3, c4, c5, he, hr, hb⟩ := h
 exact ⟨S, N, G, D, T, c1, c2, c3, c4, c5, he, hr.keep (balloc (Below.refl _ _) _), balloc hb _⟩
theorem runL_step {s s' : List Bool × List Int} {e : Ev} {l : List Ev} {k : Nat} (h : stepS s.1 s.2 e = (s', 0)) : runL s (e :: l) k = runL s' l (k + 1) := by
 rw [runL, h]
 simp
theorem runL_stop {s s' : List Bool × List Int} {e : Ev} {l : List Ev} {k : Nat} {x : Int} (h : stepS s.1 s.2 e = (s', x)) (hx : x ≠ 0) : runL s (e :: l) k = ((s, k), x) := by
 rw [runL, h]
 simp [hx]
set_option maxRecDepth 20000 in
set_option maxHeartbeats 4000000 in
theorem run_any (X Y A : Option Addr) (cx cy c : Nat) (xs ys : List Int) (m s n : Int) (l : List Ev) (w : World) (hx : RI .i64 w X xs) (hy : RI .i64 w Y ys) (hcx : xs.length ≤ cx) (hl : xs.length ≤ 1000000) (hl2 : ys.length ≤ 1000000) (hA : RE w A l) (hll : l.length ≤ 9223372036854775807) :
 Calls Try.prog 24 #[.agg #[.slice X xs.length cx, .slice Y ys.length cy, .int .i64 m, .int .i64 s], .int .i64 n, .slice A l.length c] w (RetR w (runS xs ys m s n l)) := by
 obtain ⟨wE, hwE⟩ : ∃ wE, wE = (w.alloc (.cells #[.slice X xs.length cx, .slice Y ys.length cy, .int .i64 m, .int .i64 s] 24)).alloc (.cells #[.slice .none 0 0, .slice .none 0 0, .slice .none 0 0, .slice .none 0 0, .slice .none 0 0] 42) := ⟨_, rfl⟩
 have hk1 : Blk wE w.heap.size 24 #[.slice X xs.length cx, .slice Y ys.length cy, .int .i64 m, .int .i64 s] := by rw [hwE]; exact (Blk.new _ _ _).alloc _
 have hk2 : Blk wE (w.heap.size + 1) 42 #[.slice .none 0 0, .slice .none 0 0, .slice .none 0 0, .slice .none 0 0, .slice .none 0 0] := by rw [hwE]; exact Blk.newAt _ _ (by simp)
 have hbE : Below w.heap.size w wE := by rw [hwE]; exact balloc (balloc (Below.refl _ _) _) _
 have hsE : wE.heap.size = w.heap.size + 2 := by rw [hwE]; simp
 have hxE := hx.keep hbE
 have hyE := hy.keep hbE
 have hAE := hA.keep hbE
 have HO := Lib.hid (fun w hx hy => wkOpen_any X Y cx cy xs ys m s n w hx hy (by omega) (by omega))
 by_cases he : (openS xs ys m s n).2 = 0
 ·obtain ⟨M, S, N, rfl, rfl, rfl, hj, hN1, hN6, hop⟩ := openS_zero he
  have HR : Hid (400 < l.length → runS xs ys M S N l = ((.none, 0), 4)) := Lib.hid (fun h => by unfold runS; rw [if_neg (by simp [he]), if_pos h])
  have HR2 : Hid (¬ 400 < l.length → runS xs ys M S N l = ((workS xs ys M S (runL (start19 (cdiv xs.length S) N) l 0).1.1, (((runL (start19 (cdiv xs.length S) N) l 0).1.2 : Nat) : Int)), (runL (start19 (cdiv xs.length S) N) l 0).2)) := Lib.hid (fun h => by unfold runS; rw [if_neg (by simp [he]), if_neg h]; simp)
  rw [hop] at HO
  have hG0 := start_good (C := cdiv xs.length S) hN1 hN6
  have HS := Lib.hid (fun d t (hG : Good19 (cdiv xs.length S) d t) S1 N1 G1 D T c1 c2 c3 c4 c5 k u b w hx hy hr => step_any hj X Y S1 N1 G1 D T cx cy c1 c2 c3 c4 c5 d t k u b w hx hy hcx hG hr)
  have HG := Lib.hid (fun d t e (hG : Good19 (cdiv xs.length S) d t) (h : (stepS d t e).2 = 0) => (step_good (e := e) hG h).1)
  have HW := Lib.hid (fun q x (h : x ≠ 0) => stW_no (xs := xs) (ys := ys) (M := M) (S := S) (r := (q, x)) (x := x))
  have HWK : ∀ d t, workS xs ys M S (d, t) = ⟨sumA xs ys M S d, d, t⟩ := fun _ _ => rfl
  have HST : Hid (∀ q : (List Bool × List Int) × Int, stW xs ys M S q = if q.2 ≠ 0 then (.none, q.2) else (workS xs ys M S q.1, 0)) := Lib.hid (fun q => rfl)
  generalize cdiv xs.length S = C at *
  generalize hs0 : start19 C N = s0 at *
  obtain ⟨d0, t0⟩ := s0
  simp only at hG0
  have hWS : ∀ st, workS xs ys M S st = ⟨sumA xs ys M S st.1, st.1, st.2⟩ := fun _ => rfl
  simp only [hWS] at HO
  generalize runS xs ys M S N l = RES at *
  generalize sumA xs ys M S = SM at *
  clear he hop hj hs0 hx hy hA HW HWK
  by_cases h400 : 400 < l.length
  ·have d400 : decide (400 < (l.length : Int)) = true := by simp; omega
   have HF := Lib.hid (HR.out h400)
   clear HR HR2 h400
   go_enter Try.func24, Try.ntmps24
   go_wp2_with fail
   rw [← hwE]
   clear hwE
   have j0 : World.cell? wE ⟨w.heap.size, 0, none⟩ = some (.slice X xs.length cx) := hk1.cell 0
   have jf0 := hk1.frozen 0
   have j1 : World.cell? wE ⟨w.heap.size, 1, none⟩ = some (.slice Y ys.length cy) := hk1.cell 1
   have jf1 := hk1.frozen 1
   have j2 : World.cell? wE ⟨w.heap.size, 2, none⟩ = some (.int .i64 (M : Int)) := hk1.cell 2
   have jf2 := hk1.frozen 2
   have j3 : World.cell? wE ⟨w.heap.size, 3, none⟩ = some (.int .i64 (S : Int)) := hk1.cell 3
   have jf3 := hk1.frozen 3
   have jfl := hk1.lt
   go_wp2_with fail
   refine (HO.out _ hxE hyE).mono ?_
   rintro _ w1 ⟨S1, N1, G1, D1, T1, c1, c2, c3, c4, c5, rfl, rv, hb1⟩
   clear j0 j1 j2 j3 jf0 jf1 jf2 jf3 jfl
   have hB1 := bstep hbE hb1
   have hs1 := hb1.size
   replace hk1 := hk1.keep hb1
   replace hk2 := hk2.keep hb1
   have q0 : World.cell? w1 ⟨(w.heap.size + 1), 0, none⟩ = some (.slice none 0 0) := hk2.cell 0
   have f0 := hk2.frozen 0
   have q1 : World.cell? w1 ⟨(w.heap.size + 1), 1, none⟩ = some (.slice none 0 0) := hk2.cell 1
   have f1 := hk2.frozen 1
   have q2 : World.cell? w1 ⟨(w.heap.size + 1), 2, none⟩ = some (.slice none 0 0) := hk2.cell 2
   have f2 := hk2.frozen 2
   have q3 : World.cell? w1 ⟨(w.heap.size + 1), 3, none⟩ = some (.slice none 0 0) := hk2.cell 3
   have f3 := hk2.frozen 3
   have q4 : World.cell? w1 ⟨(w.heap.size + 1), 4, none⟩ = some (.slice none 0 0) := hk2.cell 4
   have f4 := hk2.frozen 4
   have fl := hk2.lt
   go_wp2
   refine bodyPost_ret (v := .tuple #[.agg #[.slice none 0 0, .slice none 0 0, .slice none 0 0, .slice none 0 0, .slice none 0 0], .int .i64 0, .int .i64 4]) (by simp [results, Try.results24, go_sem, q0, q1, q2, q3, q4, f0, f1, f2, f3, f4, fl]) rfl ?_
   exact (run_fin (c1 := 0) (c2 := 0) (c3 := 0) (c4 := 0) (c5 := 0) HF.out RW.none hk2 hB1 (by omega)).alloc _
  ·have d400 : decide (400 < (l.length : Int)) = false := by simp; omega
   have HF := Lib.hid (HR2.out h400)
   clear HR HR2
   go_enter Try.func24, Try.ntmps24
   go_wp2_with fail
   rw [← hwE]
   clear hwE
   have j0 : World.cell? wE ⟨w.heap.size, 0, none⟩ = some (.slice X xs.length cx) := hk1.cell 0
   have jf0 := hk1.frozen 0
   have j1 : World.cell? wE ⟨w.heap.size, 1, none⟩ = some (.slice Y ys.length cy) := hk1.cell 1
   have jf1 := hk1.frozen 1
   have j2 : World.cell? wE ⟨w.heap.size, 2, none⟩ = some (.int .i64 (M : Int)) := hk1.cell 2
   have jf2 := hk1.frozen 2
   have j3 : World.cell? wE ⟨w.heap.size, 3, none⟩ = some (.int .i64 (S : Int)) := hk1.cell 3
   have jf3 := hk1.frozen 3
   have jfl := hk1.lt
   go_wp2_with fail
   refine (HO.out _ hxE hyE).mono ?_
   rintro _ w1 ⟨S1, N1, G1, D1, T1, c1, c2, c3, c4, c5, rfl, rv, hb1⟩
   clear j0 j1 j2 j3 jf0 jf1 jf2 jf3 jfl
   have hB1 := bstep hbE hb1
   have hs1 := hb1.size
   replace hk1 := hk1.keep hb1
   replace hk2 := hk2.keep hb1
   replace hxE := hxE.keep hb1
   replace hyE := hyE.keep hb1
   replace hAE := hAE.keep hb1
   go_wp2
   go_loopg [31] l.length (fun gk i wr => ∃ (k : Nat) (d : List Bool) (t : List Int) (S6 N6 G6 D6 T6 : Option Addr) (x1 x2 x3 x4 x5 : Nat), k + gk = l.length ∧ i = .int .i64 k ∧ Hid (runL (d0, t0) l 0 = runL (d, t) (l.drop k) k) ∧ Good19 C d t ∧ Blk wr w1.heap.size 42 #[.slice S6 (SM d).s.length x1, .slice N6 (SM d).n.length x2, .slice G6 (SM d).g.length x3, .slice D6 d.length x4, .slice T6 t.length x5] ∧ RW wr S6 N6 G6 D6 T6 ⟨SM d, d, t⟩ ∧ Below w1.heap.size w1 wr)
   case atStart => exact ⟨0, d0, t0, S1, N1, G1, D1, T1, c1, c2, c3, c4, c5, by omega, rfl, Lib.hid rfl, hG0, Blk.new _ _ _, rv.keep (balloc (Below.refl _ _) _), balloc (Below.refl _ _) _⟩
   case round =>
    obtain ⟨k, d, t, S6, N6, G6, D6, T6, x1, x2, x3, x4, x5, hk, rfl, hrun, hG, hkV, rw6, hb⟩ := hrel
    have hk' : k ≤ l.length := by omega
    have HK := Lib.hid hk
    clear hk
    have hkJ := hk1.keep hb
    have hkR := hk2.keep hb
    have hxr := hxE.keep hb
    have hyr := hyE.keep hb
    have hAr := hAE.keep hb
    have hBr := bstep hB1 hb
    have hsr := hb.size
    have hlV := hkV.lt
    by_cases hlt : k < l.length
    ·obtain ⟨ba, oa, hAe, hal, hac⟩ := hAr (by omega)
     obtain ⟨a1, a2, a3⟩ := hac k hlt
     have hdrop : l.drop k = l[k] :: l.drop (k + 1) := List.drop_eq_getElem_cons hlt
     have hrun2 := hrun.out
     rw [hdrop] at hrun2
     have HRUN := Lib.hid hrun2
     clear hac hAr hAE hrun hrun2 hdrop
     subst hAe
     generalize l[k] = ev at *
     obtain ⟨ek, eu, eb⟩ := ev
     simp only at a1 a2 a3
     obtain ⟨⟨⟨d', t'⟩, qe⟩, hq⟩ : ∃ q, stepS d t ⟨ek, eu, eb⟩ = q := ⟨_, rfl⟩
     have HSk := Lib.hid (HS.out d t hG S6 N6 G6 D6 T6 x1 x2 x3 x4 x5 ek eu eb)
     rw [hq, HST.out] at HSk
     by_cases hqe : qe = 0
     ·subst hqe
      have hG2 : Good19 C d' t' := by
       have := HG.out d t ⟨ek, eu, eb⟩ hG (by rw [hq])
       rwa [hq] at this
      have HRN := Lib.hid (HRUN.out.trans (runL_step hq))
      rw [if_neg (by simp)] at HSk
      simp only [hWS] at HSk
      clear HRUN hq HS HST
      have j0 : World.cell? wr ⟨w.heap.size, 0, none⟩ = some (.slice X xs.length cx) := hkJ.cell 0
      have jf0 := hkJ.frozen 0
      have j1 : World.cell? wr ⟨w.heap.size, 1, none⟩ = some (.slice Y ys.length cy) := hkJ.cell 1
      have jf1 := hkJ.frozen 1
      have j2 : World.cell? wr ⟨w.heap.size, 2, none⟩ = some (.int .i64 (M : Int)) := hkJ.cell 2
      have jf2 := hkJ.frozen 2
      have j3 : World.cell? wr ⟨w.heap.size, 3, none⟩ = some (.int .i64 (S : Int)) := hkJ.cell 3
      have jf3 := hkJ.frozen 3
      have jfl := hkJ.lt
      have p0 : World.cell? wr ⟨w1.heap.size, 0, none⟩ = some (.slice S6 (SM d).s.length x1) := hkV.cell 0
      have g0 := hkV.frozen 0
      have p1 : World.cell? wr ⟨w1.heap.size, 1, none⟩ = some (.slice N6 (SM d).n.length x2) := hkV.cell 1
      have g1 := hkV.frozen 1
      have p2 : World.cell? wr ⟨w1.heap.size, 2, none⟩ = some (.slice G6 (SM d).g.length x3) := hkV.cell 2
      have g2 := hkV.frozen 2
      have p3 : World.cell? wr ⟨w1.heap.size, 3, none⟩ = some (.slice D6 d.length x4) := hkV.cell 3
      have g3 := hkV.frozen 3
      have p4 : World.cell? wr ⟨w1.heap.size, 4, none⟩ = some (.slice T6 t.length x5) := hkV.cell 4
      have g4 := hkV.frozen 4
      have gl := hkV.lt
      go_wp2_with fail
      refine (HSk.out _ (hxr.keep (balloc (Below.refl _ _) _)) (hyr.keep (balloc (Below.refl _ _) _)) (rw6.keep (balloc (Below.refl _ _) _))).mono ?_
      rintro _ w3 ⟨S7, N7, G7, D7, T7, y1, y2, y3, y4, y5, rfl, rv7, hb3⟩
      clear j0 j1 j2 j3 jf0 jf1 jf2 jf3 jfl
      have hb3' := bstep (balloc (Below.refl wr.heap.size wr) _) hb3
      have hkV3 := hkV.keep hb3'
      have hb13 := bstep hb hb3'
      clear p0 p1 p2 p3 p4 g0 g1 g2 g3 g4 gl hkV
      have p0 : World.cell? w3 ⟨w1.heap.size, 0, none⟩ = some (.slice S6 (SM d).s.length x1) := hkV3.cell 0
      have g0 := hkV3.frozen 0
      have p1 : World.cell? w3 ⟨w1.heap.size, 1, none⟩ = some (.slice N6 (SM d).n.length x2) := hkV3.cell 1
      have g1 := hkV3.frozen 1
      have p2 : World.cell? w3 ⟨w1.heap.size, 2, none⟩ = some (.slice G6 (SM d).g.length x3) := hkV3.cell 2
      have g2 := hkV3.frozen 2
      have p3 : World.cell? w3 ⟨w1.heap.size, 3, none⟩ = some (.slice D6 d.length x4) := hkV3.cell 3
      have g3 := hkV3.frozen 3
      have p4 : World.cell? w3 ⟨w1.heap.size, 4, none⟩ = some (.slice T6 t.length x5) := hkV3.cell 4
      have g4 := hkV3.frozen 4
      have gl := hkV3.lt
      go_wp2
      go_roundg (gk - 1)
      case rel => exact ⟨k + 1, d', t', S7, N7, G7, D7, T7, y1, y2, y3, y4, y5, by have := HK.out; omega, by go_num, HRN, hG2, ((rv7.put5 hkV3).2).alloc _, ((rv7.put5 hkV3).1).keep (balloc (Below.refl _ _) _), balloc (((((hb13.setCell (p := ⟨w1.heap.size, 0, none⟩) (Nat.le_refl _) _).setCell (p := ⟨w1.heap.size, 1, none⟩) (Nat.le_refl _) _).setCell (p := ⟨w1.heap.size, 2, none⟩) (Nat.le_refl _) _).setCell (p := ⟨w1.heap.size, 3, none⟩) (Nat.le_refl _) _).setCell (p := ⟨w1.heap.size, 4, none⟩) (Nat.le_refl _) _) _⟩
      case measure => have := HK.out; omega
     ·have hqe' : (qe != 0) = true := by simp [hqe]
      have HRN := Lib.hid (HRUN.out.trans (runL_stop hq hqe))
      rw [if_pos (by simpa using hqe)] at HSk
      have HFF := Lib.hid (show RES = ((⟨SM d, d, t⟩, (k : Int)), qe) by rw [HF.out, HRN.out]; simp only [hWS])
      clear HRUN hq HS HST HF HRN hqe HG
      have j0 : World.cell? wr ⟨w.heap.size, 0, none⟩ = some (.slice X xs.length cx) := hkJ.cell 0
      have jf0 := hkJ.frozen 0
      have j1 : World.cell? wr ⟨w.heap.size, 1, none⟩ = some (.slice Y ys.length cy) := hkJ.cell 1
      have jf1 := hkJ.frozen 1
      have j2 : World.cell? wr ⟨w.heap.size, 2, none⟩ = some (.int .i64 (M : Int)) := hkJ.cell 2
      have jf2 := hkJ.frozen 2
      have j3 : World.cell? wr ⟨w.heap.size, 3, none⟩ = some (.int .i64 (S : Int)) := hkJ.cell 3
      have jf3 := hkJ.frozen 3
      have jfl := hkJ.lt
      have p0 : World.cell? wr ⟨w1.heap.size, 0, none⟩ = some (.slice S6 (SM d).s.length x1) := hkV.cell 0
      have g0 := hkV.frozen 0
      have p1 : World.cell? wr ⟨w1.heap.size, 1, none⟩ = some (.slice N6 (SM d).n.length x2) := hkV.cell 1
      have g1 := hkV.frozen 1
      have p2 : World.cell? wr ⟨w1.heap.size, 2, none⟩ = some (.slice G6 (SM d).g.length x3) := hkV.cell 2
      have g2 := hkV.frozen 2
      have p3 : World.cell? wr ⟨w1.heap.size, 3, none⟩ = some (.slice D6 d.length x4) := hkV.cell 3
      have g3 := hkV.frozen 3
      have p4 : World.cell? wr ⟨w1.heap.size, 4, none⟩ = some (.slice T6 t.length x5) := hkV.cell 4
      have g4 := hkV.frozen 4
      have gl := hkV.lt
      go_wp2_with fail
      refine (HSk.out _ (hxr.keep (balloc (Below.refl _ _) _)) (hyr.keep (balloc (Below.refl _ _) _)) (rw6.keep (balloc (Below.refl _ _) _))).mono ?_
      rintro _ w3 ⟨S7, N7, G7, D7, T7, y1, y2, y3, y4, y5, rfl, rv7, hb3⟩
      clear j0 j1 j2 j3 jf0 jf1 jf2 jf3 jfl
      have hb3' := bstep (balloc (Below.refl wr.heap.size wr) _) hb3
      have hkV3 := hkV.keep hb3'
      have hkR3 := hkR.keep hb3'
      have hB3 := bstep hBr hb3'
      have rw63 := rw6.keep hb3'
      clear p0 p1 p2 p3 p4 g0 g1 g2 g3 g4 gl hkV
      have p0 : World.cell? w3 ⟨w1.heap.size, 0, none⟩ = some (.slice S6 (SM d).s.length x1) := hkV3.cell 0
      have g0 := hkV3.frozen 0
      have p1 : World.cell? w3 ⟨w1.heap.size, 1, none⟩ = some (.slice N6 (SM d).n.length x2) := hkV3.cell 1
      have g1 := hkV3.frozen 1
      have p2 : World.cell? w3 ⟨w1.heap.size, 2, none⟩ = some (.slice G6 (SM d).g.length x3) := hkV3.cell 2
      have g2 := hkV3.frozen 2
      have p3 : World.cell? w3 ⟨w1.heap.size, 3, none⟩ = some (.slice D6 d.length x4) := hkV3.cell 3
      have g3 := hkV3.frozen 3
      have p4 : World.cell? w3 ⟨w1.heap.size, 4, none⟩ = some (.slice T6 t.length x5) := hkV3.cell 4
      have g4 := hkV3.frozen 4
      have gl := hkV3.lt
      have q0 : World.cell? w3 ⟨(w.heap.size + 1), 0, none⟩ = some (.slice none 0 0) := hkR3.cell 0
      have f0 := hkR3.frozen 0
      have q1 : World.cell? w3 ⟨(w.heap.size + 1), 1, none⟩ = some (.slice none 0 0) := hkR3.cell 1
      have f1 := hkR3.frozen 1
      have q2 : World.cell? w3 ⟨(w.heap.size + 1), 2, none⟩ = some (.slice none 0 0) := hkR3.cell 2
      have f2 := hkR3.frozen 2
      have q3 : World.cell? w3 ⟨(w.heap.size + 1), 3, none⟩ = some (.slice none 0 0) := hkR3.cell 3
      have f3 := hkR3.frozen 3
      have q4 : World.cell? w3 ⟨(w.heap.size + 1), 4, none⟩ = some (.slice none 0 0) := hkR3.cell 4
      have f4 := hkR3.frozen 4
      have fl := hkR3.lt
      go_wp2
      refine bodyPost_ret (v := .tuple #[.agg #[.slice S6 (SM d).s.length x1, .slice N6 (SM d).n.length x2, .slice G6 (SM d).g.length x3, .slice D6 d.length x4, .slice T6 t.length x5], .int .i64 (k : Int), .int .i64 qe]) (by simp [results, Try.results24, go_sem, q0, q1, q2, q3, q4, f0, f1, f2, f3, f4, fl, p0, p1, p2, p3, p4]) rfl ?_
      exact (run_fin HFF.out rw63 hkR3 hB3 (by omega)).alloc _
    ·have hkl : k = l.length := by omega
     have hrun2 := hrun.out
     rw [hkl, List.drop_length] at hrun2
     have HFF := Lib.hid (show RES = ((⟨SM d, d, t⟩, (l.length : Int)), 0) by rw [HF.out, hrun2]; simp only [runL, hWS])
     clear hrun hrun2 HF HS HST HG
     have p0 : World.cell? wr ⟨w1.heap.size, 0, none⟩ = some (.slice S6 (SM d).s.length x1) := hkV.cell 0
     have g0 := hkV.frozen 0
     have p1 : World.cell? wr ⟨w1.heap.size, 1, none⟩ = some (.slice N6 (SM d).n.length x2) := hkV.cell 1
     have g1 := hkV.frozen 1
     have p2 : World.cell? wr ⟨w1.heap.size, 2, none⟩ = some (.slice G6 (SM d).g.length x3) := hkV.cell 2
     have g2 := hkV.frozen 2
     have p3 : World.cell? wr ⟨w1.heap.size, 3, none⟩ = some (.slice D6 d.length x4) := hkV.cell 3
     have g3 := hkV.frozen 3
     have p4 : World.cell? wr ⟨w1.heap.size, 4, none⟩ = some (.slice T6 t.length x5) := hkV.cell 4
     have g4 := hkV.frozen 4
     have gl := hkV.lt
     have q0 : World.cell? wr ⟨(w.heap.size + 1), 0, none⟩ = some (.slice none 0 0) := hkR.cell 0
     have f0 := hkR.frozen 0
     have q1 : World.cell? wr ⟨(w.heap.size + 1), 1, none⟩ = some (.slice none 0 0) := hkR.cell 1
     have f1 := hkR.frozen 1
     have q2 : World.cell? wr ⟨(w.heap.size + 1), 2, none⟩ = some (.slice none 0 0) := hkR.cell 2
     have f2 := hkR.frozen 2
     have q3 : World.cell? wr ⟨(w.heap.size + 1), 3, none⟩ = some (.slice none 0 0) := hkR.cell 3
     have f3 := hkR.frozen 3
     have q4 : World.cell? wr ⟨(w.heap.size + 1), 4, none⟩ = some (.slice none 0 0) := hkR.cell 4
     have f4 := hkR.frozen 4
     have fl := hkR.lt
     go_wp2
     refine bodyPost_ret (v := .tuple #[.agg #[.slice S6 (SM d).s.length x1, .slice N6 (SM d).n.length x2, .slice G6 (SM d).g.length x3, .slice D6 d.length x4, .slice T6 t.length x5], .int .i64 (l.length : Int), .int .i64 0]) (by simp [results, Try.results24, go_sem, q0, q1, q2, q3, q4, f0, f1, f2, f3, f4, fl, p0, p1, p2, p3, p4]) rfl ?_
     exact run_fin HFF.out rw6 hkR hBr (by omega)
 ·have e1 : ((openS xs ys m s n).2 != 0) = true := by simp [he]
  have HR : Hid (runS xs ys m s n l = ((.none, 0), (openS xs ys m s n).2)) := Lib.hid (by unfold runS; rw [if_pos he])
  rw [openS_bad he] at HO
  generalize (openS xs ys m s n).2 = E at *
  clear he
  go_enter Try.func24, Try.ntmps24
  go_wp2_with fail
  rw [← hwE]
  clear hwE
  have j0 : World.cell? wE ⟨w.heap.size, 0, none⟩ = some (.slice X xs.length cx) := hk1.cell 0
  have jf0 := hk1.frozen 0
  have j1 : World.cell? wE ⟨w.heap.size, 1, none⟩ = some (.slice Y ys.length cy) := hk1.cell 1
  have jf1 := hk1.frozen 1
  have j2 : World.cell? wE ⟨w.heap.size, 2, none⟩ = some (.int .i64 m) := hk1.cell 2
  have jf2 := hk1.frozen 2
  have j3 : World.cell? wE ⟨w.heap.size, 3, none⟩ = some (.int .i64 s) := hk1.cell 3
  have jf3 := hk1.frozen 3
  have jfl := hk1.lt
  go_wp2_with fail
  refine (HO.out _ hxE hyE).mono ?_
  rintro _ w1 ⟨S1, N1, G1, D1, T1, c1, c2, c3, c4, c5, rfl, rv, hb1⟩
  clear j0 j1 j2 j3 jf0 jf1 jf2 jf3 jfl
  have hB1 := bstep hbE hb1
  have hs1 := hb1.size
  replace hk1 := hk1.keep hb1
  replace hk2 := hk2.keep hb1
  have q0 : World.cell? w1 ⟨(w.heap.size + 1), 0, none⟩ = some (.slice none 0 0) := hk2.cell 0
  have f0 := hk2.frozen 0
  have q1 : World.cell? w1 ⟨(w.heap.size + 1), 1, none⟩ = some (.slice none 0 0) := hk2.cell 1
  have f1 := hk2.frozen 1
  have q2 : World.cell? w1 ⟨(w.heap.size + 1), 2, none⟩ = some (.slice none 0 0) := hk2.cell 2
  have f2 := hk2.frozen 2
  have q3 : World.cell? w1 ⟨(w.heap.size + 1), 3, none⟩ = some (.slice none 0 0) := hk2.cell 3
  have f3 := hk2.frozen 3
  have q4 : World.cell? w1 ⟨(w.heap.size + 1), 4, none⟩ = some (.slice none 0 0) := hk2.cell 4
  have f4 := hk2.frozen 4
  have fl := hk2.lt
  go_wp2
  refine bodyPost_ret (v := .tuple #[.agg #[.slice none 0 0, .slice none 0 0, .slice none 0 0, .slice none 0 0, .slice none 0 0], .int .i64 0, .int .i64 E]) (by simp [results, Try.results24, go_sem, q0, q1, q2, q3, q4, f0, f1, f2, f3, f4, fl]) rfl ?_
  exact (run_fin (c1 := 0) (c2 := 0) (c3 := 0) (c4 := 0) (c5 := 0) HR.out RW.none hk2 hB1 (by omega)).alloc _
end Wk
end Go.Proofs.Ytdekbncpodjgnaa
