/-
  Parts of the proof of WorkerNames: WkN WkI.
-/
import Derived.Test.YtdekbncpodjgnaaT22
import Derived.Test.YtdekbncpodjgnaaT23
import Derived.Test.YtdekbncpodjgnaaT03
import Derived.Deep.RegionHeld3
import Derived.Test.YtdekbncpodjgnaaT01
import Derived.Test.YtdekbncpodjgnaaT02
import Derived.Lib.SmallJoins
import Derived.Test.YtdekbncpodjgnaaT17
import Derived.Test.YtdekbncpodjgnaaT13
import Derived.Deep.Strs
import Derived.Deep.Onto
import Derived.Deep.DrawnRows
import Derived.Deep.RegionLaw
import Derived.Laws.CopyOwn
namespace Go.Proofs.Ytdekbncpodjgnaa
open Go.RowKit Runs Lagc Reg
set_option linter.unusedVariables false
set_option linter.unusedSimpArgs false
namespace Wk
open Lagw
theorem stateErr_work {xs ys : List Int} {M S : Nat} (hj : Job xs ys M S) {st : List Bool × List Int} (hG : Good19 (cdiv xs.length S) st.1 st.2) : stateErr xs ys M S (workS xs ys M S st) = 0 := by
 have he : jobErr xs ys M S = 0 := jobErr_ok hj.x hj.y (by rw [Int.toNat_natCast]; have := hj.m; have := hj.s; have := hj.s2; have := hj.c; omega)
 refine stateErr_ok he ?_
 unfold stateB workS
 simp only [Bool.and_eq_true, decide_eq_true_eq]
 refine ⟨⟨⟨hG.d, hG.t0, hG.t6⟩, ?_⟩, sameB_iff.2 rfl⟩
 rw [atB, List.all_eq_true]
 intro x hx
 rw [decide_eq_true_eq]
 exact hG.at_ x hx
def sumsF (xs ys : List Int) (M S : Nat) (d : List Bool) (k : Nat) : Int × Int := (sumD (fun b => ((lagB xs ys M S b).getD k (0, 0)).1) d 0, sumD (fun b => ((lagB xs ys M S b).getD k (0, 0)).2) d 0)
theorem res_work {xs ys : List Int} {M S : Nat} (hj : Job xs ys M S) {st : List Bool × List Int} (hG : Good19 (cdiv xs.length S) st.1 st.2) : resS xs ys M S (workS xs ys M S st) = if st.1.all id = true then (fullL (sumsF xs ys M S st.1) (2 * M + 1), 0) else ([], 22) := by
 unfold resS
 rw [if_neg (by rw [stateErr_work hj hG]; simp), Int.toNat_natCast]
 have hI := sumA_is hj hG.d
 have e : fullL (cellF (workS xs ys M S st).a) (2 * M + 1) = fullL (sumsF xs ys M S st.1) (2 * M + 1) := fullL_congr fun k hk => by
  show (val ((sumA xs ys M S st.1).s.getD k (0, 0)), val ((sumA xs ys M S st.1).n.getD k (0, 0))) = _
  rw [hI.vs k hk, hI.vn k hk]
  rfl
 rw [e]
 rfl
def gX : List Int := [1, 3, -1]
def gY : List Int := [1, 1, 1]
def hapL : List Ev := [⟨1, 0, 0⟩, ⟨1, 1, 1⟩, ⟨4, 0, 0⟩, ⟨1, 1, 1⟩, ⟨2, 1, 0⟩, ⟨1, 1, 0⟩, ⟨2, 1, 0⟩]
theorem gJob : Job gX gY 0 2 := ⟨by decide +kernel, by decide +kernel, by omega, by omega, by omega, by decide +kernel⟩
theorem g_blocks : blocksS gX gY 0 2 = (2, 0) := by decide +kernel
theorem g_part0 : partS gX gY 0 2 0 = ([(4, 2)], 0) := by decide +kernel
theorem g_part1 : partS gX gY 0 2 1 = ([(-1, 1)], 0) := by decide +kernel
theorem g_open : (openS gX gY 0 2 2).2 = 0 := by decide +kernel
theorem g_run7 : runL (start19 (cdiv gX.length 2) 2) hapL 0 = ((([true, true], [-1, -1]), 7), 0) := by decide +kernel
theorem g_run6 : runL (start19 (cdiv gX.length 2) 2) (hapL.take 6) 0 = ((([false, true], [-1, 0]), 6), 0) := by decide +kernel
theorem g_sums : fullL (sumsF gX gY 0 2 [true, true]) (2 * 0 + 1) = [(3, 3)] := by decide +kernel
theorem g_runA : runS gX gY ((0 : Nat) : Int) ((2 : Nat) : Int) 2 hapL = ((workS gX gY 0 2 ([true, true], [-1, -1]), 7), 0) := by
 unfold runS
 rw [if_neg (by rw [show ((2 : Nat) : Int) = 2 by rfl, show ((0 : Nat) : Int) = 0 by rfl, g_open]; simp), if_neg (by decide)]
 have h := g_run7
 simp only [Int.toNat_natCast]
 rw [show (2 : Int).toNat = 2 by rfl, h]
 rfl
theorem g_runB : runS gX gY ((0 : Nat) : Int) ((2 : Nat) : Int) 2 (hapL.take 6) = ((workS gX gY 0 2 ([false, true], [-1, 0]), 6), 0) := by
 unfold runS
 rw [if_neg (by rw [show ((2 : Nat) : Int) = 2 by rfl, show ((0 : Nat) : Int) = 0 by rfl, g_open]; simp), if_neg (by decide)]
 have h := g_run6
 simp only [Int.toNat_natCast]
 rw [show (2 : Int).toNat = 2 by rfl, h]
 rfl
theorem g_resA : resS gX gY ((0 : Nat) : Int) ((2 : Nat) : Int) (workS gX gY 0 2 ([true, true], [-1, -1])) = ([(3, 3)], 0) := by
 rw [res_work gJob ⟨by decide, by decide, by decide, by decide⟩, if_pos (by decide), g_sums]
theorem g_resB : resS gX gY ((0 : Nat) : Int) ((2 : Nat) : Int) (workS gX gY 0 2 ([false, true], [-1, 0])) = ([], 22) := by
 rw [res_work gJob ⟨by decide, by decide, by decide, by decide⟩, if_neg (by decide)]
theorem given_any (w : World) : Calls Try.prog 33 #[] w fun e w' => ∃ X Y, e = .returned (.agg #[.slice X 3 3, .slice Y 3 3, .int .i64 0, .int .i64 2]) ∧ RI .i64 w' X gX ∧ RI .i64 w' Y gY ∧ Below w.heap.size w w' := by
 have hk := Blk.new w 24 #[.slice none 0 0, .slice none 0 0, .int .i64 0, .int .i64 0]
 have q0 : World.cell? (w.alloc (.cells #[.slice none 0 0, .slice none 0 0, .int .i64 0, .int .i64 0] 24)) ⟨w.heap.size, 0, none⟩ = some (.slice none 0 0) := hk.cell 0
 have f0 := hk.frozen 0
 have q1 : World.cell? (w.alloc (.cells #[.slice none 0 0, .slice none 0 0, .int .i64 0, .int .i64 0] 24)) ⟨w.heap.size, 1, none⟩ = some (.slice none 0 0) := hk.cell 1
 have f1 := hk.frozen 1
 have q2 : World.cell? (w.alloc (.cells #[.slice none 0 0, .slice none 0 0, .int .i64 0, .int .i64 0] 24)) ⟨w.heap.size, 2, none⟩ = some (.int .i64 0) := hk.cell 2
 have f2 := hk.frozen 2
 have q3 : World.cell? (w.alloc (.cells #[.slice none 0 0, .slice none 0 0, .int .i64 0, .int .i64 0] 24)) ⟨w.heap.size, 3, none⟩ = some (.int .i64 0) := hk.cell 3
 have f3 := hk.frozen 3
 have fl := hk.lt
 go_enter Try.func33, Try.ntmps33
 go_wp2
 refine bodyPost_ret (v := .agg #[.slice (some ⟨w.heap.size + 1, 0, none⟩) 3 3, .slice (some ⟨w.heap.size + 1 + 1, 0, none⟩) 3 3, .int .i64 0, .int .i64 2]) (by simp [results, Try.results33, go_sem]) rfl ⟨_, _, rfl, ?_, ?_, balloc (balloc (balloc (Below.refl _ _) _) _) _⟩
 ·exact blk_RI (e := 3) ((Blk.newAt _ _ (by simp)).alloc _)
 ·exact blk_RI (e := 3) (Blk.newAt _ _ (by simp))
theorem happens_any (w : World) : Calls Try.prog 35 #[] w fun e w' => ∃ A, e = .returned (.slice (some ⟨A, 0, none⟩) 7 7) ∧ RE w' (some ⟨A, 0, none⟩) hapL ∧ Below w.heap.size w w' := by
 go_enter Try.func35, Try.ntmps35
 go_wp2
 go_ret
 refine ⟨_, rfl, fun _ => ⟨_, 0, rfl, by simp, fun j hj => ?_⟩, balloc (Below.refl _ _) _⟩
 have hk := Blk.new w 54 #[.int .u8 1, .int .i64 0, .int .i64 0, .int .u8 1, .int .i64 1, .int .i64 1, .int .u8 4, .int .i64 0, .int .i64 0, .int .u8 1, .int .i64 1, .int .i64 1, .int .u8 2, .int .i64 1, .int .i64 0, .int .u8 1, .int .i64 1, .int .i64 0, .int .u8 2, .int .i64 1, .int .i64 0]
 match j, hj with
 | 0, _ => exact ⟨hk.cell 0, hk.cell 1, hk.cell 2⟩
 | 1, _ => exact ⟨hk.cell 3, hk.cell 4, hk.cell 5⟩
 | 2, _ => exact ⟨hk.cell 6, hk.cell 7, hk.cell 8⟩
 | 3, _ => exact ⟨hk.cell 9, hk.cell 10, hk.cell 11⟩
 | 4, _ => exact ⟨hk.cell 12, hk.cell 13, hk.cell 14⟩
 | 5, _ => exact ⟨hk.cell 15, hk.cell 16, hk.cell 17⟩
 | 6, _ => exact ⟨hk.cell 18, hk.cell 19, hk.cell 20⟩
 | j + 7, h => exact absurd h (by simp [hapL])
theorem RE.take {w : World} {A : Option Addr} {l : List Ev} (h : RE w A l) (n : Nat) : RE w A (l.take n) := by
 intro h0
 have h1 : 0 < l.length := by rw [List.length_take] at h0; omega
 obtain ⟨b, off, e, hlt, hc⟩ := h h1
 refine ⟨b, off, e, hlt, fun j hj => ?_⟩
 have := hc j (by rw [List.length_take] at hj; omega)
 rw [List.getElem_take]
 exact this
theorem work_small {xs ys : List Int} {M S : Nat} (hj : Job xs ys M S) {st : List Bool × List Int} (hG : Good19 (cdiv xs.length S) st.1 st.2) : (workS xs ys M S st).a.s.length ≤ 511 ∧ (workS xs ys M S st).a.n.length ≤ 511 ∧ (workS xs ys M S st).a.g.length ≤ 64 ∧ (workS xs ys M S st).d.length ≤ 64 ∧ (workS xs ys M S st).t.length ≤ 6 := by
 have hf := (sumA_is hj hG.d).fine
 have h1 := hf.ls
 have h2 := hf.ln
 have h3 := hf.lg
 have h4 := hj.c
 have h5 := hG.d
 have h6 := hG.t6
 show (sumA xs ys M S st.1).s.length ≤ 511 ∧ (sumA xs ys M S st.1).n.length ≤ 511 ∧ (sumA xs ys M S st.1).g.length ≤ 64 ∧ st.1.length ≤ 64 ∧ st.2.length ≤ 6
 omega
theorem lit_RL {w : World} {g : Nat} {x : Int × Int} (h : Blk w g 75 #[.int .i64 x.1, .int .i64 x.2]) : RL w (some ⟨g, 0, none⟩) [x] := by
 intro _
 refine ⟨g, 0, rfl, h.lt, fun j hj => ?_⟩
 have : j = 0 := by simpa using hj
 subst this
 exact ⟨h.cell 0, h.cell 1⟩
set_option maxRecDepth 20000 in
set_option maxHeartbeats 4000000 in
theorem alive19 (w : World) : Calls Try.prog 28 #[] w fun e w' => e = .returned (.bool true) ∧ Below w.heap.size w w' := by
 have HB : Hid (∀ X Y w, RI .i64 w X gX → RI .i64 w Y gY → Calls Try.prog 10 #[.agg #[.slice X 3 3, .slice Y 3 3, .int .i64 0, .int .i64 2]] w (RetB w (2, 0))) := Lib.hid (fun X Y w hx hy => by
  have := wkBlocks_any X Y 3 3 gX gY 0 2 w hx hy (by decide) (by decide)
  rw [g_blocks] at this
  exact this)
 have HP0 : Hid (∀ X Y w, RI .i64 w X gX → RI .i64 w Y gY → Calls Try.prog 12 #[.agg #[.slice X 3 3, .slice Y 3 3, .int .i64 0, .int .i64 2], .int .i64 0] w (RetQ 75 w ([(4, 2)], 0))) := Lib.hid (fun X Y w hx hy => by
  have := wkPart_any X Y 3 3 gX gY 0 2 0 w hx hy (by decide) (by decide) (by decide)
  rw [g_part0] at this
  exact this)
 have HP1 : Hid (∀ X Y w, RI .i64 w X gX → RI .i64 w Y gY → Calls Try.prog 12 #[.agg #[.slice X 3 3, .slice Y 3 3, .int .i64 0, .int .i64 2], .int .i64 1] w (RetQ 75 w ([(-1, 1)], 0))) := Lib.hid (fun X Y w hx hy => by
  have := wkPart_any X Y 3 3 gX gY 0 2 1 w hx hy (by decide) (by decide) (by decide)
  rw [g_part1] at this
  exact this)
 have sA := work_small (M := 0) (S := 2) (st := ([true, true], [-1, -1])) gJob ⟨by decide, by decide, by decide, by decide⟩
 have sB := work_small (M := 0) (S := 2) (st := ([false, true], [-1, 0])) gJob ⟨by decide, by decide, by decide, by decide⟩
 have HRA : Hid (∀ X Y A w, RI .i64 w X gX → RI .i64 w Y gY → RE w (some ⟨A, 0, none⟩) hapL → Calls Try.prog 24 #[.agg #[.slice X 3 3, .slice Y 3 3, .int .i64 0, .int .i64 2], .int .i64 2, .slice (some ⟨A, 0, none⟩) 7 7] w (RetR w ((workS gX gY 0 2 ([true, true], [-1, -1]), 7), 0))) := Lib.hid (fun X Y A w hx hy hA => by
  have := run_any X Y (some ⟨A, 0, none⟩) 3 3 7 gX gY ((0 : Nat) : Int) ((2 : Nat) : Int) 2 hapL w hx hy (by decide) (by decide) (by decide) hA (by decide)
  rw [g_runA] at this
  exact this)
 have HRB : Hid (∀ X Y A c w, RI .i64 w X gX → RI .i64 w Y gY → RE w (some ⟨A, 0, none⟩) (hapL.take 6) → Calls Try.prog 24 #[.agg #[.slice X 3 3, .slice Y 3 3, .int .i64 0, .int .i64 2], .int .i64 2, .slice (some ⟨A, 0, none⟩) 6 c] w (RetR w ((workS gX gY 0 2 ([false, true], [-1, 0]), 6), 0))) := Lib.hid (fun X Y A c w hx hy hA => by
  have := run_any X Y (some ⟨A, 0, none⟩) 3 3 c gX gY ((0 : Nat) : Int) ((2 : Nat) : Int) 2 (hapL.take 6) w hx hy (by decide) (by decide) (by decide) hA (by decide)
  rw [g_runB] at this
  exact this)
 have HSA : Hid (∀ X Y S N G D T c1 c2 c3 c4 c5 w, RI .i64 w X gX → RI .i64 w Y gY → RW w S N G D T (workS gX gY 0 2 ([true, true], [-1, -1])) → Calls Try.prog 26 #[.agg #[.slice X 3 3, .slice Y 3 3, .int .i64 0, .int .i64 2], .agg #[.slice S (workS gX gY 0 2 ([true, true], [-1, -1])).a.s.length c1, .slice N (workS gX gY 0 2 ([true, true], [-1, -1])).a.n.length c2, .slice G (workS gX gY 0 2 ([true, true], [-1, -1])).a.g.length c3, .slice D (workS gX gY 0 2 ([true, true], [-1, -1])).d.length c4, .slice T (workS gX gY 0 2 ([true, true], [-1, -1])).t.length c5]] w (RetQ 75 w ([(3, 3)], 0))) := Lib.hid (fun X Y S N G D T c1 c2 c3 c4 c5 w hx hy hr => by
  have := result_any X Y S N G D T 3 3 c1 c2 c3 c4 c5 gX gY ((0 : Nat) : Int) ((2 : Nat) : Int) _ w hx hy (by decide) (by decide) (by decide) hr (by omega) (by omega) (by omega) (by omega) (by omega)
  rw [g_resA] at this
  exact this)
 have HSB : Hid (∀ X Y S N G D T c1 c2 c3 c4 c5 w, RI .i64 w X gX → RI .i64 w Y gY → RW w S N G D T (workS gX gY 0 2 ([false, true], [-1, 0])) → Calls Try.prog 26 #[.agg #[.slice X 3 3, .slice Y 3 3, .int .i64 0, .int .i64 2], .agg #[.slice S (workS gX gY 0 2 ([false, true], [-1, 0])).a.s.length c1, .slice N (workS gX gY 0 2 ([false, true], [-1, 0])).a.n.length c2, .slice G (workS gX gY 0 2 ([false, true], [-1, 0])).a.g.length c3, .slice D (workS gX gY 0 2 ([false, true], [-1, 0])).d.length c4, .slice T (workS gX gY 0 2 ([false, true], [-1, 0])).t.length c5]] w (RetQ 75 w ([], 22))) := Lib.hid (fun X Y S N G D T c1 c2 c3 c4 c5 w hx hy hr => by
  have := result_any X Y S N G D T 3 3 c1 c2 c3 c4 c5 gX gY ((0 : Nat) : Int) ((2 : Nat) : Int) _ w hx hy (by decide) (by decide) (by decide) hr (by omega) (by omega) (by omega) (by omega) (by omega)
  rw [g_resB] at this
  exact this)
 have HQ : Hid (∀ (x : Int × Int) A B c d w, RL w A [x] → RL w B [x] → Calls Try.prog 18 #[.slice A 1 c, .slice B 1 d] w fun e w' => e = .returned (.bool true) ∧ ∃ n, w' = w.drewN n) := Lib.hid (fun x A B c d w hx hy => by
  have := Lagc.same16_any A B c d [x] [x] w hx hy (by simp) (by simp)
  rw [decide_eq_true rfl] at this
  exact this)
 generalize workS gX gY 0 2 ([true, true], [-1, -1]) = RA7 at *
 generalize workS gX gY 0 2 ([false, true], [-1, 0]) = RB7 at *
 clear sA sB
 go_enter Try.func28, Try.ntmps28
 go_wp2_with fail
 refine (given_any _).mono ?_
 rintro _ v1 ⟨X1, Y1, rfl, rx1, ry1, hb1⟩
 go_wp2_with fail
 refine (HB.out _ _ _ rx1 ry1).mono ?_
 rintro _ v2 ⟨rfl, hb2⟩
 have hB2 := bstep hb1 hb2
 clear hb1 hb2 rx1 ry1
 go_wp2_with fail
 refine (given_any _).mono ?_
 rintro _ v3 ⟨X3, Y3, rfl, rx3, ry3, hb3⟩
 go_wp2_with fail
 refine (HP0.out _ _ _ rx3 ry3).mono ?_
 rintro _ v4 ⟨A4, c4, rfl, ho4, hb4⟩
 replace ho4 := own_RL ho4
 have hB4 := bstep (bstep hB2 hb3) hb4
 clear hb3 hb4 rx3 ry3
 go_wp2_with fail
 refine (given_any _).mono ?_
 rintro _ v5 ⟨X5, Y5, rfl, rx5, ry5, hb5⟩
 go_wp2_with fail
 refine (HP1.out _ _ _ rx5 ry5).mono ?_
 rintro _ v6 ⟨A6, c6, rfl, ho6, hb6⟩
 replace ho6 := own_RL ho6
 have hB6 := bstep (bstep hB4 hb5) hb6
 replace ho4 := (ho4.keep hb5).keep hb6
 clear hb5 hb6 rx5 ry5
 go_wp2_with fail
 refine (given_any _).mono ?_
 rintro _ v7 ⟨X7, Y7, rfl, rx7, ry7, hb7⟩
 go_wp2_with fail
 refine (happens_any _).mono ?_
 rintro _ v8 ⟨A8, rfl, re8, hb8⟩
 go_wp2_with fail
 refine (HRA.out _ _ _ _ (rx7.keep hb8) (ry7.keep hb8) re8).mono ?_
 rintro _ v9 ⟨S7, N7, G7, D7, T7, e1, e2, e3, e4, e5, rfl, rw7, hb9⟩
 have hB9 := bstep (bstep (bstep hB6 hb7) hb8) hb9
 replace ho4 := ((ho4.keep hb7).keep hb8).keep hb9
 replace ho6 := ((ho6.keep hb7).keep hb8).keep hb9
 clear hb7 hb8 hb9 rx7 ry7 re8
 go_wp2_with fail
 obtain ⟨u9, hu9⟩ : ∃ u9, u9 = v9.alloc (.cells #[.slice S7 RA7.a.s.length e1, .slice N7 RA7.a.n.length e2, .slice G7 RA7.a.g.length e3, .slice D7 RA7.d.length e4, .slice T7 RA7.t.length e5] 42) := ⟨_, rfl⟩
 have hk7 : Blk u9 v9.heap.size 42 #[.slice S7 RA7.a.s.length e1, .slice N7 RA7.a.n.length e2, .slice G7 RA7.a.g.length e3, .slice D7 RA7.d.length e4, .slice T7 RA7.t.length e5] := by rw [hu9]; exact Blk.new _ _ _
 have hbu : Below v9.heap.size v9 u9 := by rw [hu9]; exact balloc (Below.refl _ _) _
 rw [← hu9]
 clear hu9
 have hBu := bstep hB9 hbu
 replace ho4 := ho4.keep hbu
 replace ho6 := ho6.keep hbu
 replace rw7 := rw7.keep hbu
 clear hbu hB2 hB4 hB6 hB9
 have HH := Lib.hid (fun W (hW : Below (World.heap u9).size u9 W) => (show W.cell? ⟨v9.heap.size, 0, none⟩ = some (.slice S7 RA7.a.s.length e1) ∧ W.cell? ⟨v9.heap.size, 1, none⟩ = some (.slice N7 RA7.a.n.length e2) ∧ W.cell? ⟨v9.heap.size, 2, none⟩ = some (.slice G7 RA7.a.g.length e3) ∧ W.cell? ⟨v9.heap.size, 3, none⟩ = some (.slice D7 RA7.d.length e4) ∧ W.cell? ⟨v9.heap.size, 4, none⟩ = some (.slice T7 RA7.t.length e5) ∧ v9.heap.size < W.heap.size from ⟨(hk7.keep hW).cell 0, (hk7.keep hW).cell 1, (hk7.keep hW).cell 2, (hk7.keep hW).cell 3, (hk7.keep hW).cell 4, (hk7.keep hW).lt⟩))
 have p0 : World.cell? u9 ⟨v9.heap.size, 0, none⟩ = some (.slice S7 RA7.a.s.length e1) := hk7.cell 0
 have g0 := hk7.frozen 0
 have p1 : World.cell? u9 ⟨v9.heap.size, 1, none⟩ = some (.slice N7 RA7.a.n.length e2) := hk7.cell 1
 have g1 := hk7.frozen 1
 have p2 : World.cell? u9 ⟨v9.heap.size, 2, none⟩ = some (.slice G7 RA7.a.g.length e3) := hk7.cell 2
 have g2 := hk7.frozen 2
 have p3 : World.cell? u9 ⟨v9.heap.size, 3, none⟩ = some (.slice D7 RA7.d.length e4) := hk7.cell 3
 have g3 := hk7.frozen 3
 have p4 : World.cell? u9 ⟨v9.heap.size, 4, none⟩ = some (.slice T7 RA7.t.length e5) := hk7.cell 4
 have g4 := hk7.frozen 4
 have gl := hk7.lt
 go_region_law
  ((first
    |(go_simp; go_at_call 33; (with_reducible refine (given_any (World.drew u9)).mono ?_); rintro e w8 ⟨X8, Y8, rfl, rx8, ry8, hb8'⟩; have hb8 : Below (World.heap u9).size u9 w8 := bstep (Below.drew (Below.refl _ _)) hb8'; have k0 := (HH.out _ hb8).1; have k1 := (HH.out _ hb8).2.1; have k2 := (HH.out _ hb8).2.2.1; have k3 := (HH.out _ hb8).2.2.2.1; have k4 := (HH.out _ hb8).2.2.2.2.1; have k5 := (HH.out _ hb8).2.2.2.2.2; have rw8 := rw7.keep hb8)
    |(go_simp; go_at_call 26; (with_reducible refine (HSA.out X8 Y8 S7 N7 G7 D7 T7 e1 e2 e3 e4 e5 w8 rx8 ry8 rw8).mono ?_); rintro e w9 ⟨A9, k9, rfl, ho9, hb9⟩)
    | fail))
 all_goals
  replace ho9 := own_RL ho9
  have hB10 := bstep (bstep hBu hb8) hb9
  replace ho4 := (ho4.keep hb8).keep hb9
  replace ho6 := (ho6.keep hb8).keep hb9
  clear hb8 hb9 rx8 ry8 rw8 k0 k1 k2 k3 k4 k5 hk7 rw7 HH p0 p1 p2 p3 p4 g0 g1 g2 g3 g4 gl hBu
  go_wp2_with fail
  refine (given_any _).mono ?_
  rintro _ v11 ⟨X11, Y11, rfl, rx11, ry11, hb11⟩
  go_wp2_with fail
  refine (happens_any _).mono ?_
  rintro _ v12 ⟨A12, rfl, re12, hb12⟩
  go_wp2_with fail
  refine (HRB.out _ _ _ _ _ (rx11.keep hb12) (ry11.keep hb12) (re12.take 6)).mono ?_
  rintro _ v13 ⟨S7, N7, G7, D7, T7, e1, e2, e3, e4, e5, rfl, rw7, hb13⟩
  have hB13 := bstep (bstep (bstep hB10 hb11) hb12) hb13
  replace ho4 := ((ho4.keep hb11).keep hb12).keep hb13
  replace ho6 := ((ho6.keep hb11).keep hb12).keep hb13
  replace ho9 := ((ho9.keep hb11).keep hb12).keep hb13
  clear hb11 hb12 hb13 rx11 ry11 re12 hB10
  go_wp2_with fail
  obtain ⟨u9, hu9⟩ : ∃ u9, u9 = v13.alloc (.cells #[.slice S7 RB7.a.s.length e1, .slice N7 RB7.a.n.length e2, .slice G7 RB7.a.g.length e3, .slice D7 RB7.d.length e4, .slice T7 RB7.t.length e5] 42) := ⟨_, rfl⟩
  have hk7 : Blk u9 v13.heap.size 42 #[.slice S7 RB7.a.s.length e1, .slice N7 RB7.a.n.length e2, .slice G7 RB7.a.g.length e3, .slice D7 RB7.d.length e4, .slice T7 RB7.t.length e5] := by rw [hu9]; exact Blk.new _ _ _
  have hbu : Below v13.heap.size v13 u9 := by rw [hu9]; exact balloc (Below.refl _ _) _
  rw [← hu9]
  clear hu9
  have hBu := bstep hB13 hbu
  replace ho4 := ho4.keep hbu
  replace ho6 := ho6.keep hbu
  replace ho9 := ho9.keep hbu
  replace rw7 := rw7.keep hbu
  clear hbu hB13
  have HH := Lib.hid (fun W (hW : Below (World.heap u9).size u9 W) => (show W.cell? ⟨v13.heap.size, 0, none⟩ = some (.slice S7 RB7.a.s.length e1) ∧ W.cell? ⟨v13.heap.size, 1, none⟩ = some (.slice N7 RB7.a.n.length e2) ∧ W.cell? ⟨v13.heap.size, 2, none⟩ = some (.slice G7 RB7.a.g.length e3) ∧ W.cell? ⟨v13.heap.size, 3, none⟩ = some (.slice D7 RB7.d.length e4) ∧ W.cell? ⟨v13.heap.size, 4, none⟩ = some (.slice T7 RB7.t.length e5) ∧ v13.heap.size < W.heap.size from ⟨(hk7.keep hW).cell 0, (hk7.keep hW).cell 1, (hk7.keep hW).cell 2, (hk7.keep hW).cell 3, (hk7.keep hW).cell 4, (hk7.keep hW).lt⟩))
  have p0 : World.cell? u9 ⟨v13.heap.size, 0, none⟩ = some (.slice S7 RB7.a.s.length e1) := hk7.cell 0
  have g0 := hk7.frozen 0
  have p1 : World.cell? u9 ⟨v13.heap.size, 1, none⟩ = some (.slice N7 RB7.a.n.length e2) := hk7.cell 1
  have g1 := hk7.frozen 1
  have p2 : World.cell? u9 ⟨v13.heap.size, 2, none⟩ = some (.slice G7 RB7.a.g.length e3) := hk7.cell 2
  have g2 := hk7.frozen 2
  have p3 : World.cell? u9 ⟨v13.heap.size, 3, none⟩ = some (.slice D7 RB7.d.length e4) := hk7.cell 3
  have g3 := hk7.frozen 3
  have p4 : World.cell? u9 ⟨v13.heap.size, 4, none⟩ = some (.slice T7 RB7.t.length e5) := hk7.cell 4
  have g4 := hk7.frozen 4
  have gl := hk7.lt
  go_region_law
   ((first
     |(go_simp; go_at_call 33; (with_reducible refine (given_any (World.drew u9)).mono ?_); rintro e w8 ⟨X8, Y8, rfl, rx8, ry8, hb8'⟩; have hb8 : Below (World.heap u9).size u9 w8 := bstep (Below.drew (Below.refl _ _)) hb8'; have k0 := (HH.out _ hb8).1; have k1 := (HH.out _ hb8).2.1; have k2 := (HH.out _ hb8).2.2.1; have k3 := (HH.out _ hb8).2.2.2.1; have k4 := (HH.out _ hb8).2.2.2.2.1; have k5 := (HH.out _ hb8).2.2.2.2.2; have rw8 := rw7.keep hb8)
     |(go_simp; go_at_call 26; (with_reducible refine (HSB.out X8 Y8 S7 N7 G7 D7 T7 e1 e2 e3 e4 e5 w8 rx8 ry8 rw8).mono ?_); rintro e w14 ⟨A14, k14, rfl, ho9, hb9⟩)
     | fail))
 all_goals
  have hB15 := bstep (bstep hBu hb8) hb9
  replace ho4 := (ho4.keep hb8).keep hb9
  replace ho6 := (ho6.keep hb8).keep hb9
  have ho10 := (RL.keep (by assumption : RL _ A9 [(3, 3)]) hb8).keep hb9
  go_wp2_with fail
  refine (HQ.out (4, 2) _ _ _ _ _ (ho4.keep (balloc (Below.refl _ _) _)) (lit_RL (x := (4, 2)) (Blk.new _ _ _))).mono ?_
  rintro _ _ ⟨rfl, n1, rfl⟩
  go_wp2_with fail
  refine (HQ.out (-1, 1) _ _ _ _ _ (ho6.keep (below_drewN (balloc (balloc (Below.refl _ _) _) _) _)) (lit_RL (x := (-1, 1)) ((Blk.newAt _ _ (by simp)).drewN _))).mono ?_
  rintro _ _ ⟨rfl, n2, rfl⟩
  go_wp2_with fail
  refine (HQ.out (3, 3) _ _ _ _ _ (ho10.keep (below_drewN (balloc (balloc (balloc (Below.refl _ _) _) _) _) _)) (lit_RL (x := (3, 3)) ((Blk.newAt _ _ (by simp)).drewN _))).mono ?_
  rintro _ _ ⟨rfl, n3, rfl⟩
  go_wp2
  go_ret
  exact ⟨rfl, below_drewN (balloc (balloc (balloc hB15 _) _) _) _⟩
end Wk
end Go.Proofs.Ytdekbncpodjgnaa
namespace Go.Proofs.Ytdekbncpodjgnaa
open Go.RowKit
set_option linter.unusedVariables false
set_option linter.unusedSimpArgs false
namespace Wk
open Lagw
theorem sameB_self (a : Acc) : sameB a a = true := by simp [sameB]
set_option maxRecDepth 20000 in
set_option maxHeartbeats 2000000 in
theorem same19_yes (S N G D T S' N' G' D' T' : Option Addr) (c1 c2 c3 c4 c5 d1 d2 d3 d4 d5 : Nat) (r : Work) (w : World) (hx : RW w S N G D T r) (hy : RW w S' N' G' D' T' r) (l1 : r.a.s.length ≤ 140737488355328) (l2 : r.a.n.length ≤ 140737488355328) (l3 : r.a.g.length ≤ 140737488355328) (l4 : r.d.length ≤ 140737488355328) (l5 : r.t.length ≤ 140737488355328) :
 Calls Try.prog 19 #[.agg #[.slice S r.a.s.length c1, .slice N r.a.n.length c2, .slice G r.a.g.length c3, .slice D r.d.length c4, .slice T r.t.length c5], .agg #[.slice S' r.a.s.length d1, .slice N' r.a.n.length d2, .slice G' r.a.g.length d3, .slice D' r.d.length d4, .slice T' r.t.length d5]] w fun e w' => e = .returned (.bool true) ∧ Below w.heap.size w w' := by
 obtain ⟨w0, hw0⟩ : ∃ w0, w0 = (w.alloc (.cells #[.slice S r.a.s.length c1, .slice N r.a.n.length c2, .slice G r.a.g.length c3, .slice D r.d.length c4, .slice T r.t.length c5] 42)).alloc (.cells #[.slice S' r.a.s.length d1, .slice N' r.a.n.length d2, .slice G' r.a.g.length d3, .slice D' r.d.length d4, .slice T' r.t.length d5] 42) := ⟨_, rfl⟩
 have hbX : Below w.heap.size w w0 := by rw [hw0]; exact balloc (balloc (Below.refl _ _) _) _
 have hk1 : Blk w0 w.heap.size 42 #[.slice S r.a.s.length c1, .slice N r.a.n.length c2, .slice G r.a.g.length c3, .slice D r.d.length c4, .slice T r.t.length c5] := by rw [hw0]; exact (Blk.new _ _ _).alloc _
 have hk2 : Blk w0 (w.heap.size + 1) 42 #[.slice S' r.a.s.length d1, .slice N' r.a.n.length d2, .slice G' r.a.g.length d3, .slice D' r.d.length d4, .slice T' r.t.length d5] := by rw [hw0]; exact Blk.newAt _ _ (by simp)
 have HSB := Lib.hid (sameB_self r.a)
 go_enter Try.func19, Try.ntmps19
 have q0 : World.cell? w0 ⟨w.heap.size, 0, none⟩ = some (.slice S r.a.s.length c1) := hk1.cell 0
 have f0 := hk1.frozen 0
 have q1 : World.cell? w0 ⟨w.heap.size, 1, none⟩ = some (.slice N r.a.n.length c2) := hk1.cell 1
 have f1 := hk1.frozen 1
 have q2 : World.cell? w0 ⟨w.heap.size, 2, none⟩ = some (.slice G r.a.g.length c3) := hk1.cell 2
 have f2 := hk1.frozen 2
 have q3 : World.cell? w0 ⟨w.heap.size, 3, none⟩ = some (.slice D r.d.length c4) := hk1.cell 3
 have f3 := hk1.frozen 3
 have q4 : World.cell? w0 ⟨w.heap.size, 4, none⟩ = some (.slice T r.t.length c5) := hk1.cell 4
 have f4 := hk1.frozen 4
 have fl := hk1.lt
 have p0 : World.cell? w0 ⟨w.heap.size + 1, 0, none⟩ = some (.slice S' r.a.s.length d1) := hk2.cell 0
 have g0 := hk2.frozen 0
 have p1 : World.cell? w0 ⟨w.heap.size + 1, 1, none⟩ = some (.slice N' r.a.n.length d2) := hk2.cell 1
 have g1 := hk2.frozen 1
 have p2 : World.cell? w0 ⟨w.heap.size + 1, 2, none⟩ = some (.slice G' r.a.g.length d3) := hk2.cell 2
 have g2 := hk2.frozen 2
 have p3 : World.cell? w0 ⟨w.heap.size + 1, 3, none⟩ = some (.slice D' r.d.length d4) := hk2.cell 3
 have g3 := hk2.frozen 3
 have p4 : World.cell? w0 ⟨w.heap.size + 1, 4, none⟩ = some (.slice T' r.t.length d5) := hk2.cell 4
 have g4 := hk2.frozen 4
 have gl := hk2.lt
 have hxw := hx.keep hbX
 have hyw := hy.keep hbX
 subst hw0
 go_wp2_with fail
 refine (same13_any _ _ _ _ r.t r.t _ hxw.t hyw.t l5 l5).mono ?_
 rintro _ w1 ⟨rfl, n1, rfl⟩
 rw [decide_eq_true rfl]
 go_wp2_with fail
 refine (same18_any _ _ _ _ _ _ _ _ _ _ _ _ r.a r.a _ (hxw.a.keep (below_drewN (Below.refl _ _) _)) (hyw.a.keep (below_drewN (Below.refl _ _) _)) l1 l2 l3 l1 l2 l3).mono ?_
 rintro _ w2 ⟨rfl, hb2⟩
 rw [HSB.out]
 have hb2' := bstep (below_drewN (Below.refl _ _) n1) hb2
 have hB2 := bstep hbX hb2'
 have hxd := hxw.d.keep hb2'
 have hyd := hyw.d.keep hb2'
 have hk3 := hk1.keep hb2'
 have hk4 := hk2.keep hb2'
 clear q0 q1 q2 q3 q4 p0 p1 p2 p3 p4 f0 f1 f2 f3 f4 g0 g1 g2 g3 g4 fl gl hk1 hk2 hb2 hb2' hbX hxw hyw hx hy HSB
 have q0 : World.cell? w2 ⟨w.heap.size, 0, none⟩ = some (.slice S r.a.s.length c1) := hk3.cell 0
 have f0 := hk3.frozen 0
 have q1 : World.cell? w2 ⟨w.heap.size, 1, none⟩ = some (.slice N r.a.n.length c2) := hk3.cell 1
 have f1 := hk3.frozen 1
 have q2 : World.cell? w2 ⟨w.heap.size, 2, none⟩ = some (.slice G r.a.g.length c3) := hk3.cell 2
 have f2 := hk3.frozen 2
 have q3 : World.cell? w2 ⟨w.heap.size, 3, none⟩ = some (.slice D r.d.length c4) := hk3.cell 3
 have f3 := hk3.frozen 3
 have q4 : World.cell? w2 ⟨w.heap.size, 4, none⟩ = some (.slice T r.t.length c5) := hk3.cell 4
 have f4 := hk3.frozen 4
 have fl := hk3.lt
 have p0 : World.cell? w2 ⟨w.heap.size + 1, 0, none⟩ = some (.slice S' r.a.s.length d1) := hk4.cell 0
 have g0 := hk4.frozen 0
 have p1 : World.cell? w2 ⟨w.heap.size + 1, 1, none⟩ = some (.slice N' r.a.n.length d2) := hk4.cell 1
 have g1 := hk4.frozen 1
 have p2 : World.cell? w2 ⟨w.heap.size + 1, 2, none⟩ = some (.slice G' r.a.g.length d3) := hk4.cell 2
 have g2 := hk4.frozen 2
 have p3 : World.cell? w2 ⟨w.heap.size + 1, 3, none⟩ = some (.slice D' r.d.length d4) := hk4.cell 3
 have g3 := hk4.frozen 3
 have p4 : World.cell? w2 ⟨w.heap.size + 1, 4, none⟩ = some (.slice T' r.t.length d5) := hk4.cell 4
 have g4 := hk4.frozen 4
 have gl := hk4.lt
 go_wp2
 go_loopg [5] r.d.length (fun gk i wr => ∃ k n : Nat, k + gk = r.d.length ∧ i = .int .i64 k ∧ wr = w2.drewN n)
 case atStart => exact ⟨0, 0, by omega, rfl, rfl⟩
 case round =>
  obtain ⟨k, n, hk, rfl, rfl⟩ := hrel
  have hk' : k ≤ r.d.length := by omega
  have HK := Lib.hid hk
  clear hk
  by_cases hlt : k < r.d.length
  ·obtain ⟨b1, o1, rfl, m1, h1⟩ := hxd (by omega)
   obtain ⟨b2, o2, rfl, m2, h2⟩ := hyd (by omega)
   have h1' := h1 k hlt
   have h2' := h2 k hlt
   generalize r.d.getD k false = x at h1' h2'
   have hv : (x != x) = false := by simp
   clear h1 h2
   go_wp2
   go_quiet (fail)
   go_wp2
   go_roundg (gk - 1)
   case rel => exact ⟨k + 1, _, by have := HK.out; omega, by go_num, rfl⟩
   case measure => have := HK.out; omega
  ·go_wp2
   go_ret
   exact ⟨rfl, below_drewN hB2 _⟩
end Wk
end Go.Proofs.Ytdekbncpodjgnaa
