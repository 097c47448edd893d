/-
  Layer 12 (bank): the walk of BankNames.
-/
import Derived.Test.YtnhjeelcgfobnaaBkZ
namespace Go.Proofs.Ytnhjeelcgfobnaa
open Go.RowKit Num
set_option maxRecDepth 8000
set_option linter.unusedVariables false
set_option linter.unusedSimpArgs false
namespace Bk
open Lol Crs

/-! ### literal banks, rows of zeros -/
theorem info_intN : (Try.prog.info? 3).map (fun i => (i.zero, i.size, i.bytes)) = some (some (.int .i64 0), 1, 8) := by kernel_rfl
theorem info_boolN : (Try.prog.info? 4).map (fun i => (i.zero, i.size, i.bytes)) = some (some (.bool false), 1, 1) := by kernel_rfl
theorem lit1 (w : World) (xs : List Int) (m : Nat) (hm : xs.length = m) (cs : Array Value) (hc : cs = (xs.map (.int .i64)).toArray) :
    RLL .i64 ((w.alloc (.cells cs 2)).alloc (.cells #[.slice (some ⟨w.heap.size, 0, none⟩) m m] 31)) (some ⟨w.heap.size + 1, 0, none⟩) [xs] := by
  refine RLL_lit (Blk.newAt (w := w.alloc (.cells cs 2)) (g := w.heap.size + 1) 31 _ (by simp)) [xs] rfl (fun j hj => ?_)
  match j, hj with
  | 0, _ => exact ⟨_, m, by simp [hm], RI_lit' (t := 2) xs cs rfl ((Blk.new w 2 cs).alloc _) hc, by simp [hm]⟩
  | j + 1, h => exact absurd h (by simp only [List.length_cons, List.length_nil]; omega)
theorem lit2 (w : World) (xs ys : List Int) (m k : Nat) (hm : xs.length = m) (hk : ys.length = k) (cs ds : Array Value) (hc : cs = (xs.map (.int .i64)).toArray) (hd : ds = (ys.map (.int .i64)).toArray) :
    RLL .i64 (((w.alloc (.cells cs 2)).alloc (.cells ds 2)).alloc (.cells #[.slice (some ⟨w.heap.size, 0, none⟩) m m, .slice (some ⟨w.heap.size + 1, 0, none⟩) k k] 31)) (some ⟨w.heap.size + 1 + 1, 0, none⟩) [xs, ys] := by
  refine RLL_lit (Blk.newAt (w := (w.alloc (.cells cs 2)).alloc (.cells ds 2)) (g := w.heap.size + 1 + 1) 31 _ (by simp)) [xs, ys] rfl (fun j hj => ?_)
  match j, hj with
  | 0, _ => exact ⟨_, m, by simp [hm], RI_lit' (t := 2) xs cs rfl (((Blk.new w 2 cs).alloc _).alloc _) hc, by simp [hm]⟩
  | 1, _ => exact ⟨_, k, by simp [hk], RI_lit' (t := 2) ys ds rfl ((Blk.newAt (w := w.alloc (.cells cs 2)) (g := w.heap.size + 1) 2 ds (by simp)).alloc _) hd, by simp [hk]⟩
  | j + 2, h => exact absurd h (by simp only [List.length_cons, List.length_nil]; omega)
theorem lit3 (w : World) (x y z : Int) :
    RLL .i64 ((((w.alloc (.cells #[.int .i64 x] 2)).alloc (.cells #[.int .i64 y] 2)).alloc (.cells #[.int .i64 z] 2)).alloc (.cells #[.slice (some ⟨w.heap.size, 0, none⟩) 1 1, .slice (some ⟨w.heap.size + 1, 0, none⟩) 1 1, .slice (some ⟨w.heap.size + 1 + 1, 0, none⟩) 1 1] 31)) (some ⟨w.heap.size + 1 + 1 + 1, 0, none⟩) [[x], [y], [z]] := by
  refine RLL_lit (Blk.newAt (w := ((w.alloc (.cells #[.int .i64 x] 2)).alloc (.cells #[.int .i64 y] 2)).alloc (.cells #[.int .i64 z] 2)) (g := w.heap.size + 1 + 1 + 1) 31 _ (by simp)) [[x], [y], [z]] rfl (fun j hj => ?_)
  match j, hj with
  | 0, _ => exact ⟨_, 1, rfl, RI_lit' (t := 2) [x] _ rfl ((((Blk.new w 2 #[.int .i64 x]).alloc _).alloc _).alloc _) rfl, Nat.le_refl 1⟩
  | 1, _ => exact ⟨_, 1, rfl, RI_lit' (t := 2) [y] _ rfl (((Blk.newAt (w := w.alloc (.cells #[.int .i64 x] 2)) (g := w.heap.size + 1) 2 #[.int .i64 y] (by simp)).alloc _).alloc _) rfl, Nat.le_refl 1⟩
  | 2, _ => exact ⟨_, 1, rfl, RI_lit' (t := 2) [z] _ rfl ((Blk.newAt (w := (w.alloc (.cells #[.int .i64 x] 2)).alloc (.cells #[.int .i64 y] 2)) (g := w.heap.size + 1 + 1) 2 #[.int .i64 z] (by simp)).alloc _) rfl, Nat.le_refl 1⟩
  | j + 3, h => exact absurd h (by simp only [List.length_cons, List.length_nil]; omega)
theorem lit1k (w : World) (xs : List Int) (m : Nat) (hm : xs.length = m) (cs : Array Value) (hc : cs = (xs.map (.int .i64)).toArray) :
    RLL .i64 (((w.alloc (.cells cs 2)).alloc (.cells #[.slice (some ⟨w.heap.size, 0, none⟩) m m] 31)).alloc (.cells #[.bool true] 4)) (some ⟨w.heap.size + 1, 0, none⟩) [xs] ∧
    RBo (((w.alloc (.cells cs 2)).alloc (.cells #[.slice (some ⟨w.heap.size, 0, none⟩) m m] 31)).alloc (.cells #[.bool true] 4)) (some ⟨w.heap.size + 1 + 1, 0, none⟩) [true] :=
  ⟨(lit1 w xs m hm cs hc).keep (balloc (Below.refl _ _) _), blk_RBo (l := [true]) (Blk.newAt (g := w.heap.size + 1 + 1) 4 #[.bool true] (by simp))⟩
theorem lit11 (w : World) (xs ys : List Int) (m k : Nat) (hm : xs.length = m) (hk : ys.length = k) (cs ds : Array Value) (hc : cs = (xs.map (.int .i64)).toArray) (hd : ds = (ys.map (.int .i64)).toArray) :
    RLL .i64 ((((w.alloc (.cells cs 2)).alloc (.cells #[.slice (some ⟨w.heap.size, 0, none⟩) m m] 31)).alloc (.cells ds 2)).alloc (.cells #[.slice (some ⟨w.heap.size + 1 + 1, 0, none⟩) k k] 31)) (some ⟨w.heap.size + 1, 0, none⟩) [xs] ∧
    RLL .i64 ((((w.alloc (.cells cs 2)).alloc (.cells #[.slice (some ⟨w.heap.size, 0, none⟩) m m] 31)).alloc (.cells ds 2)).alloc (.cells #[.slice (some ⟨w.heap.size + 1 + 1, 0, none⟩) k k] 31)) (some ⟨w.heap.size + 1 + 1 + 1, 0, none⟩) [ys] := by
  refine ⟨(lit1 w xs m hm cs hc).keep (balloc (balloc (Below.refl _ _) _) _), ?_⟩
  have h := lit1 ((w.alloc (.cells cs 2)).alloc (.cells #[.slice (some ⟨w.heap.size, 0, none⟩) m m] 31)) ys k hk ds hd
  have e : ((w.alloc (.cells cs 2)).alloc (.cells #[.slice (some ⟨w.heap.size, 0, none⟩) m m] 31)).heap.size = w.heap.size + 1 + 1 := by simp
  rw [e] at h
  exact h
def zI (n : Nat) : Array Value := ((List.replicate n (0 : Int)).flatMap (encI .i64)).toArray
theorem z_RI {w : World} {g n : Nat} {t : TypeId} (h : Blk w g t (zI n)) : RI .i64 w (some ⟨g, 0, none⟩) (List.replicate n 0) := blk_RI h
theorem mkI (n : Nat) (hn : n ≤ 1000) (w : World) : (Instr.makeSlice 39 (.int .i64 (n : Int)) (.int .i64 (n : Int))).run Try.prog w = .ok (.slice (some ⟨w.heap.size, 0, none⟩) n n) (w.alloc (.cells (zI n) 3)) := by
  obtain ⟨i0, hi0, hz0, hz1, hz2⟩ := info_parts info_intN
  exact mk_row (P := Try.prog) 39 3 Try.underlying39 hi0 hz0 hz1 hz2 (encI .i64) (encI_len .i64) (by omega) 0 rfl n (by omega) (by omega) w
theorem mk256 (w : World) : (Instr.makeSlice 39 (.int .i64 256) (.int .i64 256)).run Try.prog w = .ok (.slice (some ⟨w.heap.size, 0, none⟩) 256 256) (w.alloc (.cells (zI 256) 3)) := mkI 256 (by omega) w
theorem mk257 (w : World) : (Instr.makeSlice 39 (.int .i64 257) (.int .i64 257)).run Try.prog w = .ok (.slice (some ⟨w.heap.size, 0, none⟩) 257 257) (w.alloc (.cells (zI 257) 3)) := mkI 257 (by omega) w
def zB5 : Array Value := #[.bool false, .bool false, .bool false, .bool false, .bool false]
theorem mkB5 (w : World) : (Instr.makeSlice 40 (.int .i64 5) (.int .i64 5)).run Try.prog w = .ok (.slice (some ⟨w.heap.size, 0, none⟩) 5 5) (w.alloc (.cells zB5 4)) := by
  obtain ⟨i0, hi0, hz0, hz1, hz2⟩ := info_parts info_boolN
  exact mk_row (P := Try.prog) 40 4 Try.underlying40 hi0 hz0 hz1 hz2 encB encB_len (by omega) false rfl 5 (by omega) (by omega) w
def zL (n : Nat) : Array Value := rowC [] n
theorem mkL257 (w : World) : (Instr.makeSlice 22 (.int .i64 257) (.int .i64 257)).run Try.prog w = .ok (.slice (some ⟨w.heap.size, 0, none⟩) 257 257) (w.alloc (.cells (zL 257) 31)) := mk_slices 257 (by omega) w
theorem mkL129 (w : World) : (Instr.makeSlice 22 (.int .i64 129) (.int .i64 129)).run Try.prog w = .ok (.slice (some ⟨w.heap.size, 0, none⟩) 129 129) (w.alloc (.cells (zL 129) 31)) := mk_slices 129 (by omega) w
theorem zL_RLL {w : World} {g n : Nat} {t : TypeId} (h : Blk w g t (zL n)) : RLL .i64 w (some ⟨g, 0, none⟩) (List.replicate n []) := by
  refine RLL_lit h _ (by simp [zL, rowC]) (fun j hj => ⟨none, 0, ?_, ?_, ?_⟩)
  · have hj2 : j < n := by simpa using hj
    simp [zL, rowC, hj2]
  · simp only [List.getElem_replicate]; exact RI.nil
  · simp
/-! ### values -/
theorem pr_7 : Pr 7 := pr_tr12 (F := 1) (by omega) (by decide) (by omega)
theorem pr_37 : Pr 37 := pr_tr12 (F := 5) (by omega) (by decide) (by omega)
theorem pr_257 : Pr 257 := pr_tr12 (F := 15) (by omega) (by decide) (by omega)
theorem pr_3 : Pr 3 := pr_tr12 (F := 0) (by omega) (by decide) (by omega)
theorem facs_6 : facs 6 = [2, 3] := facs_eq ⟨by decide, by intro x hx; simp only [List.mem_cons, List.not_mem_nil, or_false] at hx; rcases hx with rfl | rfl <;> first | exact pr_2' | exact pr_3, by decide⟩
theorem gn_7 : genN 7 = 3 := gen_at pr_7 (by omega) (by omega) (by unfold Gen; rw [facs_6]; decide) (by intro m h1 h2; unfold Gen; rw [facs_6]; rcases (show m = 1 ∨ m = 2 by omega) with rfl | rfl <;> decide)
theorem rt_7 : rootN 7 1 = 1 := by unfold rootN; rw [gn_7]
theorem strm_of {P n : Nat} {s : List Int} (h7 : 7 ≤ P) (h2 : P ≤ 2000000000) (hP : Pr P) (h : decide (1 ≤ n ∧ n ≤ 16 ∧ s.length ≤ 256 ∧ (P - 1) % n = 0 ∧ s.length % n = 0) = true) (h3 : s.all (fun x => decide (-3 ≤ x ∧ x ≤ 3)) = true) : Strm P n s := by
  obtain ⟨h4, h5, h6, h8, h9⟩ := of_decide_eq_true h
  exact ⟨h7, h2, hP, h4, h5, h6, h8, fun j hj => by
    have := List.all_eq_true.1 h3 _ (List.getElem_mem hj)
    rw [getD_lt _ _ hj]
    simpa using this, h9⟩
def s7 : List Int := [-3, 0, 3]
def b7 : List (List Int) := [[4], [0], [3]]
theorem strm7 : Strm 7 1 s7 := strm_of (by omega) (by omega) pr_7 (by decide) (by decide)
theorem sp7 : splitL 7 1 s7 = b7 := by
  show [spF 7 1 s7 0, spF 7 1 s7 1, spF 7 1 s7 2] = b7
  have h : ∀ t, spF 7 1 s7 t = fullL (trF 7 (resL 7 1 (smp 1 s7 t)) (pwF 7 1)) (resL 7 1 (smp 1 s7 t)).length := fun t => by unfold spF; exact fwdL_val (R := 1) (by rw [resL_len]; exact rt_7)
  rw [h 0, h 1, h 2]
  decide
theorem v1 : splitS 7 1 s7 = (b7, 0) := by have := split_ok strm7; rw [sp7] at this; exact this
theorem v2 : mergeS 7 b7 = (s7, 0) := by have := merge_split strm7; rw [sp7] at this; exact this
theorem v3 : splitS 7 3 [] = ([], 0) := split_ok (P := 7) (n := 3) (s := []) (strm_of (by omega) (by omega) pr_7 (by decide) (by decide))
theorem bank_nil (P : Nat) : Bank P 1 [] := ⟨by simp, fun k h => by simp at h⟩
theorem v4 : mergeS 7 [] = ([], 0) := by
  have := merge_ok (P := 7) (n := 1) (by omega) (by omega) pr_7 (bank_nil 7) (by simp)
  exact this
theorem v5 : powS 7 [] [] = ([], 0) := by
  unfold powS
  rw [if_neg (by rw [show twoE 7 [] [] = 0 from two_ok (P := 7) (by omega) (by omega) pr_7 (bank_nil 7) (bank_nil 7) rfl]; simp)]
  rfl
theorem v6 : keepS 7 [] [false, false, false, false, false] = ([], 0) := by
  unfold keepS
  rw [if_neg (by rw [show bothE12 7 [] = 0 from both_ok (P := 7) (by omega) (by omega) pr_7 (bank_nil 7)]; simp), if_neg (by simp)]
  rfl
theorem v7 : splitS 257 16 (List.replicate 256 0) = (splitL 257 16 (List.replicate 256 0), 0) := split_ok (P := 257) (n := 16) (strm_of (by omega) (by omega) pr_257 (by decide +kernel) (by decide +kernel))
theorem mod_5 : modE 5 = 2 := by unfold modE; rw [if_pos (by omega)]
theorem mod_3 : modE 3 = 2 := by unfold modE; rw [if_pos (by omega)]
theorem mod_9 : modE 9 = 2 := by
  rcases mod_cases 9 with ⟨_, _, P, e, _, _, hP⟩ | e
  · exfalso
    have : P = 9 := by omega
    subst this
    have h := hP.2 3 (by omega)
    omega
  · exact e
theorem mod_17 : modE 17 = 0 := modE_pr (P := 17) (by omega) (by omega) pr_17
theorem mod_37 : modE 37 = 0 := modE_pr (P := 37) (by omega) (by omega) pr_37
theorem mod_257 : modE 257 = 0 := modE_pr (P := 257) (by omega) (by omega) pr_257
theorem sp_err {p n : Int} {s : List Int} {e : Int} (h : strE p n s = e) (he : e ≠ 0) : splitS p n s = ([], e) := by subst h; unfold splitS; rw [if_pos he]
theorem st_mod {p n : Int} {s : List Int} (h : modE p = 2) : strE p n s = 2 := by unfold strE; rw [if_pos (by simp [h])]
theorem st_ok {p n : Int} {s : List Int} {e : Int} (h : modE p = 0) (h2 : (if n < 1 ∨ 16 < n ∨ 256 < s.length then (4 : Int) else if (p - 1) % n ≠ 0 then 6 else if s.any badS = true then 8 else if (s.length : Int) % n ≠ 0 then 22 else 0) = e) : strE p n s = e := by unfold strE; rw [if_neg (by simp [h])]; exact h2
theorem v8 : splitS 5 1 [] = ([], 2) := sp_err (st_mod mod_5) (by decide)
theorem v9 : splitS 9 1 [] = ([], 2) := sp_err (st_mod mod_9) (by decide)
theorem v10 : splitS 17 0 [] = ([], 4) := sp_err (st_ok mod_17 (by decide)) (by decide)
theorem v11 : splitS 37 18 [] = ([], 4) := sp_err (st_ok mod_37 (by decide)) (by decide)
theorem v12 : splitS 257 16 (List.replicate 257 0) = ([], 4) := sp_err (st_ok mod_257 (by decide +kernel)) (by decide)
theorem v13 : splitS 17 3 [4] = ([], 6) := sp_err (st_ok mod_17 (by decide)) (by decide)
theorem v14 : splitS 17 2 [4] = ([], 8) := sp_err (st_ok mod_17 (by decide)) (by decide)
theorem v15 : splitS 17 2 [3] = ([], 22) := sp_err (st_ok mod_17 (by decide)) (by decide)
theorem bo_17 {b : List (List Int)} {e : Int} (h : bankE 17 b = e) : bothE12 17 b = e := by unfold bothE12; rw [if_neg (by simp [mod_17])]; exact h
theorem mg_err {p : Int} {b : List (List Int)} {e : Int} (h : bothE12 p b = e) (he : e ≠ 0) : mergeS p b = ([], e) := by subst h; unfold mergeS; rw [if_pos he]
theorem v16 : mergeS 17 [[1], []] = ([], 4) := mg_err (bo_17 (by decide)) (by decide)
theorem v17 : mergeS 17 [[1, 1], [1]] = ([], 8) := mg_err (bo_17 (by decide)) (by decide)
theorem v18 : mergeS 17 [[1, 1, 1]] = ([], 6) := mg_err (bo_17 (by decide)) (by decide)
theorem v19 : mergeS 17 [[17]] = ([], 8) := mg_err (bo_17 (by decide)) (by decide)
theorem v20 : mergeS 17 (List.replicate 257 []) = ([], 4) := mg_err (bo_17 (by unfold bankE; rw [if_pos (by simp)])) (by decide)
def wideL : List (List Int) := fullL (fun _ => [0, 0]) 129
theorem v21 : mergeS 17 wideL = ([], 4) := by
  unfold mergeS
  rw [if_neg (by rw [bo_17 (e := 0) (by decide +kernel)]; simp), if_pos (by decide +kernel)]
theorem v22 : keepS 17 [[1, 1]] [true] = ([], 2) := by
  unfold keepS
  rw [if_neg (by rw [bo_17 (e := 0) (by decide)]; simp), if_pos (by decide)]
theorem v23 : addS 17 [[1]] [[1, 1]] = ([], 2) := by
  have h : twoE 17 [[1]] [[1, 1]] = 2 := by
    unfold twoE
    rw [if_neg (by rw [bo_17 (e := 0) (by decide)]; simp), if_neg (by decide), if_pos (by decide)]
  unfold addS
  rw [h]; rfl
theorem v24 : addS 17 [[1]] [] = ([], 2) := by
  have h : twoE 17 [[1]] [] = 2 := by
    unfold twoE
    rw [if_neg (by rw [bo_17 (e := 0) (by decide)]; simp), if_neg (by decide), if_pos (by decide)]
  unfold addS
  rw [h]; rfl
theorem v25 : powS 17 [[1]] [[-1]] = ([], 8) := by
  have h : twoE 17 [[1]] [[-1]] = 8 := by
    unfold twoE
    rw [if_neg (by rw [bo_17 (e := 0) (by decide)]; simp), if_pos (by decide)]
    decide
  unfold powS
  rw [h]; rfl
theorem v26 : shiftS 3 [] 1 = ([], 2) := by
  have h : bothE12 3 [] = 2 := by unfold bothE12; rw [if_pos (by simp [mod_3])]
  unfold shiftS
  rw [h]; rfl
theorem wide_RLL {w : World} {g base top : Nat} {raws : List Value} (hO : Blk w g 31 raws.toArray) (hG : Grid base top w raws (fullL (fun _ => [0, 0]) 129)) : RLL .i64 w (some ⟨g, 0, none⟩) wideL := blk_RLL hO hG.els
set_option maxRecDepth 20000 in
set_option maxHeartbeats 8000000 in
theorem bankNames_walk (w : World) : Calls Try.prog 8 #[] w fun e w' => e = .returned (.bool true) ∧ Below w.heap.size w w' := by
  have m1 := mk256
  have m2 := mk257
  have m3 := mkB5
  have m4 := mkL257
  have m5 := mkL129
  have hB := Below.refl w.heap.size w
  go_enter Try.func8, Try.ntmps8
  go_wp2_with fail
  refine (split_w 7 1 s7 b7 0 3 3 v1 rfl rfl (by omega) (by omega) (by omega) _ 3 (by omega) _ (RI_lit' (t := 3) s7 _ rfl (Blk.newAt _ _ rfl) rfl)).mono ?_
  rintro _ w1 ⟨A1, c1, rfl, r1, hb⟩
  replace hB := bstep (balloc hB _) hb
  clear hb
  go_wp2_with fail
  refine (merge_w 7 b7 s7 0 3 3 v2 rfl rfl (by omega) (by omega) _ _ _ r1).mono ?_
  rintro _ w2 ⟨A2, c2, rfl, r2, _, hb⟩
  replace hB := bstep hB hb
  replace r1 := r1.keep hb
  clear hb
  go_wp2_with fail
  refine (split_w 7 3 [] [] 0 0 0 v3 rfl rfl (by omega) (by omega) (by omega) none 0 (by omega) _ RI.nil).mono ?_
  rintro _ w3 ⟨A3, c3, rfl, _, hb⟩
  replace hB := bstep hB hb
  replace r1 := r1.keep hb
  replace r2 := r2.keep hb
  clear hb
  go_wp2_with fail
  refine (merge_w 7 [] [] 0 0 0 v4 rfl rfl (by omega) (by omega) none 0 _ RLL.nil).mono ?_
  rintro _ w4 ⟨A4, c4, rfl, _, _, hb⟩
  replace hB := bstep hB hb
  replace r1 := r1.keep hb
  replace r2 := r2.keep hb
  clear hb
  go_wp2_with fail
  refine (power_w 7 [] [] [] 0 0 0 0 v5 rfl rfl rfl (by omega) (by omega) none 0 none 0 _ RLL.nil RLL.nil).mono ?_
  rintro _ w5 ⟨A5, c5, rfl, _, hb⟩
  replace hB := bstep hB hb
  replace r1 := r1.keep hb
  replace r2 := r2.keep hb
  clear hb
  go_wp2_with fail
  refine (keep_w 7 [] [false, false, false, false, false] [] 0 0 5 0 v6 rfl rfl rfl (by omega) (by omega) none 0 _ _ _ RLL.nil (blk_RBo (l := [false, false, false, false, false]) (Blk.newAt _ zB5 rfl))).mono ?_
  rintro _ w6 ⟨A6, c6, rfl, _, hb⟩
  replace hB := bstep (balloc hB _) hb
  replace r1 := r1.keep (bstep (balloc (Below.refl _ _) _) hb)
  replace r2 := r2.keep (bstep (balloc (Below.refl _ _) _) hb)
  clear hb
  go_wp2_with fail
  refine (split_w 257 16 (List.replicate 256 0) _ 0 256 16 v7 List.length_replicate (by rw [splitL_len, List.length_replicate]) (by omega) (by omega) (by omega) _ 256 (by omega) _ (z_RI (Blk.newAt _ _ rfl))).mono ?_
  rintro _ w7 ⟨A7, c7, rfl, _, hb⟩
  replace hB := bstep (balloc hB _) hb
  replace r1 := r1.keep (bstep (balloc (Below.refl _ _) _) hb)
  replace r2 := r2.keep (bstep (balloc (Below.refl _ _) _) hb)
  clear hb
  go_wp2_with fail
  refine (same12_w b7 3 rfl ⟨by decide, by decide⟩ _ _ _ _ _ (r1.keep (balloc (balloc (balloc (balloc (Below.refl _ _) _) _) _) _)) (lit3 _ 4 0 3)).mono ?_
  rintro _ v8 ⟨rfl, q8, rfl⟩
  have hB8 := below_drewN (balloc (balloc (balloc (balloc hB (.cells #[.int .i64 4] 2)) (.cells #[.int .i64 0] 2)) (.cells #[.int .i64 3] 2)) (.cells #[.slice (some ⟨w7.heap.size, 0, none⟩) 1 1, .slice (some ⟨w7.heap.size + 1, 0, none⟩) 1 1, .slice (some ⟨w7.heap.size + 1 + 1, 0, none⟩) 1 1] 31)) q8
  have hb8 := below_drewN (balloc (balloc (balloc (balloc (Below.refl w7.heap.size w7) (.cells #[.int .i64 4] 2)) (.cells #[.int .i64 0] 2)) (.cells #[.int .i64 3] 2)) (.cells #[.slice (some ⟨w7.heap.size, 0, none⟩) 1 1, .slice (some ⟨w7.heap.size + 1, 0, none⟩) 1 1, .slice (some ⟨w7.heap.size + 1 + 1, 0, none⟩) 1 1] 31)) q8
  replace r2 := r2.keep hb8
  clear hb8 hB r1
  generalize World.drewN ((((w7.alloc (.cells #[.int .i64 4] 2)).alloc (.cells #[.int .i64 0] 2)).alloc (.cells #[.int .i64 3] 2)).alloc (.cells #[.slice (some ⟨w7.heap.size, 0, none⟩) 1 1, .slice (some ⟨w7.heap.size + 1, 0, none⟩) 1 1, .slice (some ⟨w7.heap.size + 1 + 1, 0, none⟩) 1 1] 31)) q8 = w8 at *
  go_wp2_with fail
  refine (sameStreams_w s7 3 rfl (by omega) _ _ _ _ _ (r2.keep (balloc (Below.refl _ _) _)) (RI_lit' (t := 3) s7 #[.int .i64 (-3), .int .i64 0, .int .i64 3] rfl (Blk.newAt _ _ rfl) rfl)).mono ?_
  rintro _ v9 ⟨rfl, q9, rfl⟩
  have hB := below_drewN (balloc hB8 (.cells #[.int .i64 (-3), .int .i64 0, .int .i64 3] 3)) q9
  clear hB8 r2
  generalize World.drewN (w8.alloc (.cells #[.int .i64 (-3), .int .i64 0, .int .i64 3] 3)) q9 = w9 at *
  go_wp2_with fail
  refine (split_w 5 1 [] [] 2 0 0 v8 rfl rfl (by omega) (by omega) (by omega) none 0 (by omega) _ RI.nil).mono ?_
  rintro _ w10 ⟨A10, c10, rfl, _, hb⟩
  replace hB := bstep hB hb
  clear hb
  go_wp2_with fail
  refine (split_w 9 1 [] [] 2 0 0 v9 rfl rfl (by omega) (by omega) (by omega) none 0 (by omega) _ RI.nil).mono ?_
  rintro _ w11 ⟨A11, c11, rfl, _, hb⟩
  replace hB := bstep hB hb
  clear hb
  go_wp2_with fail
  refine (split_w 17 0 [] [] 4 0 0 v10 rfl rfl (by omega) (by omega) (by omega) none 0 (by omega) _ RI.nil).mono ?_
  rintro _ w12 ⟨A12, c12, rfl, _, hb⟩
  replace hB := bstep hB hb
  clear hb
  go_wp2_with fail
  refine (split_w 37 18 [] [] 4 0 0 v11 rfl rfl (by omega) (by omega) (by omega) none 0 (by omega) _ RI.nil).mono ?_
  rintro _ w13 ⟨A13, c13, rfl, _, hb⟩
  replace hB := bstep hB hb
  clear hb
  go_wp2_with fail
  refine (split_w 257 16 (List.replicate 257 0) [] 4 257 0 v12 List.length_replicate rfl (by omega) (by omega) (by omega) _ 257 (by omega) _ (z_RI (Blk.newAt _ _ rfl))).mono ?_
  rintro _ w14 ⟨A14, c14, rfl, _, hb⟩
  replace hB := bstep (balloc hB _) hb
  clear hb
  go_wp2_with fail
  refine (split_w 17 3 [4] [] 6 1 0 v13 rfl rfl (by omega) (by omega) (by omega) _ 1 (by omega) _ (RI_lit' (t := 3) [4] _ rfl (Blk.newAt _ _ rfl) rfl)).mono ?_
  rintro _ w15 ⟨A15, c15, rfl, _, hb⟩
  replace hB := bstep (balloc hB _) hb
  clear hb
  go_wp2_with fail
  refine (split_w 17 2 [4] [] 8 1 0 v14 rfl rfl (by omega) (by omega) (by omega) _ 1 (by omega) _ (RI_lit' (t := 3) [4] _ rfl (Blk.newAt _ _ rfl) rfl)).mono ?_
  rintro _ w16 ⟨A16, c16, rfl, _, hb⟩
  replace hB := bstep (balloc hB _) hb
  clear hb
  go_wp2_with fail
  refine (split_w 17 2 [3] [] 22 1 0 v15 rfl rfl (by omega) (by omega) (by omega) _ 1 (by omega) _ (RI_lit' (t := 3) [3] _ rfl (Blk.newAt _ _ rfl) rfl)).mono ?_
  rintro _ w17 ⟨A17, c17, rfl, _, hb⟩
  replace hB := bstep (balloc hB _) hb
  clear hb
  go_wp2_with fail
  refine (merge_w 17 [[1], []] [] 4 2 0 v16 rfl rfl (by omega) (by omega) _ 2 _ (lit2 _ [1] [] 1 0 rfl rfl _ _ rfl rfl)).mono ?_
  rintro _ w18 ⟨A18, c18, rfl, _, _, hb⟩
  replace hB := bstep (balloc (balloc (balloc hB _) _) _) hb
  clear hb
  go_wp2_with fail
  refine (merge_w 17 [[1, 1], [1]] [] 8 2 0 v17 rfl rfl (by omega) (by omega) _ 2 _ (lit2 _ [1, 1] [1] 2 1 rfl rfl _ _ rfl rfl)).mono ?_
  rintro _ w19 ⟨A19, c19, rfl, _, _, hb⟩
  replace hB := bstep (balloc (balloc (balloc hB _) _) _) hb
  clear hb
  go_wp2_with fail
  refine (merge_w 17 [[1, 1, 1]] [] 6 1 0 v18 rfl rfl (by omega) (by omega) _ 1 _ (lit1 _ [1, 1, 1] 3 rfl _ rfl)).mono ?_
  rintro _ w20 ⟨A20, c20, rfl, _, _, hb⟩
  replace hB := bstep (balloc (balloc hB _) _) hb
  clear hb
  go_wp2_with fail
  refine (merge_w 17 [[17]] [] 8 1 0 v19 rfl rfl (by omega) (by omega) _ 1 _ (lit1 _ [17] 1 rfl _ rfl)).mono ?_
  rintro _ w21 ⟨A21, c21, rfl, _, _, hb⟩
  replace hB := bstep (balloc (balloc hB _) _) hb
  clear hb
  go_wp2_with fail
  refine (merge_w 17 (List.replicate 257 []) [] 4 257 0 v20 List.length_replicate rfl (by omega) (by omega) _ 257 _ (zL_RLL (Blk.newAt _ _ rfl))).mono ?_
  rintro _ w22 ⟨A22, c22, rfl, _, _, hb⟩
  replace hB := bstep (balloc hB _) hb
  clear hb
  go_wp2
  go_loopg [44] 129 (fun gk i wr => ∃ (x : Nat) (raws : List Value), x + gk = 129 ∧ i = .int .i64 x ∧ Hid (raws.length = x) ∧ Blk wr w22.heap.size 31 (rowC raws 129) ∧ Grid (w22.heap.size + 1) wr.heap.size wr raws (fullL (fun _ => [0, 0]) x) ∧ Below w22.heap.size w22 wr)
  case atStart => exact ⟨0, [], by omega, rfl, Lib.hid rfl, Blk.new w22 _ _, Grid.nil, balloc (Below.refl _ _) _⟩
  case round =>
    obtain ⟨x, raws, hx, rfl, HRL, hO, hG, hb⟩ := hrel
    have hx' : x ≤ 129 := by omega
    have HK := Lib.hid hx
    clear hx
    by_cases hlt : x < 129
    · have hgl := hO.lt
      have q0 : wr.cell? ⟨w22.heap.size, x, none⟩ = some (.slice none 0 0) := by
        rw [hO.cell, ← HRL.out]
        exact rowC_at (by rw [HRL.out]; exact hlt)
      have f0 := hO.frozen x
      have hO2 := (hO.put x (.slice (some ⟨wr.heap.size, 0, none⟩) 2 2)).alloc (.cells #[.int .i64 0, .int .i64 0] 2)
      rw [← HRL.out, rowC_set (by rw [HRL.out]; exact hlt), HRL.out] at hO2
      have hR2 : Blk ((wr.setCell ⟨w22.heap.size, x, none⟩ (.slice (some ⟨wr.heap.size, 0, none⟩) 2 2)).alloc (.cells #[.int .i64 0, .int .i64 0] 2)) wr.heap.size 2 (([0, 0] : List Int).flatMap (encI .i64)).toArray := Blk.newAt _ _ (by simp)
      have hG1 := (hG.far (p := ⟨w22.heap.size, x, none⟩) (.inl (by simp)) (.slice (some ⟨wr.heap.size, 0, none⟩) 2 2)).keep (balloc (Below.refl _ _) (.cells #[.int .i64 0, .int .i64 0] 2))
      have hG2 := hG1.snoc (xs := [0, 0]) (n := 2) rfl hR2 (by omega) (top' := wr.heap.size + 1) (by omega) (by omega)
      have HFS := Lib.hid (fullL_succ (fun _ => ([0, 0] : List Int)) x)
      have hb2 : Below w22.heap.size w22 ((wr.setCell ⟨w22.heap.size, x, none⟩ (.slice (some ⟨wr.heap.size, 0, none⟩) 2 2)).alloc (.cells #[.int .i64 0, .int .i64 0] 2)) := balloc (hb.setCell (p := ⟨w22.heap.size, x, none⟩) (Nat.le_refl _) _) _
      go_wp2
      go_roundg (gk - 1)
      case rel => exact ⟨x + 1, _, by have := HK.out; omega, by go_num, Lib.hid (by rw [List.length_append, HRL.out]; rfl), hO2, by rw [HFS.out]; exact hG2.mono (by simp), hb2⟩
      case measure => have := HK.out; omega
    · obtain rfl : x = 129 := by omega
      rw [rowC_full HRL.out] at hO
      have rW := wide_RLL hO hG
      replace hB := bstep hB hb
      clear hb
      go_wp2_with fail
      refine (merge_w 17 wideL [] 4 129 0 v21 (fullL_len _ _) rfl (by omega) (by omega) _ 129 _ rW).mono ?_
      rintro _ w23 ⟨A23, c23, rfl, _, _, hb⟩
      replace hB := bstep hB hb
      clear hb
      clear rW hO hG
      go_wp2_with fail
      refine (keep_w 17 [[1, 1]] [true] [] 2 1 1 0 v22 rfl rfl rfl (by omega) (by omega) _ 1 _ _ _ (lit1k _ [1, 1] 2 rfl _ rfl).1 (lit1k _ [1, 1] 2 rfl _ rfl).2).mono ?_
      rintro _ w24 ⟨A24, c24, rfl, _, hb⟩
      replace hB := bstep (balloc (balloc (balloc hB _) _) _) hb
      clear hb
      go_wp2_with fail
      refine (add_w 17 [[1]] [[1, 1]] [] 2 1 1 0 v23 rfl rfl rfl (by omega) (by omega) _ 1 _ 1 _ (lit11 _ [1] [1, 1] 1 2 rfl rfl _ _ rfl rfl).1 (lit11 _ [1] [1, 1] 1 2 rfl rfl _ _ rfl rfl).2).mono ?_
      rintro _ w25 ⟨A25, c25, rfl, _, hb⟩
      replace hB := bstep (balloc (balloc (balloc (balloc hB _) _) _) _) hb
      clear hb
      go_wp2_with fail
      refine (add_w 17 [[1]] [] [] 2 1 0 0 v24 rfl rfl rfl (by omega) (by omega) _ 1 none 0 _ (lit1 _ [1] 1 rfl _ rfl) RLL.nil).mono ?_
      rintro _ w26 ⟨A26, c26, rfl, _, hb⟩
      replace hB := bstep (balloc (balloc hB _) _) hb
      clear hb
      go_wp2_with fail
      refine (power_w 17 [[1]] [[-1]] [] 8 1 1 0 v25 rfl rfl rfl (by omega) (by omega) _ 1 _ 1 _ (lit11 _ [1] [-1] 1 1 rfl rfl _ _ rfl rfl).1 (lit11 _ [1] [-1] 1 1 rfl rfl _ _ rfl rfl).2).mono ?_
      rintro _ w27 ⟨A27, c27, rfl, _, hb⟩
      replace hB := bstep (balloc (balloc (balloc (balloc hB _) _) _) _) hb
      clear hb
      go_wp2_with fail
      refine (shift_w 3 [] 1 [] 2 0 0 v26 rfl rfl (by omega) (by omega) (by omega) none 0 _ RLL.nil).mono ?_
      rintro _ w28 ⟨A28, c28, rfl, _, hb⟩
      replace hB := bstep hB hb
      clear hb
      go_wp2_with fail
      refine (alive12 _).mono ?_
      rintro _ w99 ⟨rfl, hb⟩
      replace hB := bstep hB hb
      go_wp2
      go_ret
      exact ⟨by simp, hB⟩
end Bk
end Go.Proofs.Ytnhjeelcgfobnaa
