/-
  Parts of the proof of WorkerNames: WkNm.
-/
import Derived.Test.YtdekbncpodjgnaaT25
import Derived.Test.YtdekbncpodjgnaaT26
namespace Go.Proofs.Ytdekbncpodjgnaa
open Go.RowKit Runs Lagc Reg
set_option linter.unusedVariables false
set_option linter.unusedSimpArgs false
namespace Wk
open Lagw
def zI (n : Nat) : Array Value := ((List.replicate n (0 : Int)).flatMap (encI .i64)).toArray
theorem z_RI {w : World} {g n : Nat} {t : TypeId} (h : Blk w g t (zI n)) : RI .i64 w (some ⟨g, 0, none⟩) (List.replicate n 0) := blk_RI h
theorem mkI (n : Nat) (hn : n ≤ 1000) (w : World) : (Instr.makeSlice 22 (.int .i64 (n : Int)) (.int .i64 (n : Int))).run Try.prog w = .ok (.slice (some ⟨w.heap.size, 0, none⟩) n n) (w.alloc (.cells (zI n) 3)) := by
 obtain ⟨i0, hi0, hz0, hz1, hz2⟩ := info_parts info_int
 exact mk_row (P := Try.prog) 22 3 Try.underlying22 hi0 hz0 hz1 hz2 (encI .i64) (encI_len .i64) (by omega) 0 rfl n (by omega) (by omega) w
theorem mk257 (w : World) : (Instr.makeSlice 22 (.int .i64 257) (.int .i64 257)).run Try.prog w = .ok (.slice (some ⟨w.heap.size, 0, none⟩) 257 257) (w.alloc (.cells (zI 257) 3)) := mkI 257 (by omega) w
theorem mk65 (w : World) : (Instr.makeSlice 22 (.int .i64 65) (.int .i64 65)).run Try.prog w = .ok (.slice (some ⟨w.heap.size, 0, none⟩) 65 65) (w.alloc (.cells (zI 65) 3)) := mkI 65 (by omega) w
theorem mk256 (w : World) : (Instr.makeSlice 22 (.int .i64 256) (.int .i64 256)).run Try.prog w = .ok (.slice (some ⟨w.heap.size, 0, none⟩) 256 256) (w.alloc (.cells (zI 256) 3)) := mkI 256 (by omega) w
def zB2 : Array Value := #[.bool false, .bool false]
theorem mkB2 (w : World) : (Instr.makeSlice 40 (.int .i64 2) (.int .i64 2)).run Try.prog w = .ok (.slice (some ⟨w.heap.size, 0, none⟩) 2 2) (w.alloc (.cells zB2 4)) := by
 obtain ⟨i0, hi0, hz0, hz1, hz2⟩ := info_parts info_bool
 exact mk_row (P := Try.prog) 40 4 Try.underlying40 hi0 hz0 hz1 hz2 encB encB_len (by omega) false rfl 2 (by omega) (by omega) w
theorem zB2_RBo {w : World} {g : Nat} {t : TypeId} (h : Blk w g t zB2) : RBo w (some ⟨g, 0, none⟩) [false, false] := blk_RBo (l := [false, false]) h
def encE (e : Ev) : List Value := [.int .u8 e.k, .int .i64 e.w, .int .i64 e.b]
theorem encE_len (e : Ev) : (encE e).length = 3 := rfl
theorem encE_one (e : Ev) : ∀ u ∈ encE e, u.oneCell' = true := by simp [encE, Value.oneCell']
theorem RE_RR {w : World} {A : Option Addr} {l : List Ev} (h : RR encE 3 w A l) : RE w A l := by
 intro h0
 obtain ⟨b, off, e, hlt, hc⟩ := h h0
 refine ⟨b, off, e, hlt, fun j hj => ?_⟩
 have h1 := hc j hj 0 (by omega)
 have h2 := hc j hj 1 (by omega)
 have h3 := hc j hj 2 (by omega)
 exact ⟨h1, h2, h3⟩
theorem own_RE {w : World} {base : Nat} {e : TypeId} {A : Option Addr} {c n : Nat} {l : List Ev} (hn : l.length = n) (h : w.ownsRow base e 3 (.slice A n c) n (l.flatMap encE)) : RE w A l := by
 subst hn
 exact RE_RR (own_RR encE_len h)
theorem blk_RE {w : World} {e : TypeId} {g : Nat} {l : List Ev} (h : Blk w g e (l.flatMap encE).toArray) : RE w (some ⟨g, 0, none⟩) l := RE_RR (blk_RR encE_len h)
theorem info_ev : (Try.prog.info? 54).map (fun i => (i.zero, i.size, i.bytes)) = some (some (.agg #[.int .u8 0, .int .i64 0, .int .i64 0]), 3, 24) := by kernel_rfl
def zE (n : Nat) : Array Value := ((List.replicate n (⟨0, 0, 0⟩ : Ev)).flatMap encE).toArray
theorem mkE401 (w : World) : (Instr.makeSlice 55 (.int .i64 401) (.int .i64 401)).run Try.prog w = .ok (.slice (some ⟨w.heap.size, 0, none⟩) 401 401) (w.alloc (.cells (zE 401) 54)) := by
 obtain ⟨i0, hi0, hz0, hz1, hz2⟩ := info_parts info_ev
 exact mk_row (P := Try.prog) 55 54 Try.underlying55 hi0 hz0 hz1 hz2 encE encE_len (by omega) ⟨0, 0, 0⟩ rfl 401 (by omega) (by omega) w
theorem zE_RE {w : World} {g n : Nat} {t : TypeId} (h : Blk w g t (zE n)) : RE w (some ⟨g, 0, none⟩) (List.replicate n ⟨0, 0, 0⟩) := blk_RE h
theorem happens_blk (w : World) : Calls Try.prog 35 #[] w fun e w' => ∃ g, e = .returned (.slice (some ⟨g, 0, none⟩) 7 7) ∧ w.heap.size ≤ g ∧ Blk w' g 54 (hapL.flatMap encE).toArray ∧ Below w.heap.size w w' := by
 go_enter Try.func35, Try.ntmps35
 go_wp2
 go_ret
 exact ⟨_, rfl, Nat.le_refl _, Blk.new _ _ _, balloc (Below.refl _ _) _⟩
def lW : List Bool × List Int := ([false, false], [-1])
def lU : List Bool × List Int := ([false, false], [0])
def lX : List Bool × List Int := ([true, false], [-1])
theorem g_good {d : List Bool} {t : List Int} (h : decide (d.length = 2 ∧ 1 ≤ t.length ∧ t.length ≤ 6) = true) (h2 : t.all (fun x => decide (-1 ≤ x ∧ x < 2)) = true) : Good19 (cdiv gX.length 2) d t := by
 have h' := of_decide_eq_true h
 exact ⟨h'.1, h'.2.1, h'.2.2, fun x hx => of_decide_eq_true (List.all_eq_true.1 h2 x hx)⟩
theorem g_job0 : jobErr gX gY ((0 : Nat) : Int) ((2 : Nat) : Int) = 0 := by decide +kernel
theorem g_openW : openS gX gY ((0 : Nat) : Int) ((2 : Nat) : Int) ((1 : Nat) : Int) = (workS gX gY 0 2 lW, 0) := by
 rw [openS_ok g_job0 (by decide), sumA_new gJob]
 rfl
theorem g_part (b : Int) (h : decide (b < 0 ∨ 2 ≤ b) = true) : partS gX gY ((0 : Nat) : Int) ((2 : Nat) : Int) b = ([], 2) := partS_arg g_job0 (of_decide_eq_true h)
theorem g_openE (n : Int) (h : decide (n < 1 ∨ 6 < n) = true) : openS gX gY ((0 : Nat) : Int) ((2 : Nat) : Int) n = (.none, 2) := openS_arg g_job0 (of_decide_eq_true h)
theorem g_sumne : sumA gX gY 0 2 [true, false] ≠ sumA gX gY 0 2 [false, false] := by
 intro e
 have h1 := (sumA_is (M := 0) (S := 2) (d := [true, false]) gJob rfl).vs 0 (by omega)
 have h2 := (sumA_is (M := 0) (S := 2) (d := [false, false]) gJob rfl).vs 0 (by omega)
 rw [e, h2] at h1
 revert h1
 decide +kernel
noncomputable def wrongW : Work := ⟨sumA gX gY 0 2 [true, false], [false, false], [-1]⟩
theorem g_badW : stateErr gX gY ((0 : Nat) : Int) ((2 : Nat) : Int) wrongW = 8 := by
 refine stateErr_no g_job0 ?_
 cases hb : stateB gX gY 0 2 wrongW
 ·rfl
 ·exfalso
  obtain ⟨M, S, eM, eS, _, _, ha⟩ := stateErr_zero (stateErr_ok g_job0 hb)
  cases Int.ofNat.inj eM
  cases Int.ofNat.inj eS
  exact g_sumne ha
theorem g_badN : stateErr gX gY ((0 : Nat) : Int) ((2 : Nat) : Int) Work.none = 8 := by
 refine stateErr_no g_job0 ?_
 cases hb : stateB gX gY 0 2 Work.none
 ·rfl
 ·exfalso
  obtain ⟨M, S, eM, eS, _, hG, _⟩ := stateErr_zero (stateErr_ok g_job0 hb)
  cases Int.ofNat.inj eM
  cases Int.ofNat.inj eS
  have := hG.d
  revert this
  decide
theorem g_resW : resS gX gY ((0 : Nat) : Int) ((2 : Nat) : Int) wrongW = ([], 8) := by
 unfold resS
 rw [if_pos (by rw [g_badW]; decide), g_badW]
theorem g_applyN (e : Ev) : applyS gX gY ((0 : Nat) : Int) ((2 : Nat) : Int) Work.none e = (.none, 8) := by
 unfold applyS
 rw [if_pos (by rw [g_badN]; decide), g_badN]
theorem g_run401 : runS gX gY ((0 : Nat) : Int) ((2 : Nat) : Int) ((1 : Nat) : Int) (List.replicate 401 ⟨0, 0, 0⟩) = ((.none, 0), 4) := by
 unfold runS
 rw [if_neg (by rw [g_openW]; simp), if_pos (by rw [List.length_replicate]; omega)]
def hap8 : List Ev := hapL ++ [⟨2, 0, 0⟩]
theorem g_runL8 : runL (start19 (cdiv gX.length 2) 2) hap8 0 = ((([true, true], [-1, -1]), 7), 36) := by decide +kernel
theorem g_run8 : runS gX gY ((0 : Nat) : Int) ((2 : Nat) : Int) ((2 : Nat) : Int) hap8 = ((workS gX gY 0 2 ([true, true], [-1, -1]), 7), 36) := by
 unfold runS
 rw [if_neg (by rw [show ((2 : Nat) : Int) = 2 by rfl, show ((0 : Nat) : Int) = 0 by rfl, g_open]; simp), if_neg (by decide)]
 have h := g_runL8
 simp only [Int.toNat_natCast]
 rw [h]
 rfl
theorem nJob : Job [] [] 0 3 := ⟨by decide +kernel, by decide +kernel, by omega, by omega, by omega, by decide +kernel⟩
theorem n_job0 : jobErr [] [] ((0 : Nat) : Int) ((3 : Nat) : Int) = 0 := by decide +kernel
theorem n_open : openS [] [] ((0 : Nat) : Int) ((3 : Nat) : Int) ((1 : Nat) : Int) = (workS [] [] 0 3 ([], [-1]), 0) := by
 rw [openS_ok n_job0 (by decide), sumA_new nJob]
 rfl
theorem n_good : Good19 (cdiv ([] : List Int).length 3) [] [-1] := ⟨by decide, by decide, by decide, by decide⟩
theorem n_res : resS [] [] ((0 : Nat) : Int) ((3 : Nat) : Int) (workS [] [] 0 3 ([], [-1])) = ([(0, 0)], 0) := by
 have h := res_work (M := 0) (S := 3) nJob (st := ([], [-1])) n_good
 rw [h, if_pos (by decide)]
 have : fullL (sumsF [] [] 0 3 []) (2 * 0 + 1) = [(0, 0)] := by decide +kernel
 simp only [this]
theorem chk_w (X Y : Option Addr) (cx cy nx ny : Nat) (xs ys : List Int) (m s x : Int) (hlx : xs.length = nx) (hly : ys.length = ny) (he : jobErr xs ys m s = x) (h1 : nx ≤ 1000) (h2 : ny ≤ 1000) (w : World) (hx : RI .i64 w X xs) (hy : RI .i64 w Y ys) :
 Calls Try.prog 16 #[.agg #[.slice X nx cx, .slice Y ny cy, .int .i64 m, .int .i64 s]] w fun e w' => e = .returned (.int .i64 x) ∧ Below w.heap.size w w' := by
 subst hlx; subst hly; subst he
 exact wkCheck_any X Y cx cy xs ys m s w hx hy (by omega) (by omega)
theorem part_w (b : Int) (h : decide (b < 0 ∨ 2 ≤ b) = true) (X Y : Option Addr) (w : World) (hx : RI .i64 w X gX) (hy : RI .i64 w Y gY) :
 Calls Try.prog 12 #[.agg #[.slice X 3 3, .slice Y 3 3, .int .i64 0, .int .i64 2], .int .i64 b] w fun e w' => (∃ A c, e = .returned (.tuple #[.slice A 0 c, .int .i64 2])) ∧ Below w.heap.size w w' := by
 have := wkPart_any X Y 3 3 gX gY ((0 : Nat) : Int) ((2 : Nat) : Int) b w hx hy (by decide) (by decide) (by decide)
 rw [g_part b h] at this
 exact this.mono fun e w' ⟨A, c, he, _, hb⟩ => ⟨⟨A, c, he⟩, hb⟩
theorem openE_w (n : Int) (h : decide (n < 1 ∨ 6 < n) = true) (X Y : Option Addr) (w : World) (hx : RI .i64 w X gX) (hy : RI .i64 w Y gY) :
 Calls Try.prog 14 #[.agg #[.slice X 3 3, .slice Y 3 3, .int .i64 0, .int .i64 2], .int .i64 n] w (RetW w (.none, 2)) := by
 have := wkOpen_any X Y 3 3 gX gY ((0 : Nat) : Int) ((2 : Nat) : Int) n w hx hy (by decide) (by decide)
 rw [g_openE n h] at this
 exact this
theorem openW_w (X Y : Option Addr) (w : World) (hx : RI .i64 w X gX) (hy : RI .i64 w Y gY) :
 Calls Try.prog 14 #[.agg #[.slice X 3 3, .slice Y 3 3, .int .i64 0, .int .i64 2], .int .i64 1] w (RetW w (workS gX gY 0 2 lW, 0)) := by
 have := wkOpen_any X Y 3 3 gX gY ((0 : Nat) : Int) ((2 : Nat) : Int) ((1 : Nat) : Int) w hx hy (by decide) (by decide)
 rw [g_openW] at this
 exact this
theorem openN_w (w : World) :
 Calls Try.prog 14 #[.agg #[.slice none 0 0, .slice none 0 0, .int .i64 0, .int .i64 3], .int .i64 1] w (RetW w (workS [] [] 0 3 ([], [-1]), 0)) := by
 have := wkOpen_any none none 0 0 [] [] ((0 : Nat) : Int) ((3 : Nat) : Int) ((1 : Nat) : Int) w RI.nil RI.nil (by decide) (by decide)
 rw [n_open] at this
 exact this
theorem apply_g {st : List Bool × List Int} (hG : Good19 (cdiv gX.length 2) st.1 st.2) (ev : Ev) (RES : Work × Int) (h : stW gX gY 0 2 (stepS st.1 st.2 ev) = RES) (X Y S1 N1 G1 D T : Option Addr) (c1 c2 c3 c4 c5 : Nat) (w : World) (hx : RI .i64 w X gX) (hy : RI .i64 w Y gY) (hr : RW w S1 N1 G1 D T (workS gX gY 0 2 st)) :
 Calls Try.prog 22 #[.agg #[.slice X 3 3, .slice Y 3 3, .int .i64 0, .int .i64 2], .agg #[.slice S1 (workS gX gY 0 2 st).a.s.length c1, .slice N1 (workS gX gY 0 2 st).a.n.length c2, .slice G1 (workS gX gY 0 2 st).a.g.length c3, .slice D (workS gX gY 0 2 st).d.length c4, .slice T (workS gX gY 0 2 st).t.length c5], .agg #[.int .u8 ev.k, .int .i64 ev.w, .int .i64 ev.b]] w (RetW w RES) := by
 have := apply_w (M := 0) (S := 2) gJob hG X Y S1 N1 G1 D T 3 3 c1 c2 c3 c4 c5 ev w hx hy (by decide) hr
 rw [h] at this
 exact this
theorem applyN_g (X Y : Option Addr) (w : World) (hx : RI .i64 w X gX) (hy : RI .i64 w Y gY) :
 Calls Try.prog 22 #[.agg #[.slice X 3 3, .slice Y 3 3, .int .i64 0, .int .i64 2], .agg #[.slice none 0 0, .slice none 0 0, .slice none 0 0, .slice none 0 0, .slice none 0 0], .agg #[.int .u8 4, .int .i64 0, .int .i64 0]] w (RetW w (.none, 8)) := by
 have := apply_any X Y none none none none none 3 3 0 0 0 0 0 gX gY ((0 : Nat) : Int) ((2 : Nat) : Int) Work.none 4 0 0 w hx hy (by decide) (by decide) (by decide) RW.none (by decide) (by decide) (by decide) (by decide) (by decide)
 rw [g_applyN] at this
 exact this
theorem resultB_g (X Y S1 N1 G1 D T : Option Addr) (c1 c2 c3 c4 c5 : Nat) (w : World) (hx : RI .i64 w X gX) (hy : RI .i64 w Y gY) (hr : RW w S1 N1 G1 D T wrongW) :
 Calls Try.prog 26 #[.agg #[.slice X 3 3, .slice Y 3 3, .int .i64 0, .int .i64 2], .agg #[.slice S1 (workS gX gY 0 2 lX).a.s.length c1, .slice N1 (workS gX gY 0 2 lX).a.n.length c2, .slice G1 (workS gX gY 0 2 lX).a.g.length c3, .slice D 2 c4, .slice T (workS gX gY 0 2 lX).t.length c5]] w fun e w' => (∃ A c, e = .returned (.tuple #[.slice A 0 c, .int .i64 8])) ∧ Below w.heap.size w w' := by
 have hs := work_small (M := 0) (S := 2) (st := lX) gJob (g_good (by decide) (by decide))
 have := result_any X Y S1 N1 G1 D T 3 3 c1 c2 c3 c4 c5 gX gY ((0 : Nat) : Int) ((2 : Nat) : Int) wrongW w hx hy (by decide) (by decide) (by decide) hr (by have := hs.1; exact Nat.le_trans this (by omega)) (by have := hs.2.1; exact Nat.le_trans this (by omega)) (by have := hs.2.2.1; exact Nat.le_trans this (by omega)) (by decide) (by decide)
 rw [g_resW] at this
 exact this.mono fun e w' ⟨A, c, he, _, hb⟩ => ⟨⟨A, c, he⟩, hb⟩
theorem resultN_g (S1 N1 G1 D T : Option Addr) (c1 c2 c3 c4 c5 : Nat) (w : World) (hr : RW w S1 N1 G1 D T (workS [] [] 0 3 ([], [-1]))) :
 Calls Try.prog 26 #[.agg #[.slice none 0 0, .slice none 0 0, .int .i64 0, .int .i64 3], .agg #[.slice S1 (workS [] [] 0 3 ([], [-1])).a.s.length c1, .slice N1 (workS [] [] 0 3 ([], [-1])).a.n.length c2, .slice G1 (workS [] [] 0 3 ([], [-1])).a.g.length c3, .slice D (workS [] [] 0 3 ([], [-1])).d.length c4, .slice T (workS [] [] 0 3 ([], [-1])).t.length c5]] w (RetQ 75 w ([(0, 0)], 0)) := by
 obtain ⟨h1, h2, h3, h4, h5⟩ := work_small (M := 0) (S := 3) (st := ([], [-1])) nJob n_good
 have := result_any none none S1 N1 G1 D T 0 0 c1 c2 c3 c4 c5 [] [] ((0 : Nat) : Int) ((3 : Nat) : Int) _ w RI.nil RI.nil (by decide) (by decide) (by decide) hr (by omega) (by omega) (by omega) (by omega) (by omega)
 rw [n_res] at this
 exact this
theorem run401_g (X Y : Option Addr) (g : Nat) (w : World) (hx : RI .i64 w X gX) (hy : RI .i64 w Y gY) (hA : RE w (some ⟨g, 0, none⟩) (List.replicate 401 ⟨0, 0, 0⟩)) :
 Calls Try.prog 24 #[.agg #[.slice X 3 3, .slice Y 3 3, .int .i64 0, .int .i64 2], .int .i64 1, .slice (some ⟨g, 0, none⟩) 401 401] w (RetR w ((.none, 0), 4)) := by
 have := run_any X Y (some ⟨g, 0, none⟩) 3 3 401 gX gY ((0 : Nat) : Int) ((2 : Nat) : Int) ((1 : Nat) : Int) (List.replicate 401 ⟨0, 0, 0⟩) w hx hy (by decide) (by decide) (by decide) hA (by rw [List.length_replicate]; omega)
 rw [g_run401, List.length_replicate] at this
 exact this
theorem run8_g (X Y A : Option Addr) (c : Nat) (w : World) (hx : RI .i64 w X gX) (hy : RI .i64 w Y gY) (hA : RE w A hap8) :
 Calls Try.prog 24 #[.agg #[.slice X 3 3, .slice Y 3 3, .int .i64 0, .int .i64 2], .int .i64 2, .slice A 8 c] w (RetR w ((workS gX gY 0 2 ([true, true], [-1, -1]), 7), 36)) := by
 have := run_any X Y A 3 3 c gX gY ((0 : Nat) : Int) ((2 : Nat) : Int) ((2 : Nat) : Int) hap8 w hx hy (by decide) (by decide) (by decide) hA (by decide)
 rw [g_run8] at this
 exact this
theorem same_g (S1 N1 G1 D1 T1 S2 N2 G2 D2 T2 : Option Addr) (c1 c2 c3 c4 c5 d1 d2 d3 d4 d5 : Nat) (w : World) (hx : RW w S1 N1 G1 D1 T1 (workS gX gY 0 2 lW)) (hy : RW w S2 N2 G2 D2 T2 (workS gX gY 0 2 lW)) :
 Calls Try.prog 19 #[.agg #[.slice S1 (workS gX gY 0 2 lW).a.s.length c1, .slice N1 (workS gX gY 0 2 lW).a.n.length c2, .slice G1 (workS gX gY 0 2 lW).a.g.length c3, .slice D1 (workS gX gY 0 2 lW).d.length c4, .slice T1 (workS gX gY 0 2 lW).t.length c5], .agg #[.slice S2 (workS gX gY 0 2 lW).a.s.length d1, .slice N2 (workS gX gY 0 2 lW).a.n.length d2, .slice G2 (workS gX gY 0 2 lW).a.g.length d3, .slice D2 (workS gX gY 0 2 lW).d.length d4, .slice T2 (workS gX gY 0 2 lW).t.length d5]] w fun e w' => e = .returned (.bool true) ∧ Below w.heap.size w w' :=
 same19_w (M := 0) (S := 2) gJob (d := lW.1) (t := lW.2) (g_good (by decide) (by decide)) S1 N1 G1 D1 T1 S2 N2 G2 D2 T2 c1 c2 c3 c4 c5 d1 d2 d3 d4 d5 w hx hy
theorem lagN_g (A B : Option Addr) (c d : Nat) (w : World) (hx : RL w A [(0, 0)]) (hy : RL w B [(0, 0)]) : Calls Try.prog 18 #[.slice A 1 c, .slice B 1 d] w fun e w' => e = .returned (.bool true) ∧ ∃ n, w' = w.drewN n := by
 have := Lagc.same16_any A B c d [(0, 0)] [(0, 0)] w hx hy (by simp) (by simp)
 rw [decide_eq_true rfl] at this
 exact this
theorem twin_g (S N G D T : Option Addr) (c1 c2 c3 c4 c5 : Nat) (w : World) (hx : RW w S N G D T (workS gX gY 0 2 lX)) :
 Calls Try.prog 34 #[.agg #[.slice S (workS gX gY 0 2 lX).a.s.length c1, .slice N (workS gX gY 0 2 lX).a.n.length c2, .slice G (workS gX gY 0 2 lX).a.g.length c3, .slice D (workS gX gY 0 2 lX).d.length c4, .slice T (workS gX gY 0 2 lX).t.length c5]] w fun e w' => ∃ S N G D T c1 c2 c3 c4 c5, e = .returned (.agg #[.slice S (workS gX gY 0 2 lX).a.s.length c1, .slice N (workS gX gY 0 2 lX).a.n.length c2, .slice G (workS gX gY 0 2 lX).a.g.length c3, .slice D (workS gX gY 0 2 lX).d.length c4, .slice T (workS gX gY 0 2 lX).t.length c5]) ∧ CW w.heap.size w' S N G D T c1 c2 c3 c4 c5 (workS gX gY 0 2 lX) ∧ Below w.heap.size w w' := by
 obtain ⟨h1, h2, h3, h4, h5⟩ := work_small (M := 0) (S := 2) (st := lX) gJob (g_good (by decide) (by decide))
 exact (twin19_any S N G D T c1 c2 c3 c4 c5 (workS gX gY 0 2 lX) w hx (by omega) (by omega) (by omega) (by omega) (by omega)).mono fun e w' ⟨S, N, G, D, T, c1, c2, c3, c4, c5, he, hc, hb⟩ => ⟨S, N, G, D, T, c1, c2, c3, c4, c5, he, hc, hb⟩
end Wk
end Go.Proofs.Ytdekbncpodjgnaa
