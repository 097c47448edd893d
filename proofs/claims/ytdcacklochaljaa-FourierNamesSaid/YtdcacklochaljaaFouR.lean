/-
  FourierNames. Printed in part by gen_fou.py.
-/
import Derived.Test.YtdcacklochaljaaFouM
namespace Go.Proofs.Ytdcacklochaljaa
open Go.RowKit Num
set_option linter.unusedVariables false
namespace Nm
theorem okP_bad {P : Nat} (h1 : 2 ≤ P) (h2 : P ≤ 2000000000) (h : ¬ Pr P) : okP (P : Int) = false := by rw [okP_nat h1 h2, primeB_false h]
theorem chk_arg {p : Int} {l : List Int} (h : okP p = false) : chkL p l = 2 := by unfold chkL; rw [h]; rfl
theorem chk_many {p : Int} {l : List Int} (h : okP p = true) (h2 : l.length < 1 ∨ 64 < l.length) : chkL p l = 4 := by unfold chkL; rw [if_pos h, if_pos h2]
theorem chk_none {p : Int} {l : List Int} (h : okP p = true) (h2 : ¬ (l.length < 1 ∨ 64 < l.length)) (h3 : (p - 1) % (l.length : Int) ≠ 0) : chkL p l = 6 := by unfold chkL; rw [if_pos h, if_neg h2, if_pos h3]
theorem chk_bad {p : Int} {l : List Int} (h : okP p = true) (h2 : ¬ (l.length < 1 ∨ 64 < l.length)) (h3 : ¬ (p - 1) % (l.length : Int) ≠ 0) (h4 : l.any (fun x => decide (x < 0 ∨ p ≤ x)) = true) : chkL p l = 8 := by unfold chkL; rw [if_pos h, if_neg h2, if_neg h3, if_pos h4]
theorem fwdS_err {p : Int} {l : List Int} {x : Int} (h : chkL p l = x) (hx : x ≠ 0) : fwdS p l = ([], x) := by unfold fwdS; rw [h, if_neg hx]
theorem bkS_err {p : Int} {l : List Int} {x : Int} (h : chkL p l = x) (hx : x ≠ 0) : bkS p l = ([], x) := by unfold bkS; rw [h, if_neg hx]
theorem sgS_err {p : Int} {l : List Int} {x : Int} (h : chkL p l = x) (hx : x ≠ 0) : sgS p l = ([], x) := by unfold sgS; rw [h, if_neg hx]
theorem tuS_err {p : Int} {l : List Int} {d x : Int} (h : chkL p l = x) (hx : x ≠ 0) : tuS p l d = ([], x) := by unfold tuS; rw [h, if_neg hx]
theorem phS_err {p : Int} {l : List Int} {d x : Int} (h : chkL p l = x) (hx : x ≠ 0) : phS p l d = ([], x) := by unfold phS; rw [h, if_neg hx]
theorem fwd_any_val {P : Nat} {l : List Int} (h : Fit P l) : fwdS (P : Int) l = (fwdL P l, 0) := by unfold fwdS; rw [if_pos (chkL_ok h)]; rfl
theorem cvS_len_err {P : Nat} {a b : List Int} (h : Fit P a) (h' : Fit P b) (hl : ¬ a.length = b.length) : cvS (P : Int) a b = ([], 2) := by unfold cvS; rw [if_pos (chkL_ok h), if_pos (chkL_ok h'), if_neg hl]
theorem cvS_err2 {P : Nat} {a b : List Int} {x : Int} (h : Fit P a) (h' : chkL (P : Int) b = x) (hx : x ≠ 0) : cvS (P : Int) a b = ([], x) := by unfold cvS; rw [if_pos (chkL_ok h), h', if_neg hx]
theorem rdS_bad {p : Int} {l : List Int} (h : okP p = true) (h2 : ¬ 1000 < l.length) (h4 : l.any (fun x => decide (x < -p ∨ p < x)) = true) : rdS p l = ([], 8) := by unfold rdS; rw [if_pos h, if_neg h2, if_pos h4]
theorem rdS_many {p : Int} {l : List Int} (h : okP p = true) (h2 : 1000 < l.length) : rdS p l = ([], 4) := by unfold rdS; rw [if_pos h, if_pos h2]
theorem rdS_arg {p : Int} {l : List Int} (h : okP p = false) : rdS p l = ([], 2) := by unfold rdS; rw [h]; rfl
theorem fwd_atn (p : Int) (A : Option Addr) (c : Nat) (l : List Int) (n : Nat) (hn : l.length = n) (r : List Int) (x : Int) (h : fwdS p l = (r, x)) (w : World) (hx : RI .i64 w A l) (hl : n ≤ 9223372036854775807) (hp1 : -9223372036854775808 ≤ p) (hp2 : p ≤ 9223372036854775807) :
    Calls Try.prog 20 #[.int .i64 p, .slice A n c] w fun e w' => ∃ A c, e = .returned (.tuple #[.slice A r.length c, .int .i64 x]) ∧ RI .i64 w' A r ∧ Below w.heap.size w w' := by
  subst hn; exact fwd_at p A c l r x h w hx hl hp1 hp2
theorem reduce_atn (p : Int) (A : Option Addr) (c : Nat) (l : List Int) (n : Nat) (hn : l.length = n) (r : List Int) (x : Int) (h : rdS p l = (r, x)) (w : World) (hx : RI .i64 w A l) (hl : n ≤ 9223372036854775807) (hp1 : -9223372036854775808 ≤ p) (hp2 : p ≤ 9223372036854775807) :
    Calls Try.prog 17 #[.int .i64 p, .slice A n c] w fun e w' => ∃ A c, e = .returned (.tuple #[.slice A r.length c, .int .i64 x]) ∧ RI .i64 w' A r ∧ Below w.heap.size w w' := by
  subst hn; exact reduce_at p A c l r x h w hx hl hp1 hp2
theorem pr_2 : Pr 2 := pr_tr (F := 0) (by omega) (by decide) (by omega)
theorem pr_3 : Pr 3 := pr_tr (F := 0) (by omega) (by decide) (by omega)
theorem pr_5 : Pr 5 := pr_tr (F := 1) (by omega) (by decide) (by omega)
theorem pr_7 : Pr 7 := pr_tr (F := 1) (by omega) (by decide) (by omega)
theorem pr_257 : Pr 257 := pr_tr (F := 15) (by omega) (by decide) (by omega)
theorem facs_1 : facs 1 = [] := facs_eq ⟨by decide, by intro x hx; exact absurd hx List.not_mem_nil, by decide⟩
theorem facs_2 : facs 2 = [2] := facs_eq ⟨by decide, by intro x hx; simp only [List.mem_cons, List.not_mem_nil, or_false] at hx; subst hx; exact pr_2, by decide⟩
theorem facs_4 : facs 4 = [2, 2] := facs_eq ⟨by decide, by intro x hx; simp only [List.mem_cons, List.not_mem_nil, or_false] at hx; rcases hx with rfl | rfl <;> first  | exact pr_2, by decide⟩
theorem facs_6 : facs 6 = [2, 3] := facs_eq ⟨by decide, by intro x hx; simp only [List.mem_cons, List.not_mem_nil, or_false] at hx; rcases hx with rfl | rfl <;> first  | exact pr_2 | exact pr_3, by decide⟩
theorem gn_2 : genN 2 = 1 := gen_at pr_2 (by omega) (by omega) (by unfold Gen; rw [facs_1]; decide) (by intro m h1 h2; unfold Gen; rw [facs_1]; omega)
theorem gn_3 : genN 3 = 2 := gen_at pr_3 (by omega) (by omega) (by unfold Gen; rw [facs_2]; decide) (by intro m h1 h2; unfold Gen; rw [facs_2]; rw [show m = 1 by omega]; decide)
theorem gn_5 : genN 5 = 2 := gen_at pr_5 (by omega) (by omega) (by unfold Gen; rw [facs_4]; decide) (by intro m h1 h2; unfold Gen; rw [facs_4]; rw [show m = 1 by omega]; decide)
theorem gn_7 : genN 7 = 3 := gen_at pr_7 (by omega) (by omega) (by unfold Gen; rw [facs_6]; decide) (by intro m h1 h2; unfold Gen; rw [facs_6]; rcases (show m = 1 ∨ m = 2 by omega) with rfl | rfl <;> decide)
theorem nv1 : fwdS 7 [1, 2, 4] = ([0, 0, 3], 0) := fwd_val (P := 7) (fit_of (P := 7) (l := [1, 2, 4]) pr_7 (by omega) (by decide) (by decide) (by decide) (by decide)) (R := 2) (show rootN 7 3 = 2 by unfold rootN; rw [gn_7]) (by decide)
theorem nv2 : fwdS 2 [1] = ([1], 0) := fwd_val (P := 2) (fit_of (P := 2) (l := [1]) pr_2 (by omega) (by decide) (by decide) (by decide) (by decide)) (R := 1) (show rootN 2 1 = 1 by unfold rootN; rw [gn_2]) (by decide)
theorem nv3 : bkS 3 [2, 1] = ([0, 2], 0) := bk_val (P := 3) (fit_of (P := 3) (l := [2, 1]) pr_3 (by omega) (by decide) (by decide) (by decide) (by decide)) (R := 2) (show rootN 3 2 = 2 by unfold rootN; rw [gn_3]) (by decide)
theorem nv4 : phS 5 [1, 1, 1, 1] (-1) = ([1, 3, 4, 2], 0) := ph_val (P := 5) (fit_of (P := 5) (l := [1, 1, 1, 1]) pr_5 (by omega) (by decide) (by decide) (by decide) (by decide)) (R := 2) (show rootN 5 4 = 2 by unfold rootN; rw [gn_5]) (by decide)
theorem nv5 : tuS 5 [1, 2, 3, 4] (-9223372036854775808) = ([1, 2, 3, 4], 0) := tu_val (P := 5) (fit_of (P := 5) (l := [1, 2, 3, 4]) pr_5 (by omega) (by decide) (by decide) (by decide) (by decide)) (by decide)
theorem nv6 : sgS 2 [1] = ([1], 0) := sg_val (P := 2) (fit_of (P := 2) (l := [1]) pr_2 (by omega) (by decide) (by decide) (by decide) (by decide)) (by decide)
theorem nv7 : rdS 5 [-5, -1, 0, 5, 4] = ([0, 4, 0, 0, 4], 0) := rd_val (P := 5) pr_5 (by omega) (by decide) (by decide) (by decide)
theorem nv8 : rdS 5 [] = ([], 0) := rd_val (P := 5) pr_5 (by omega) (by decide) (by decide) (by decide)
theorem nv9 : chkL 6 [] = 2 := chk_arg (okP_bad (P := 6) (by omega) (by omega) (fun h => by rcases h.2 2 (by decide) with h | h <;> omega))
theorem nv10 : fwdS 6 [] = ([], 2) := fwdS_err nv9 (by omega)
theorem nv11 : chkL 5 [] = 4 := chk_many (okP_iff.2 ⟨5, rfl, by omega, by omega, pr_5⟩) (by decide)
theorem nv12 : fwdS 5 [] = ([], 4) := fwdS_err nv11 (by omega)
theorem nv13 : chkL 5 [1, 2, 3] = 6 := chk_none (okP_iff.2 ⟨5, rfl, by omega, by omega, pr_5⟩) (by decide) (by decide)
theorem nv14 : fwdS 5 [1, 2, 3] = ([], 6) := fwdS_err nv13 (by omega)
theorem nv15 : chkL 5 [1, 5] = 8 := chk_bad (okP_iff.2 ⟨5, rfl, by omega, by omega, pr_5⟩) (by decide) (by decide) (by decide)
theorem nv16 : fwdS 5 [1, 5] = ([], 8) := fwdS_err nv15 (by omega)
theorem nv17 : chkL 5 [-1, 0] = 8 := chk_bad (okP_iff.2 ⟨5, rfl, by omega, by omega, pr_5⟩) (by decide) (by decide) (by decide)
theorem nv18 : bkS 5 [-1, 0] = ([], 8) := bkS_err nv17 (by omega)
theorem nv19 : chkL 257 (List.replicate 65 0) = 4 := chk_many (okP_iff.2 ⟨257, rfl, by omega, by omega, pr_257⟩) (by decide)
theorem nv20 : fwdS 257 (List.replicate 65 0) = ([], 4) := fwdS_err nv19 (by omega)
theorem nv21 : fwdS 257 (List.replicate 64 0) = (fwdL 257 (List.replicate 64 0), 0) := fwd_any_val (fit_of (P := 257) pr_257 (by omega) (by decide) (by decide) (by decide) (by decide))
theorem nv22 : cvS 5 [1, 1] [1, 1, 1, 1] = ([], 2) := cvS_len_err (fit_of (P := 5) (l := [1, 1]) pr_5 (by omega) (by decide) (by decide) (by decide) (by decide)) (fit_of (P := 5) (l := [1, 1, 1, 1]) pr_5 (by omega) (by decide) (by decide) (by decide) (by decide)) (by decide)
theorem nv23 : chkL 5 [] = 4 := chk_many (okP_iff.2 ⟨5, rfl, by omega, by omega, pr_5⟩) (by decide)
theorem nv24 : cvS 5 [1, 1] [] = ([], 4) := cvS_err2 (fit_of (P := 5) (l := [1, 1]) pr_5 (by omega) (by decide) (by decide) (by decide) (by decide)) nv23 (by omega)
theorem nv25 : rdS 5 [6] = ([], 8) := rdS_bad (okP_iff.2 ⟨5, rfl, by omega, by omega, pr_5⟩) (by decide) (by decide)
theorem nv26 : rdS 5 (List.replicate 1001 0) = ([], 4) := rdS_many (okP_iff.2 ⟨5, rfl, by omega, by omega, pr_5⟩) (by rw [List.length_replicate]; omega)
theorem nv27 : rdS 4 (List.replicate 1001 0) = ([], 2) := rdS_arg (okP_bad (P := 4) (by omega) (by omega) (fun h => by rcases h.2 2 (by decide) with h | h <;> omega))
theorem nv28 : chkL 5 [1, 1, 1] = 6 := chk_none (okP_iff.2 ⟨5, rfl, by omega, by omega, pr_5⟩) (by decide) (by decide)
theorem nv29 : tuS 5 [1, 1, 1] 1 = ([], 6) := tuS_err nv28 (by omega)
theorem nv30 : chkL 5 [9, 1] = 8 := chk_bad (okP_iff.2 ⟨5, rfl, by omega, by omega, pr_5⟩) (by decide) (by decide) (by decide)
theorem nv31 : phS 5 [9, 1] 1 = ([], 8) := phS_err nv30 (by omega)
theorem nv32 : chkL 1 [] = 2 := chk_arg (okP_out (by omega))
theorem nv33 : sgS 1 [] = ([], 2) := sgS_err nv32 (by omega)
set_option maxRecDepth 20000 in
set_option maxHeartbeats 2000000 in
theorem fourierNames_walk (w : World) : Calls Try.prog 9 #[] w fun e w' => e = .returned (.bool true) ∧ Below w.heap.size w w' := by
  have hB0 := Below.refl w.heap.size w
  obtain ⟨i0, hi0, hz0, hz1, hz2⟩ := info_int64
  obtain ⟨Z65, hZ65⟩ : ∃ Z : Array Value, Z = ((List.replicate 65 (0 : Int)).flatMap (encI .i64)).toArray := ⟨_, rfl⟩
  have hmk65 : ∀ w : World, (Instr.makeSlice 22 (.int .i64 65) (.int .i64 65)).run Try.prog w = .ok (.slice (some ⟨w.heap.size, 0, none⟩) 65 65) (w.alloc (.cells Z65 2)) := by
    intro w; rw [hZ65]; exact mk_row (P := Try.prog) 22 2 Try.underlying22 hi0 hz0 hz1 hz2 (encI .i64) (encI_len .i64) (by omega) 0 rfl 65 (by omega) (by omega) w
  have HZ65 := Lib.hid hZ65
  clear hZ65
  obtain ⟨Z64, hZ64⟩ : ∃ Z : Array Value, Z = ((List.replicate 64 (0 : Int)).flatMap (encI .i64)).toArray := ⟨_, rfl⟩
  have hmk64 : ∀ w : World, (Instr.makeSlice 22 (.int .i64 64) (.int .i64 64)).run Try.prog w = .ok (.slice (some ⟨w.heap.size, 0, none⟩) 64 64) (w.alloc (.cells Z64 2)) := by
    intro w; rw [hZ64]; exact mk_row (P := Try.prog) 22 2 Try.underlying22 hi0 hz0 hz1 hz2 (encI .i64) (encI_len .i64) (by omega) 0 rfl 64 (by omega) (by omega) w
  have HZ64 := Lib.hid hZ64
  clear hZ64
  obtain ⟨Z1001, hZ1001⟩ : ∃ Z : Array Value, Z = ((List.replicate 1001 (0 : Int)).flatMap (encI .i64)).toArray := ⟨_, rfl⟩
  have hmk1001 : ∀ w : World, (Instr.makeSlice 22 (.int .i64 1001) (.int .i64 1001)).run Try.prog w = .ok (.slice (some ⟨w.heap.size, 0, none⟩) 1001 1001) (w.alloc (.cells Z1001 2)) := by
    intro w; rw [hZ1001]; exact mk_row (P := Try.prog) 22 2 Try.underlying22 hi0 hz0 hz1 hz2 (encI .i64) (encI_len .i64) (by omega) 0 rfl 1001 (by omega) (by omega) w
  have HZ1001 := Lib.hid hZ1001
  clear hZ1001
  go_enter Try.func9, Try.ntmps9
  have rx := RI_lit' (W := (w.alloc (.cells #[.int .i64 1, .int .i64 2, .int .i64 4] 2))) (t := 2) (k := .i64) (A := some ⟨w.heap.size, 0, none⟩) [1, 2, 4] _ rfl (Blk.newAt _ _ (by simp)) rfl
  have hM1 := balloc hB0 (.cells #[.int .i64 1, .int .i64 2, .int .i64 4] 2)
  clear hB0
  go_wp2_with fail
  refine (fwd_at 7 _ _ [1, 2, 4] [0, 0, 3] 0 nv1 _ rx (by decide) (by omega) (by omega)).mono ?_
  rintro _ w1 ⟨A1, c1, rfl, r1, hb1⟩
  clear rx
  have hB1 := bstep hM1 hb1
  clear hM1 hb1
  have ra := r1
  clear r1
  replace ra := ra.keep (balloc (Below.refl _ _) (.cells #[.int .i64 1] 2))
  have rx := RI_lit' (W := (w1.alloc (.cells #[.int .i64 1] 2))) (t := 2) (k := .i64) (A := some ⟨w1.heap.size, 0, none⟩) [1] _ rfl (Blk.newAt _ _ (by simp)) rfl
  have hM2 := balloc hB1 (.cells #[.int .i64 1] 2)
  clear hB1
  go_wp2_with fail
  refine (fwd_at 2 _ _ [1] [1] 0 nv2 _ rx (by decide) (by omega) (by omega)).mono ?_
  rintro _ w2 ⟨A2, c2, rfl, r2, hb2⟩
  clear rx
  replace ra := ra.keep hb2
  have hB2 := bstep hM2 hb2
  clear hM2 hb2
  have rb := r2
  clear r2
  replace ra := ra.keep (balloc (Below.refl _ _) (.cells #[.int .i64 2, .int .i64 1] 2))
  replace rb := rb.keep (balloc (Below.refl _ _) (.cells #[.int .i64 2, .int .i64 1] 2))
  have rx := RI_lit' (W := (w2.alloc (.cells #[.int .i64 2, .int .i64 1] 2))) (t := 2) (k := .i64) (A := some ⟨w2.heap.size, 0, none⟩) [2, 1] _ rfl (Blk.newAt _ _ (by simp)) rfl
  have hM3 := balloc hB2 (.cells #[.int .i64 2, .int .i64 1] 2)
  clear hB2
  go_wp2_with fail
  refine (back_at 3 _ _ [2, 1] [0, 2] 0 nv3 _ rx (by decide) (by omega) (by omega)).mono ?_
  rintro _ w3 ⟨A3, c3, rfl, r3, hb3⟩
  clear rx
  replace ra := ra.keep hb3
  replace rb := rb.keep hb3
  have hB3 := bstep hM3 hb3
  clear hM3 hb3
  have rc := r3
  clear r3
  replace ra := ra.keep (balloc (Below.refl _ _) (.cells #[.int .i64 1, .int .i64 1, .int .i64 1, .int .i64 1] 2))
  replace rb := rb.keep (balloc (Below.refl _ _) (.cells #[.int .i64 1, .int .i64 1, .int .i64 1, .int .i64 1] 2))
  replace rc := rc.keep (balloc (Below.refl _ _) (.cells #[.int .i64 1, .int .i64 1, .int .i64 1, .int .i64 1] 2))
  have rx := RI_lit' (W := (w3.alloc (.cells #[.int .i64 1, .int .i64 1, .int .i64 1, .int .i64 1] 2))) (t := 2) (k := .i64) (A := some ⟨w3.heap.size, 0, none⟩) [1, 1, 1, 1] _ rfl (Blk.newAt _ _ (by simp)) rfl
  have hM4 := balloc hB3 (.cells #[.int .i64 1, .int .i64 1, .int .i64 1, .int .i64 1] 2)
  clear hB3
  go_wp2_with fail
  refine (phase_at 5 _ _ [1, 1, 1, 1] (-1) [1, 3, 4, 2] 0 nv4 _ rx (by decide) (by omega) (by omega) (by omega)).mono ?_
  rintro _ w4 ⟨A4, c4, rfl, r4, hb4⟩
  clear rx
  replace ra := ra.keep hb4
  replace rb := rb.keep hb4
  replace rc := rc.keep hb4
  have hB4 := bstep hM4 hb4
  clear hM4 hb4
  have rd := r4
  clear r4
  replace ra := ra.keep (balloc (Below.refl _ _) (.cells #[.int .i64 1, .int .i64 2, .int .i64 3, .int .i64 4] 2))
  replace rb := rb.keep (balloc (Below.refl _ _) (.cells #[.int .i64 1, .int .i64 2, .int .i64 3, .int .i64 4] 2))
  replace rc := rc.keep (balloc (Below.refl _ _) (.cells #[.int .i64 1, .int .i64 2, .int .i64 3, .int .i64 4] 2))
  replace rd := rd.keep (balloc (Below.refl _ _) (.cells #[.int .i64 1, .int .i64 2, .int .i64 3, .int .i64 4] 2))
  have rx := RI_lit' (W := (w4.alloc (.cells #[.int .i64 1, .int .i64 2, .int .i64 3, .int .i64 4] 2))) (t := 2) (k := .i64) (A := some ⟨w4.heap.size, 0, none⟩) [1, 2, 3, 4] _ rfl (Blk.newAt _ _ (by simp)) rfl
  have hM5 := balloc hB4 (.cells #[.int .i64 1, .int .i64 2, .int .i64 3, .int .i64 4] 2)
  clear hB4
  go_wp2_with fail
  refine (turn_at 5 _ _ [1, 2, 3, 4] (-9223372036854775808) [1, 2, 3, 4] 0 nv5 _ rx (by decide) (by omega) (by omega) (by omega)).mono ?_
  rintro _ w5 ⟨A5, c5, rfl, r5, hb5⟩
  clear rx
  replace ra := ra.keep hb5
  replace rb := rb.keep hb5
  replace rc := rc.keep hb5
  replace rd := rd.keep hb5
  have hB5 := bstep hM5 hb5
  clear hM5 hb5
  have ri := r5
  clear r5
  replace ra := ra.keep (balloc (Below.refl _ _) (.cells #[.int .i64 1] 2))
  replace rb := rb.keep (balloc (Below.refl _ _) (.cells #[.int .i64 1] 2))
  replace rc := rc.keep (balloc (Below.refl _ _) (.cells #[.int .i64 1] 2))
  replace rd := rd.keep (balloc (Below.refl _ _) (.cells #[.int .i64 1] 2))
  replace ri := ri.keep (balloc (Below.refl _ _) (.cells #[.int .i64 1] 2))
  have rx := RI_lit' (W := (w5.alloc (.cells #[.int .i64 1] 2))) (t := 2) (k := .i64) (A := some ⟨w5.heap.size, 0, none⟩) [1] _ rfl (Blk.newAt _ _ (by simp)) rfl
  have hM6 := balloc hB5 (.cells #[.int .i64 1] 2)
  clear hB5
  go_wp2_with fail
  refine (signed_at 2 _ _ [1] [1] 0 nv6 _ rx (by decide) (by omega) (by omega)).mono ?_
  rintro _ w6 ⟨A6, c6, rfl, r6, hb6⟩
  clear rx
  replace ra := ra.keep hb6
  replace rb := rb.keep hb6
  replace rc := rc.keep hb6
  replace rd := rd.keep hb6
  replace ri := ri.keep hb6
  have hB6 := bstep hM6 hb6
  clear hM6 hb6
  have rk := r6
  clear r6
  replace ra := ra.keep (balloc (Below.refl _ _) (.cells #[.int .i64 (-5), .int .i64 (-1), .int .i64 0, .int .i64 5, .int .i64 4] 2))
  replace rb := rb.keep (balloc (Below.refl _ _) (.cells #[.int .i64 (-5), .int .i64 (-1), .int .i64 0, .int .i64 5, .int .i64 4] 2))
  replace rc := rc.keep (balloc (Below.refl _ _) (.cells #[.int .i64 (-5), .int .i64 (-1), .int .i64 0, .int .i64 5, .int .i64 4] 2))
  replace rd := rd.keep (balloc (Below.refl _ _) (.cells #[.int .i64 (-5), .int .i64 (-1), .int .i64 0, .int .i64 5, .int .i64 4] 2))
  replace ri := ri.keep (balloc (Below.refl _ _) (.cells #[.int .i64 (-5), .int .i64 (-1), .int .i64 0, .int .i64 5, .int .i64 4] 2))
  replace rk := rk.keep (balloc (Below.refl _ _) (.cells #[.int .i64 (-5), .int .i64 (-1), .int .i64 0, .int .i64 5, .int .i64 4] 2))
  have rx := RI_lit' (W := (w6.alloc (.cells #[.int .i64 (-5), .int .i64 (-1), .int .i64 0, .int .i64 5, .int .i64 4] 2))) (t := 2) (k := .i64) (A := some ⟨w6.heap.size, 0, none⟩) [-5, -1, 0, 5, 4] _ rfl (Blk.newAt _ _ (by simp)) rfl
  have hM7 := balloc hB6 (.cells #[.int .i64 (-5), .int .i64 (-1), .int .i64 0, .int .i64 5, .int .i64 4] 2)
  clear hB6
  go_wp2_with fail
  refine (reduce_at 5 _ _ [-5, -1, 0, 5, 4] [0, 4, 0, 0, 4] 0 nv7 _ rx (by decide) (by omega) (by omega)).mono ?_
  rintro _ w7 ⟨A7, c7, rfl, r7, hb7⟩
  clear rx
  replace ra := ra.keep hb7
  replace rb := rb.keep hb7
  replace rc := rc.keep hb7
  replace rd := rd.keep hb7
  replace ri := ri.keep hb7
  replace rk := rk.keep hb7
  have hB7 := bstep hM7 hb7
  clear hM7 hb7
  have rm := r7
  clear r7
  go_wp2_with fail
  refine (reduce_at 5 none 0 [] [] 0 nv8 _ RI.nil (by decide) (by omega) (by omega)).mono ?_
  rintro _ w8 ⟨A8, c8, rfl, r8, hb8⟩
  replace ra := ra.keep hb8
  replace rb := rb.keep hb8
  replace rc := rc.keep hb8
  replace rd := rd.keep hb8
  replace ri := ri.keep hb8
  replace rk := rk.keep hb8
  replace rm := rm.keep hb8
  have hB8 := bstep hB7 hb8
  clear hB7 hb8
  have ro := r8
  clear r8
  replace ra := ra.keep (balloc (Below.refl _ _) (.cells #[.int .i64 0, .int .i64 0, .int .i64 3] 2))
  replace rb := rb.keep (balloc (Below.refl _ _) (.cells #[.int .i64 0, .int .i64 0, .int .i64 3] 2))
  replace rc := rc.keep (balloc (Below.refl _ _) (.cells #[.int .i64 0, .int .i64 0, .int .i64 3] 2))
  replace rd := rd.keep (balloc (Below.refl _ _) (.cells #[.int .i64 0, .int .i64 0, .int .i64 3] 2))
  replace ri := ri.keep (balloc (Below.refl _ _) (.cells #[.int .i64 0, .int .i64 0, .int .i64 3] 2))
  replace rk := rk.keep (balloc (Below.refl _ _) (.cells #[.int .i64 0, .int .i64 0, .int .i64 3] 2))
  replace rm := rm.keep (balloc (Below.refl _ _) (.cells #[.int .i64 0, .int .i64 0, .int .i64 3] 2))
  replace ro := ro.keep (balloc (Below.refl _ _) (.cells #[.int .i64 0, .int .i64 0, .int .i64 3] 2))
  have rz := RI_lit' (W := (w8.alloc (.cells #[.int .i64 0, .int .i64 0, .int .i64 3] 2))) (t := 2) (k := .i64) (A := some ⟨w8.heap.size, 0, none⟩) [0, 0, 3] _ rfl (Blk.newAt _ _ (by simp)) rfl
  have hM8 := balloc hB8 (.cells #[.int .i64 0, .int .i64 0, .int .i64 3] 2)
  clear hB8
  go_wp2_with fail
  refine (is11_yes _ _ _ _ [0, 0, 3] _ ra rz (by decide)).mono ?_
  rintro _ w9 ⟨rfl, hb9⟩
  clear rz
  clear ra
  replace rb := rb.keep hb9
  replace rc := rc.keep hb9
  replace rd := rd.keep hb9
  replace ri := ri.keep hb9
  replace rk := rk.keep hb9
  replace rm := rm.keep hb9
  replace ro := ro.keep hb9
  have hB9 := bstep hM8 hb9
  clear hM8 hb9
  replace rb := rb.keep (balloc (Below.refl _ _) (.cells #[.int .i64 1] 2))
  replace rc := rc.keep (balloc (Below.refl _ _) (.cells #[.int .i64 1] 2))
  replace rd := rd.keep (balloc (Below.refl _ _) (.cells #[.int .i64 1] 2))
  replace ri := ri.keep (balloc (Below.refl _ _) (.cells #[.int .i64 1] 2))
  replace rk := rk.keep (balloc (Below.refl _ _) (.cells #[.int .i64 1] 2))
  replace rm := rm.keep (balloc (Below.refl _ _) (.cells #[.int .i64 1] 2))
  replace ro := ro.keep (balloc (Below.refl _ _) (.cells #[.int .i64 1] 2))
  have rz := RI_lit' (W := (w9.alloc (.cells #[.int .i64 1] 2))) (t := 2) (k := .i64) (A := some ⟨w9.heap.size, 0, none⟩) [1] _ rfl (Blk.newAt _ _ (by simp)) rfl
  have hM9 := balloc hB9 (.cells #[.int .i64 1] 2)
  clear hB9
  go_wp2_with fail
  refine (is11_yes _ _ _ _ [1] _ rb rz (by decide)).mono ?_
  rintro _ w10 ⟨rfl, hb10⟩
  clear rz
  clear rb
  replace rc := rc.keep hb10
  replace rd := rd.keep hb10
  replace ri := ri.keep hb10
  replace rk := rk.keep hb10
  replace rm := rm.keep hb10
  replace ro := ro.keep hb10
  have hB10 := bstep hM9 hb10
  clear hM9 hb10
  replace rc := rc.keep (balloc (Below.refl _ _) (.cells #[.int .i64 0, .int .i64 2] 2))
  replace rd := rd.keep (balloc (Below.refl _ _) (.cells #[.int .i64 0, .int .i64 2] 2))
  replace ri := ri.keep (balloc (Below.refl _ _) (.cells #[.int .i64 0, .int .i64 2] 2))
  replace rk := rk.keep (balloc (Below.refl _ _) (.cells #[.int .i64 0, .int .i64 2] 2))
  replace rm := rm.keep (balloc (Below.refl _ _) (.cells #[.int .i64 0, .int .i64 2] 2))
  replace ro := ro.keep (balloc (Below.refl _ _) (.cells #[.int .i64 0, .int .i64 2] 2))
  have rz := RI_lit' (W := (w10.alloc (.cells #[.int .i64 0, .int .i64 2] 2))) (t := 2) (k := .i64) (A := some ⟨w10.heap.size, 0, none⟩) [0, 2] _ rfl (Blk.newAt _ _ (by simp)) rfl
  have hM10 := balloc hB10 (.cells #[.int .i64 0, .int .i64 2] 2)
  clear hB10
  go_wp2_with fail
  refine (is11_yes _ _ _ _ [0, 2] _ rc rz (by decide)).mono ?_
  rintro _ w11 ⟨rfl, hb11⟩
  clear rz
  clear rc
  replace rd := rd.keep hb11
  replace ri := ri.keep hb11
  replace rk := rk.keep hb11
  replace rm := rm.keep hb11
  replace ro := ro.keep hb11
  have hB11 := bstep hM10 hb11
  clear hM10 hb11
  replace rd := rd.keep (balloc (Below.refl _ _) (.cells #[.int .i64 1, .int .i64 3, .int .i64 4, .int .i64 2] 2))
  replace ri := ri.keep (balloc (Below.refl _ _) (.cells #[.int .i64 1, .int .i64 3, .int .i64 4, .int .i64 2] 2))
  replace rk := rk.keep (balloc (Below.refl _ _) (.cells #[.int .i64 1, .int .i64 3, .int .i64 4, .int .i64 2] 2))
  replace rm := rm.keep (balloc (Below.refl _ _) (.cells #[.int .i64 1, .int .i64 3, .int .i64 4, .int .i64 2] 2))
  replace ro := ro.keep (balloc (Below.refl _ _) (.cells #[.int .i64 1, .int .i64 3, .int .i64 4, .int .i64 2] 2))
  have rz := RI_lit' (W := (w11.alloc (.cells #[.int .i64 1, .int .i64 3, .int .i64 4, .int .i64 2] 2))) (t := 2) (k := .i64) (A := some ⟨w11.heap.size, 0, none⟩) [1, 3, 4, 2] _ rfl (Blk.newAt _ _ (by simp)) rfl
  have hM11 := balloc hB11 (.cells #[.int .i64 1, .int .i64 3, .int .i64 4, .int .i64 2] 2)
  clear hB11
  go_wp2_with fail
  refine (is11_yes _ _ _ _ [1, 3, 4, 2] _ rd rz (by decide)).mono ?_
  rintro _ w12 ⟨rfl, hb12⟩
  clear rz
  clear rd
  replace ri := ri.keep hb12
  replace rk := rk.keep hb12
  replace rm := rm.keep hb12
  replace ro := ro.keep hb12
  have hB12 := bstep hM11 hb12
  clear hM11 hb12
  replace ri := ri.keep (balloc (Below.refl _ _) (.cells #[.int .i64 1, .int .i64 2, .int .i64 3, .int .i64 4] 2))
  replace rk := rk.keep (balloc (Below.refl _ _) (.cells #[.int .i64 1, .int .i64 2, .int .i64 3, .int .i64 4] 2))
  replace rm := rm.keep (balloc (Below.refl _ _) (.cells #[.int .i64 1, .int .i64 2, .int .i64 3, .int .i64 4] 2))
  replace ro := ro.keep (balloc (Below.refl _ _) (.cells #[.int .i64 1, .int .i64 2, .int .i64 3, .int .i64 4] 2))
  have rz := RI_lit' (W := (w12.alloc (.cells #[.int .i64 1, .int .i64 2, .int .i64 3, .int .i64 4] 2))) (t := 2) (k := .i64) (A := some ⟨w12.heap.size, 0, none⟩) [1, 2, 3, 4] _ rfl (Blk.newAt _ _ (by simp)) rfl
  have hM12 := balloc hB12 (.cells #[.int .i64 1, .int .i64 2, .int .i64 3, .int .i64 4] 2)
  clear hB12
  go_wp2_with fail
  refine (is11_yes _ _ _ _ [1, 2, 3, 4] _ ri rz (by decide)).mono ?_
  rintro _ w13 ⟨rfl, hb13⟩
  clear rz
  clear ri
  replace rk := rk.keep hb13
  replace rm := rm.keep hb13
  replace ro := ro.keep hb13
  have hB13 := bstep hM12 hb13
  clear hM12 hb13
  replace rk := rk.keep (balloc (Below.refl _ _) (.cells #[.int .i64 1] 2))
  replace rm := rm.keep (balloc (Below.refl _ _) (.cells #[.int .i64 1] 2))
  replace ro := ro.keep (balloc (Below.refl _ _) (.cells #[.int .i64 1] 2))
  have rz := RI_lit' (W := (w13.alloc (.cells #[.int .i64 1] 2))) (t := 2) (k := .i64) (A := some ⟨w13.heap.size, 0, none⟩) [1] _ rfl (Blk.newAt _ _ (by simp)) rfl
  have hM13 := balloc hB13 (.cells #[.int .i64 1] 2)
  clear hB13
  go_wp2_with fail
  refine (is11_yes _ _ _ _ [1] _ rk rz (by decide)).mono ?_
  rintro _ w14 ⟨rfl, hb14⟩
  clear rz
  clear rk
  replace rm := rm.keep hb14
  replace ro := ro.keep hb14
  have hB14 := bstep hM13 hb14
  clear hM13 hb14
  replace rm := rm.keep (balloc (Below.refl _ _) (.cells #[.int .i64 0, .int .i64 4, .int .i64 0, .int .i64 0, .int .i64 4] 2))
  replace ro := ro.keep (balloc (Below.refl _ _) (.cells #[.int .i64 0, .int .i64 4, .int .i64 0, .int .i64 0, .int .i64 4] 2))
  have rz := RI_lit' (W := (w14.alloc (.cells #[.int .i64 0, .int .i64 4, .int .i64 0, .int .i64 0, .int .i64 4] 2))) (t := 2) (k := .i64) (A := some ⟨w14.heap.size, 0, none⟩) [0, 4, 0, 0, 4] _ rfl (Blk.newAt _ _ (by simp)) rfl
  have hM14 := balloc hB14 (.cells #[.int .i64 0, .int .i64 4, .int .i64 0, .int .i64 0, .int .i64 4] 2)
  clear hB14
  go_wp2_with fail
  refine (is11_yes _ _ _ _ [0, 4, 0, 0, 4] _ rm rz (by decide)).mono ?_
  rintro _ w15 ⟨rfl, hb15⟩
  clear rz
  clear rm
  replace ro := ro.keep hb15
  have hB15 := bstep hM14 hb15
  clear hM14 hb15
  go_wp2_with fail
  refine (is11_yes _ none _ 0 [] _ ro RI.nil (by decide)).mono ?_
  rintro _ w16 ⟨rfl, hb16⟩
  clear ro
  have hB16 := bstep hB15 hb16
  clear hB15 hb16
  go_wp2_with fail
  refine (fwd_at 6 none 0 [] [] 2 nv10 _ RI.nil (by decide) (by omega) (by omega)).mono ?_
  rintro _ w17 ⟨A17, c17, rfl, r17, hb17⟩
  have hB17 := bstep hB16 hb17
  clear hB16 hb17
  clear r17
  go_wp2_with fail
  refine (fwd_at 5 none 0 [] [] 4 nv12 _ RI.nil (by decide) (by omega) (by omega)).mono ?_
  rintro _ w18 ⟨A18, c18, rfl, r18, hb18⟩
  have hB18 := bstep hB17 hb18
  clear hB17 hb18
  clear r18
  have rx := RI_lit' (W := (w18.alloc (.cells #[.int .i64 1, .int .i64 2, .int .i64 3] 2))) (t := 2) (k := .i64) (A := some ⟨w18.heap.size, 0, none⟩) [1, 2, 3] _ rfl (Blk.newAt _ _ (by simp)) rfl
  have hM15 := balloc hB18 (.cells #[.int .i64 1, .int .i64 2, .int .i64 3] 2)
  clear hB18
  go_wp2_with fail
  refine (fwd_at 5 _ _ [1, 2, 3] [] 6 nv14 _ rx (by decide) (by omega) (by omega)).mono ?_
  rintro _ w19 ⟨A19, c19, rfl, r19, hb19⟩
  clear rx
  have hB19 := bstep hM15 hb19
  clear hM15 hb19
  clear r19
  have rx := RI_lit' (W := (w19.alloc (.cells #[.int .i64 1, .int .i64 5] 2))) (t := 2) (k := .i64) (A := some ⟨w19.heap.size, 0, none⟩) [1, 5] _ rfl (Blk.newAt _ _ (by simp)) rfl
  have hM16 := balloc hB19 (.cells #[.int .i64 1, .int .i64 5] 2)
  clear hB19
  go_wp2_with fail
  refine (fwd_at 5 _ _ [1, 5] [] 8 nv16 _ rx (by decide) (by omega) (by omega)).mono ?_
  rintro _ w20 ⟨A20, c20, rfl, r20, hb20⟩
  clear rx
  have hB20 := bstep hM16 hb20
  clear hM16 hb20
  clear r20
  have rx := RI_lit' (W := (w20.alloc (.cells #[.int .i64 (-1), .int .i64 0] 2))) (t := 2) (k := .i64) (A := some ⟨w20.heap.size, 0, none⟩) [-1, 0] _ rfl (Blk.newAt _ _ (by simp)) rfl
  have hM17 := balloc hB20 (.cells #[.int .i64 (-1), .int .i64 0] 2)
  clear hB20
  go_wp2_with fail
  refine (back_at 5 _ _ [-1, 0] [] 8 nv18 _ rx (by decide) (by omega) (by omega)).mono ?_
  rintro _ w21 ⟨A21, c21, rfl, r21, hb21⟩
  clear rx
  have hB21 := bstep hM17 hb21
  clear hM17 hb21
  clear r21
  have rx : RI .i64 (w21.alloc (.cells Z65 2)) (some ⟨w21.heap.size, 0, none⟩) (List.replicate 65 (0 : Int)) := blk_RI (e := 2) (by rw [← HZ65.out]; exact Blk.newAt _ _ (by simp))
  have hM18 := balloc hB21 (.cells Z65 2)
  clear hB21
  go_wp2_with fail
  refine (fwd_atn 257 _ _ (List.replicate 65 0) 65 (by decide) [] 4 nv20 _ rx (by omega) (by omega) (by omega)).mono ?_
  rintro _ w22 ⟨A22, c22, rfl, r22, hb22⟩
  clear rx
  have hB22 := bstep hM18 hb22
  clear hM18 hb22
  clear r22
  have rx : RI .i64 (w22.alloc (.cells Z64 2)) (some ⟨w22.heap.size, 0, none⟩) (List.replicate 64 (0 : Int)) := blk_RI (e := 2) (by rw [← HZ64.out]; exact Blk.newAt _ _ (by simp))
  have hM19 := balloc hB22 (.cells Z64 2)
  clear hB22
  go_wp2_with fail
  refine (fwd_atn 257 _ _ (List.replicate 64 0) 64 (by decide) _ 0 nv21 _ rx (by omega) (by omega) (by omega)).mono ?_
  rintro _ w23 ⟨A23, c23, rfl, r23, hb23⟩
  clear rx
  have hB23 := bstep hM19 hb23
  clear hM19 hb23
  clear r23
  have rx := RI_lit' (W := (w23.alloc (.cells #[.int .i64 1, .int .i64 1] 2))) (t := 2) (k := .i64) (A := some ⟨w23.heap.size, 0, none⟩) [1, 1] _ rfl (Blk.newAt _ _ (by simp)) rfl
  have hM20 := balloc hB23 (.cells #[.int .i64 1, .int .i64 1] 2)
  clear hB23
  replace rx := rx.keep (balloc (Below.refl _ _) (.cells #[.int .i64 1, .int .i64 1, .int .i64 1, .int .i64 1] 2))
  have ry := RI_lit' (W := ((w23.alloc (.cells #[.int .i64 1, .int .i64 1] 2)).alloc (.cells #[.int .i64 1, .int .i64 1, .int .i64 1, .int .i64 1] 2))) (t := 2) (k := .i64) (A := some ⟨w23.heap.size + 1, 0, none⟩) [1, 1, 1, 1] _ rfl (Blk.newAt _ _ (by simp)) rfl
  have hM21 := balloc hM20 (.cells #[.int .i64 1, .int .i64 1, .int .i64 1, .int .i64 1] 2)
  clear hM20
  go_wp2_with fail
  refine (conv_at 5 _ _ _ _ [1, 1] [1, 1, 1, 1] [] 2 nv22 _ rx ry (by decide) (by decide) (by omega) (by omega)).mono ?_
  rintro _ w24 ⟨A24, c24, rfl, r24, hb24⟩
  clear rx
  clear ry
  have hB24 := bstep hM21 hb24
  clear hM21 hb24
  clear r24
  have rx := RI_lit' (W := (w24.alloc (.cells #[.int .i64 1, .int .i64 1] 2))) (t := 2) (k := .i64) (A := some ⟨w24.heap.size, 0, none⟩) [1, 1] _ rfl (Blk.newAt _ _ (by simp)) rfl
  have hM22 := balloc hB24 (.cells #[.int .i64 1, .int .i64 1] 2)
  clear hB24
  go_wp2_with fail
  refine (conv_at 5 _ none _ 0 [1, 1] [] [] 4 nv24 _ rx RI.nil (by decide) (by decide) (by omega) (by omega)).mono ?_
  rintro _ w25 ⟨A25, c25, rfl, r25, hb25⟩
  clear rx
  have hB25 := bstep hM22 hb25
  clear hM22 hb25
  clear r25
  have rx := RI_lit' (W := (w25.alloc (.cells #[.int .i64 6] 2))) (t := 2) (k := .i64) (A := some ⟨w25.heap.size, 0, none⟩) [6] _ rfl (Blk.newAt _ _ (by simp)) rfl
  have hM23 := balloc hB25 (.cells #[.int .i64 6] 2)
  clear hB25
  go_wp2_with fail
  refine (reduce_at 5 _ _ [6] [] 8 nv25 _ rx (by decide) (by omega) (by omega)).mono ?_
  rintro _ w26 ⟨A26, c26, rfl, r26, hb26⟩
  clear rx
  have hB26 := bstep hM23 hb26
  clear hM23 hb26
  clear r26
  have rx : RI .i64 (w26.alloc (.cells Z1001 2)) (some ⟨w26.heap.size, 0, none⟩) (List.replicate 1001 (0 : Int)) := blk_RI (e := 2) (by rw [← HZ1001.out]; exact Blk.newAt _ _ (by simp))
  have hM24 := balloc hB26 (.cells Z1001 2)
  clear hB26
  go_wp2_with fail
  refine (reduce_atn 5 _ _ (List.replicate 1001 0) 1001 List.length_replicate [] 4 nv26 _ rx (by omega) (by omega) (by omega)).mono ?_
  rintro _ w27 ⟨A27, c27, rfl, r27, hb27⟩
  clear rx
  have hB27 := bstep hM24 hb27
  clear hM24 hb27
  clear r27
  have rx : RI .i64 (w27.alloc (.cells Z1001 2)) (some ⟨w27.heap.size, 0, none⟩) (List.replicate 1001 (0 : Int)) := blk_RI (e := 2) (by rw [← HZ1001.out]; exact Blk.newAt _ _ (by simp))
  have hM25 := balloc hB27 (.cells Z1001 2)
  clear hB27
  go_wp2_with fail
  refine (reduce_atn 4 _ _ (List.replicate 1001 0) 1001 List.length_replicate [] 2 nv27 _ rx (by omega) (by omega) (by omega)).mono ?_
  rintro _ w28 ⟨A28, c28, rfl, r28, hb28⟩
  clear rx
  have hB28 := bstep hM25 hb28
  clear hM25 hb28
  clear r28
  have rx := RI_lit' (W := (w28.alloc (.cells #[.int .i64 1, .int .i64 1, .int .i64 1] 2))) (t := 2) (k := .i64) (A := some ⟨w28.heap.size, 0, none⟩) [1, 1, 1] _ rfl (Blk.newAt _ _ (by simp)) rfl
  have hM26 := balloc hB28 (.cells #[.int .i64 1, .int .i64 1, .int .i64 1] 2)
  clear hB28
  go_wp2_with fail
  refine (turn_at 5 _ _ [1, 1, 1] 1 [] 6 nv29 _ rx (by decide) (by omega) (by omega) (by omega)).mono ?_
  rintro _ w29 ⟨A29, c29, rfl, r29, hb29⟩
  clear rx
  have hB29 := bstep hM26 hb29
  clear hM26 hb29
  clear r29
  have rx := RI_lit' (W := (w29.alloc (.cells #[.int .i64 9, .int .i64 1] 2))) (t := 2) (k := .i64) (A := some ⟨w29.heap.size, 0, none⟩) [9, 1] _ rfl (Blk.newAt _ _ (by simp)) rfl
  have hM27 := balloc hB29 (.cells #[.int .i64 9, .int .i64 1] 2)
  clear hB29
  go_wp2_with fail
  refine (phase_at 5 _ _ [9, 1] 1 [] 8 nv31 _ rx (by decide) (by omega) (by omega) (by omega)).mono ?_
  rintro _ w30 ⟨A30, c30, rfl, r30, hb30⟩
  clear rx
  have hB30 := bstep hM27 hb30
  clear hM27 hb30
  clear r30
  go_wp2_with fail
  refine (signed_at 1 none 0 [] [] 2 nv33 _ RI.nil (by decide) (by omega) (by omega)).mono ?_
  rintro _ w31 ⟨A31, c31, rfl, r31, hb31⟩
  have hB31 := bstep hB30 hb31
  clear hB30 hb31
  clear r31
  go_wp2_with fail
  refine (alive11_any _).mono ?_
  rintro _ w32 ⟨rfl, hb32⟩
  go_wp2
  go_ret
  exact ⟨by simp, bstep hB31 hb32⟩
end Nm
theorem fourierNames_walk (w : World) : Calls Try.prog 9 #[] w fun e w' => e = .returned (.bool true) ∧ Below w.heap.size w w' := Nm.fourierNames_walk w
end Go.Proofs.Ytdcacklochaljaa
