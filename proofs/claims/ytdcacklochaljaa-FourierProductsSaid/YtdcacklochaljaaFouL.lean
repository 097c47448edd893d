/-
  The chapter's examples (alive). Printed in part by gen_fou.py.
-/
import Derived.Test.YtdcacklochaljaaFouI
namespace Go.Proofs.Ytdcacklochaljaa
open Go.RowKit Num
set_option linter.unusedVariables false

theorem pr_tr {p F : Nat} (h2 : 2 ≤ p) (ht : tr p F = true) (hF : p < (F + 2) * (F + 2)) : Pr p :=
  pr_trial h2 (fun d hd hdd => tr_at ht hd (by
    apply Classical.byContradiction
    intro hc
    have := Nat.mul_le_mul (show F + 2 ≤ d by omega) (show F + 2 ≤ d by omega)
    omega))
theorem fit_of {P : Nat} {l : List Int} (h : Pr P) (h2 : P ≤ 2000000000) (h3 : 1 ≤ l.length) (h4 : l.length ≤ 64) (h5 : (P - 1) % l.length = 0) (h6 : l.all (fun x => decide (0 ≤ x ∧ x < P)) = true) : Fit P l := by
  refine ⟨h, h2, h3, h4, h5, ?_⟩
  intro j hj
  rw [List.all_eq_true] at h6
  have := h6 _ (List.getElem_mem hj)
  rw [getD_lt _ _ hj]
  simpa using this
theorem fwd_val {P : Nat} {l : List Int} (h : Fit P l) {R : Nat} (hR : rootN P l.length = R) {r : List Int} (hr : fullL (trF P l (pwF P R)) l.length = r) : fwdS (P : Int) l = (r, 0) := by
  unfold fwdS; rw [if_pos (chkL_ok h)]
  show (fwdL P l, (0 : Int)) = _
  unfold fwdL; rw [hR, hr]
theorem bk_val {P : Nat} {l : List Int} (h : Fit P l) {R : Nat} (hR : rootN P l.length = R) {r : List Int} (hr : fullL (fun k => trF P l (pwF P (invN P R)) k * ((invN P l.length : Nat) : Int) % (P : Int)) l.length = r) : bkS (P : Int) l = (r, 0) := by
  unfold bkS; rw [if_pos (chkL_ok h)]
  show (bkL P l, (0 : Int)) = _
  unfold bkL bkF; rw [hR, hr]
theorem cv_val {P : Nat} {a b : List Int} (h : Fit P a) (h' : Fit P b) (hl : a.length = b.length) {r : List Int} (hr : cvL P a b = r) : cvS (P : Int) a b = (r, 0) := by
  unfold cvS; rw [if_pos (chkL_ok h), if_pos (chkL_ok h'), if_pos hl]
  show (cvL P a b, (0 : Int)) = _
  rw [hr]
theorem tu_val {P : Nat} {l : List Int} (h : Fit P l) {d : Int} {r : List Int} (hr : fullL (tuF l (rotD d l.length)) l.length = r) : tuS (P : Int) l d = (r, 0) := by
  unfold tuS; rw [if_pos (chkL_ok h), hr]
theorem ph_val {P : Nat} {l : List Int} (h : Fit P l) {R : Nat} (hR : rootN P l.length = R) {d : Int} {r : List Int} (hr : fullL (fun k => l.getD k 0 * pwF P R (rotD d l.length * k % l.length) % (P : Int)) l.length = r) : phS (P : Int) l d = (r, 0) := by
  unfold phS; rw [if_pos (chkL_ok h)]
  show (fullL (phF P l (rotD d l.length)) l.length, (0 : Int)) = _
  unfold phF; rw [hR, hr]
theorem sg_val {P : Nat} {l : List Int} (h : Fit P l) {r : List Int} (hr : fullL (sgF P l) l.length = r) : sgS (P : Int) l = (r, 0) := by
  unfold sgS; rw [if_pos (chkL_ok h)]
  show (fullL (sgF P l) l.length, (0 : Int)) = _
  rw [hr]
theorem rd_val {P : Nat} {l : List Int} (h : Pr P) (h2 : P ≤ 2000000000) (h3 : ¬ 1000 < l.length) (h4 : l.any (fun x => decide (x < -(P : Int) ∨ (P : Int) < x)) = false) {r : List Int} (hr : fullL (rdF P l) l.length = r) : rdS (P : Int) l = (r, 0) := by
  unfold rdS; rw [if_pos (okP_iff.2 ⟨P, rfl, h.1, h2, h⟩), if_neg h3, h4]
  show (fullL (rdF P l) l.length, (0 : Int)) = _
  rw [hr]

def AtP (f : FuncId) (args : Array Value) (w : World) (r : List Int) (x : Int) : Prop :=
  Calls Try.prog f args w fun e w' => ∃ A c, e = .returned (.tuple #[.slice A r.length c, .int .i64 x]) ∧ RI .i64 w' A r ∧ Below w.heap.size w w'
theorem fwd_at (p : Int) (A : Option Addr) (c : Nat) (l r : List Int) (x : Int) (h : fwdS p l = (r, x)) (w : World) (hx : RI .i64 w A l) (hl : l.length ≤ 9223372036854775807) (hp1 : -9223372036854775808 ≤ p) (hp2 : p ≤ 9223372036854775807) :
    Calls Try.prog 20 #[.int .i64 p, .slice A l.length c] w fun e w' => ∃ A c, e = .returned (.tuple #[.slice A r.length c, .int .i64 x]) ∧ RI .i64 w' A r ∧ Below w.heap.size w w' := by
  have := fwd_any p A c l w hx hl hp1 hp2; rw [h] at this; exact this
theorem back_at (p : Int) (A : Option Addr) (c : Nat) (l r : List Int) (x : Int) (h : bkS p l = (r, x)) (w : World) (hx : RI .i64 w A l) (hl : l.length ≤ 9223372036854775807) (hp1 : -9223372036854775808 ≤ p) (hp2 : p ≤ 9223372036854775807) :
    Calls Try.prog 22 #[.int .i64 p, .slice A l.length c] w fun e w' => ∃ A c, e = .returned (.tuple #[.slice A r.length c, .int .i64 x]) ∧ RI .i64 w' A r ∧ Below w.heap.size w w' := by
  have := back_any p A c l w hx hl hp1 hp2; rw [h] at this; exact this
theorem conv_at (p : Int) (A B : Option Addr) (c d : Nat) (a b r : List Int) (x : Int) (h : cvS p a b = (r, x)) (w : World) (hx : RI .i64 w A a) (hy : RI .i64 w B b) (hl : a.length ≤ 9223372036854775807) (hl2 : b.length ≤ 9223372036854775807) (hp1 : -9223372036854775808 ≤ p) (hp2 : p ≤ 9223372036854775807) :
    Calls Try.prog 24 #[.int .i64 p, .slice A a.length c, .slice B b.length d] w fun e w' => ∃ A c, e = .returned (.tuple #[.slice A r.length c, .int .i64 x]) ∧ RI .i64 w' A r ∧ Below w.heap.size w w' := by
  have := conv_any p A B c d a b w hx hy hl hl2 hp1 hp2; rw [h] at this; exact this
theorem turn_at (p : Int) (A : Option Addr) (c : Nat) (l : List Int) (d : Int) (r : List Int) (x : Int) (h : tuS p l d = (r, x)) (w : World) (hx : RI .i64 w A l) (hl : l.length ≤ 9223372036854775807) (hp1 : -9223372036854775808 ≤ p) (hp2 : p ≤ 9223372036854775807) (hd : -9223372036854775808 ≤ d ∧ d ≤ 9223372036854775807) :
    Calls Try.prog 11 #[.int .i64 p, .slice A l.length c, .int .i64 d] w fun e w' => ∃ A c, e = .returned (.tuple #[.slice A r.length c, .int .i64 x]) ∧ RI .i64 w' A r ∧ Below w.heap.size w w' := by
  have := turn_any p A c l d w hx hl hp1 hp2 hd; rw [h] at this
  exact this.mono fun _ _ ⟨A, c, h1, h2, h3, _⟩ => ⟨A, c, h1, h2, h3⟩
theorem phase_at (p : Int) (A : Option Addr) (c : Nat) (l : List Int) (d : Int) (r : List Int) (x : Int) (h : phS p l d = (r, x)) (w : World) (hx : RI .i64 w A l) (hl : l.length ≤ 9223372036854775807) (hp1 : -9223372036854775808 ≤ p) (hp2 : p ≤ 9223372036854775807) (hd : -9223372036854775808 ≤ d ∧ d ≤ 9223372036854775807) :
    Calls Try.prog 13 #[.int .i64 p, .slice A l.length c, .int .i64 d] w fun e w' => ∃ A c, e = .returned (.tuple #[.slice A r.length c, .int .i64 x]) ∧ RI .i64 w' A r ∧ Below w.heap.size w w' := by
  have := phase_any p A c l d w hx hl hp1 hp2 hd; rw [h] at this; exact this
theorem signed_at (p : Int) (A : Option Addr) (c : Nat) (l r : List Int) (x : Int) (h : sgS p l = (r, x)) (w : World) (hx : RI .i64 w A l) (hl : l.length ≤ 9223372036854775807) (hp1 : -9223372036854775808 ≤ p) (hp2 : p ≤ 9223372036854775807) :
    Calls Try.prog 15 #[.int .i64 p, .slice A l.length c] w fun e w' => ∃ A c, e = .returned (.tuple #[.slice A r.length c, .int .i64 x]) ∧ RI .i64 w' A r ∧ Below w.heap.size w w' := by
  have := signed_any p A c l w hx hl hp1 hp2; rw [h] at this; exact this
theorem reduce_at (p : Int) (A : Option Addr) (c : Nat) (l r : List Int) (x : Int) (h : rdS p l = (r, x)) (w : World) (hx : RI .i64 w A l) (hl : l.length ≤ 9223372036854775807) (hp1 : -9223372036854775808 ≤ p) (hp2 : p ≤ 9223372036854775807) :
    Calls Try.prog 17 #[.int .i64 p, .slice A l.length c] w fun e w' => ∃ A c, e = .returned (.tuple #[.slice A r.length c, .int .i64 x]) ∧ RI .i64 w' A r ∧ Below w.heap.size w w' := by
  have := reduce_any p A c l w hx hl hp1 hp2; rw [h] at this; exact this
theorem is11_yes (A B : Option Addr) (c d : Nat) (l : List Int) (w : World) (hx : RI .i64 w A l) (hy : RI .i64 w B l) (hl : l.length ≤ 140737488355328) :
    Calls Try.prog 30 #[.slice A l.length c, .int .i64 0, .slice B l.length d] w fun e w' => e = .returned (.bool true) ∧ Below w.heap.size w w' := by
  go_enter Try.func30, Try.ntmps30
  go_wp2_with fail
  refine (same10_any _ _ _ _ _ _ _ hx hy hl hl).mono ?_
  rintro _ w9 ⟨rfl, q9, rfl⟩
  go_wp2
  go_ret
  exact ⟨ret_bool (by simp), below_drewN (Below.refl _ _) _⟩

theorem pr_2 : Pr 2 := pr_tr (F := 0) (by omega) (by decide) (by omega)
theorem pr_5 : Pr 5 := pr_tr (F := 1) (by omega) (by decide) (by omega)
theorem facs_4 : facs 4 = [2, 2] := facs_eq ⟨by decide, by intro x hx; simp only [List.mem_cons, List.not_mem_nil, or_false] at hx; rcases hx with rfl | rfl <;> first  | exact pr_2, by decide⟩
theorem gn_5 : genN 5 = 2 := gen_at pr_5 (by omega) (by omega) (by unfold Gen; rw [facs_4]; decide) (by intro m h1 h2; unfold Gen; rw [facs_4]; rw [show m = 1 by omega]; decide)
theorem nv1 : fwdS 5 [1, 2, 3, 4] = ([0, 4, 3, 2], 0) := fwd_val (P := 5) (fit_of (P := 5) (l := [1, 2, 3, 4]) pr_5 (by omega) (by decide) (by decide) (by decide) (by decide)) (R := 2) (show rootN 5 4 = 2 by unfold rootN; rw [gn_5]) (by decide)
theorem nv2 : bkS 5 [0, 4, 3, 2] = ([1, 2, 3, 4], 0) := bk_val (P := 5) (fit_of (P := 5) (l := [0, 4, 3, 2]) pr_5 (by omega) (by decide) (by decide) (by decide) (by decide)) (R := 2) (show rootN 5 4 = 2 by unfold rootN; rw [gn_5]) (by decide)
theorem nv3 : cvS 5 [1, 1, 0, 0] [1, 1, 0, 0] = ([1, 2, 1, 0], 0) := cv_val (P := 5) (fit_of (P := 5) (l := [1, 1, 0, 0]) pr_5 (by omega) (by decide) (by decide) (by decide) (by decide)) (fit_of (P := 5) (l := [1, 1, 0, 0]) pr_5 (by omega) (by decide) (by decide) (by decide) (by decide)) (by decide) (by decide)
theorem nv4 : tuS 5 [1, 2, 3, 4] 1 = ([4, 1, 2, 3], 0) := tu_val (P := 5) (fit_of (P := 5) (l := [1, 2, 3, 4]) pr_5 (by omega) (by decide) (by decide) (by decide) (by decide)) (by decide)
theorem nv5 : sgS 5 [0, 2, 3, 4] = ([0, 2, -2, -1], 0) := sg_val (P := 5) (fit_of (P := 5) (l := [0, 2, 3, 4]) pr_5 (by omega) (by decide) (by decide) (by decide) (by decide)) (by decide)
set_option maxRecDepth 20000 in
set_option maxHeartbeats 600000 in
theorem alive11_any (w : World) : Calls Try.prog 29 #[] w fun e w' => e = .returned (.bool true) ∧ Below w.heap.size w w' := by
  have hB0 := Below.refl w.heap.size w
  go_enter Try.func29, Try.ntmps29
  have rL := RI_lit' (W := (w.alloc (.cells #[.int .i64 1, .int .i64 2, .int .i64 3, .int .i64 4] 2))) (t := 2) (k := .i64) (A := some ⟨w.heap.size, 0, none⟩) [1, 2, 3, 4] _ rfl (Blk.newAt _ _ (by simp)) rfl
  have hM1 := balloc hB0 (.cells #[.int .i64 1, .int .i64 2, .int .i64 3, .int .i64 4] 2)
  clear hB0
  go_wp2_with fail
  refine (fwd_at 5 _ _ [1, 2, 3, 4] [0, 4, 3, 2] 0 nv1 _ rL (by decide) (by omega) (by omega)).mono ?_
  rintro _ w1 ⟨A1, c1, rfl, r1, hb1⟩
  replace rL := rL.keep hb1
  have hB1 := bstep hM1 hb1
  clear hM1 hb1
  have ra := r1
  clear r1
  go_wp2_with fail
  refine (back_at 5 _ _ [0, 4, 3, 2] [1, 2, 3, 4] 0 nv2 _ ra (by decide) (by omega) (by omega)).mono ?_
  rintro _ w2 ⟨A2, c2, rfl, r2, hb2⟩
  replace rL := rL.keep hb2
  replace ra := ra.keep hb2
  have hB2 := bstep hB1 hb2
  clear hB1 hb2
  have rb := r2
  clear r2
  replace rL := rL.keep (balloc (Below.refl _ _) (.cells #[.int .i64 1, .int .i64 1, .int .i64 0, .int .i64 0] 2))
  replace ra := ra.keep (balloc (Below.refl _ _) (.cells #[.int .i64 1, .int .i64 1, .int .i64 0, .int .i64 0] 2))
  replace rb := rb.keep (balloc (Below.refl _ _) (.cells #[.int .i64 1, .int .i64 1, .int .i64 0, .int .i64 0] 2))
  have rx := RI_lit' (W := (w2.alloc (.cells #[.int .i64 1, .int .i64 1, .int .i64 0, .int .i64 0] 2))) (t := 2) (k := .i64) (A := some ⟨w2.heap.size, 0, none⟩) [1, 1, 0, 0] _ rfl (Blk.newAt _ _ (by simp)) rfl
  have hM2 := balloc hB2 (.cells #[.int .i64 1, .int .i64 1, .int .i64 0, .int .i64 0] 2)
  clear hB2
  replace rL := rL.keep (balloc (Below.refl _ _) (.cells #[.int .i64 1, .int .i64 1, .int .i64 0, .int .i64 0] 2))
  replace ra := ra.keep (balloc (Below.refl _ _) (.cells #[.int .i64 1, .int .i64 1, .int .i64 0, .int .i64 0] 2))
  replace rb := rb.keep (balloc (Below.refl _ _) (.cells #[.int .i64 1, .int .i64 1, .int .i64 0, .int .i64 0] 2))
  replace rx := rx.keep (balloc (Below.refl _ _) (.cells #[.int .i64 1, .int .i64 1, .int .i64 0, .int .i64 0] 2))
  have ry := RI_lit' (W := ((w2.alloc (.cells #[.int .i64 1, .int .i64 1, .int .i64 0, .int .i64 0] 2)).alloc (.cells #[.int .i64 1, .int .i64 1, .int .i64 0, .int .i64 0] 2))) (t := 2) (k := .i64) (A := some ⟨w2.heap.size + 1, 0, none⟩) [1, 1, 0, 0] _ rfl (Blk.newAt _ _ (by simp)) rfl
  have hM3 := balloc hM2 (.cells #[.int .i64 1, .int .i64 1, .int .i64 0, .int .i64 0] 2)
  clear hM2
  go_wp2_with fail
  refine (conv_at 5 _ _ _ _ [1, 1, 0, 0] [1, 1, 0, 0] [1, 2, 1, 0] 0 nv3 _ rx ry (by decide) (by decide) (by omega) (by omega)).mono ?_
  rintro _ w3 ⟨A3, c3, rfl, r3, hb3⟩
  clear rx
  clear ry
  replace rL := rL.keep hb3
  replace ra := ra.keep hb3
  replace rb := rb.keep hb3
  have hB3 := bstep hM3 hb3
  clear hM3 hb3
  have rc := r3
  clear r3
  go_wp2_with fail
  refine (turn_at 5 _ _ [1, 2, 3, 4] 1 [4, 1, 2, 3] 0 nv4 _ rL (by decide) (by omega) (by omega) (by omega)).mono ?_
  rintro _ w4 ⟨A4, c4, rfl, r4, hb4⟩
  clear rL
  replace ra := ra.keep hb4
  replace rb := rb.keep hb4
  replace rc := rc.keep hb4
  have hB4 := bstep hB3 hb4
  clear hB3 hb4
  have rd := r4
  clear r4
  replace ra := ra.keep (balloc (Below.refl _ _) (.cells #[.int .i64 0, .int .i64 2, .int .i64 3, .int .i64 4] 2))
  replace rb := rb.keep (balloc (Below.refl _ _) (.cells #[.int .i64 0, .int .i64 2, .int .i64 3, .int .i64 4] 2))
  replace rc := rc.keep (balloc (Below.refl _ _) (.cells #[.int .i64 0, .int .i64 2, .int .i64 3, .int .i64 4] 2))
  replace rd := rd.keep (balloc (Below.refl _ _) (.cells #[.int .i64 0, .int .i64 2, .int .i64 3, .int .i64 4] 2))
  have rx := RI_lit' (W := (w4.alloc (.cells #[.int .i64 0, .int .i64 2, .int .i64 3, .int .i64 4] 2))) (t := 2) (k := .i64) (A := some ⟨w4.heap.size, 0, none⟩) [0, 2, 3, 4] _ rfl (Blk.newAt _ _ (by simp)) rfl
  have hM4 := balloc hB4 (.cells #[.int .i64 0, .int .i64 2, .int .i64 3, .int .i64 4] 2)
  clear hB4
  go_wp2_with fail
  refine (signed_at 5 _ _ [0, 2, 3, 4] [0, 2, -2, -1] 0 nv5 _ rx (by decide) (by omega) (by omega)).mono ?_
  rintro _ w5 ⟨A5, c5, rfl, r5, hb5⟩
  clear rx
  replace ra := ra.keep hb5
  replace rb := rb.keep hb5
  replace rc := rc.keep hb5
  replace rd := rd.keep hb5
  have hB5 := bstep hM4 hb5
  clear hM4 hb5
  have ri := r5
  clear r5
  replace ra := ra.keep (balloc (Below.refl _ _) (.cells #[.int .i64 0, .int .i64 4, .int .i64 3, .int .i64 2] 2))
  replace rb := rb.keep (balloc (Below.refl _ _) (.cells #[.int .i64 0, .int .i64 4, .int .i64 3, .int .i64 2] 2))
  replace rc := rc.keep (balloc (Below.refl _ _) (.cells #[.int .i64 0, .int .i64 4, .int .i64 3, .int .i64 2] 2))
  replace rd := rd.keep (balloc (Below.refl _ _) (.cells #[.int .i64 0, .int .i64 4, .int .i64 3, .int .i64 2] 2))
  replace ri := ri.keep (balloc (Below.refl _ _) (.cells #[.int .i64 0, .int .i64 4, .int .i64 3, .int .i64 2] 2))
  have rz := RI_lit' (W := (w5.alloc (.cells #[.int .i64 0, .int .i64 4, .int .i64 3, .int .i64 2] 2))) (t := 2) (k := .i64) (A := some ⟨w5.heap.size, 0, none⟩) [0, 4, 3, 2] _ rfl (Blk.newAt _ _ (by simp)) rfl
  have hM5 := balloc hB5 (.cells #[.int .i64 0, .int .i64 4, .int .i64 3, .int .i64 2] 2)
  clear hB5
  go_wp2_with fail
  refine (is11_yes _ _ _ _ [0, 4, 3, 2] _ ra rz (by decide)).mono ?_
  rintro _ w6 ⟨rfl, hb6⟩
  clear rz
  clear ra
  replace rb := rb.keep hb6
  replace rc := rc.keep hb6
  replace rd := rd.keep hb6
  replace ri := ri.keep hb6
  have hB6 := bstep hM5 hb6
  clear hM5 hb6
  replace rb := rb.keep (balloc (Below.refl _ _) (.cells #[.int .i64 1, .int .i64 2, .int .i64 3, .int .i64 4] 2))
  replace rc := rc.keep (balloc (Below.refl _ _) (.cells #[.int .i64 1, .int .i64 2, .int .i64 3, .int .i64 4] 2))
  replace rd := rd.keep (balloc (Below.refl _ _) (.cells #[.int .i64 1, .int .i64 2, .int .i64 3, .int .i64 4] 2))
  replace ri := ri.keep (balloc (Below.refl _ _) (.cells #[.int .i64 1, .int .i64 2, .int .i64 3, .int .i64 4] 2))
  have rz := RI_lit' (W := (w6.alloc (.cells #[.int .i64 1, .int .i64 2, .int .i64 3, .int .i64 4] 2))) (t := 2) (k := .i64) (A := some ⟨w6.heap.size, 0, none⟩) [1, 2, 3, 4] _ rfl (Blk.newAt _ _ (by simp)) rfl
  have hM6 := balloc hB6 (.cells #[.int .i64 1, .int .i64 2, .int .i64 3, .int .i64 4] 2)
  clear hB6
  go_wp2_with fail
  refine (is11_yes _ _ _ _ [1, 2, 3, 4] _ rb rz (by decide)).mono ?_
  rintro _ w7 ⟨rfl, hb7⟩
  clear rz
  clear rb
  replace rc := rc.keep hb7
  replace rd := rd.keep hb7
  replace ri := ri.keep hb7
  have hB7 := bstep hM6 hb7
  clear hM6 hb7
  replace rc := rc.keep (balloc (Below.refl _ _) (.cells #[.int .i64 1, .int .i64 2, .int .i64 1, .int .i64 0] 2))
  replace rd := rd.keep (balloc (Below.refl _ _) (.cells #[.int .i64 1, .int .i64 2, .int .i64 1, .int .i64 0] 2))
  replace ri := ri.keep (balloc (Below.refl _ _) (.cells #[.int .i64 1, .int .i64 2, .int .i64 1, .int .i64 0] 2))
  have rz := RI_lit' (W := (w7.alloc (.cells #[.int .i64 1, .int .i64 2, .int .i64 1, .int .i64 0] 2))) (t := 2) (k := .i64) (A := some ⟨w7.heap.size, 0, none⟩) [1, 2, 1, 0] _ rfl (Blk.newAt _ _ (by simp)) rfl
  have hM7 := balloc hB7 (.cells #[.int .i64 1, .int .i64 2, .int .i64 1, .int .i64 0] 2)
  clear hB7
  go_wp2_with fail
  refine (is11_yes _ _ _ _ [1, 2, 1, 0] _ rc rz (by decide)).mono ?_
  rintro _ w8 ⟨rfl, hb8⟩
  clear rz
  clear rc
  replace rd := rd.keep hb8
  replace ri := ri.keep hb8
  have hB8 := bstep hM7 hb8
  clear hM7 hb8
  replace rd := rd.keep (balloc (Below.refl _ _) (.cells #[.int .i64 4, .int .i64 1, .int .i64 2, .int .i64 3] 2))
  replace ri := ri.keep (balloc (Below.refl _ _) (.cells #[.int .i64 4, .int .i64 1, .int .i64 2, .int .i64 3] 2))
  have rz := RI_lit' (W := (w8.alloc (.cells #[.int .i64 4, .int .i64 1, .int .i64 2, .int .i64 3] 2))) (t := 2) (k := .i64) (A := some ⟨w8.heap.size, 0, none⟩) [4, 1, 2, 3] _ rfl (Blk.newAt _ _ (by simp)) rfl
  have hM8 := balloc hB8 (.cells #[.int .i64 4, .int .i64 1, .int .i64 2, .int .i64 3] 2)
  clear hB8
  go_wp2_with fail
  refine (is11_yes _ _ _ _ [4, 1, 2, 3] _ rd rz (by decide)).mono ?_
  rintro _ w9 ⟨rfl, hb9⟩
  clear rz
  clear rd
  replace ri := ri.keep hb9
  have hB9 := bstep hM8 hb9
  clear hM8 hb9
  replace ri := ri.keep (balloc (Below.refl _ _) (.cells #[.int .i64 0, .int .i64 2, .int .i64 (-2), .int .i64 (-1)] 2))
  have rz := RI_lit' (W := (w9.alloc (.cells #[.int .i64 0, .int .i64 2, .int .i64 (-2), .int .i64 (-1)] 2))) (t := 2) (k := .i64) (A := some ⟨w9.heap.size, 0, none⟩) [0, 2, -2, -1] _ rfl (Blk.newAt _ _ (by simp)) rfl
  have hM9 := balloc hB9 (.cells #[.int .i64 0, .int .i64 2, .int .i64 (-2), .int .i64 (-1)] 2)
  clear hB9
  go_wp2_with fail
  refine (is11_yes _ _ _ _ [0, 2, -2, -1] _ ri rz (by decide)).mono ?_
  rintro _ w10 ⟨rfl, hb10⟩
  clear rz
  clear ri
  have hB10 := bstep hM9 hb10
  clear hM9 hb10
  go_wp2
  go_ret
  exact ⟨by simp, hB10⟩
end Go.Proofs.Ytdcacklochaljaa
