/-
  Parts of the proof of WorkerNames: WkNn.
-/
import Derived.Test.YtdekbncpodjgnaaT27
namespace Go.Proofs.Ytdekbncpodjgnaa
open Go.RowKit Runs Lagc Reg
set_option linter.unusedVariables false
set_option linter.unusedSimpArgs false
namespace Wk
open Lagw
structure NmP where
 ST : Value
 EV : Value
 R : Work
 e : Int
 B : Nat
def NmP.F (p : NmP) : Nat → Value → World → Prop
 | 0 => fun v w => ∃ X Y, v = .agg #[.slice X 3 3, .slice Y 3 3, .int .i64 0, .int .i64 2] ∧ RI .i64 w X gX ∧ RI .i64 w Y gY
 | 1 => fun v _ => v = p.ST
 | 2 => fun v _ => v = p.EV
 | 3 => fun v w => ∃ S N G D T c1 c2 c3 c4 c5, v = .tuple #[.agg #[.slice S p.R.a.s.length c1, .slice N p.R.a.n.length c2, .slice G p.R.a.g.length c3, .slice D p.R.d.length c4, .slice T p.R.t.length c5], .int .i64 p.e] ∧ RW w S N G D T p.R
 | 4 => fun v w => ∃ S N G D T c1 c2 c3 c4 c5, v = .tuple #[.agg #[.slice S p.R.a.s.length c1, .slice N p.R.a.n.length c2, .slice G p.R.a.g.length c3, .slice D p.R.d.length c4, .slice T p.R.t.length c5], .int .i64 p.e] ∧ RW w S N G D T p.R
 | 5 => fun v w => ∃ S N G D T c1 c2 c3 c4 c5, v = .agg #[.slice S p.R.a.s.length c1, .slice N p.R.a.n.length c2, .slice G p.R.a.g.length c3, .slice D p.R.d.length c4, .slice T p.R.t.length c5] ∧ RW w S N G D T p.R
 | 6 => fun v _ => v = .int .i64 p.e
 | 7 => fun v w => ∃ g, v = .pointer (some ⟨g, 0, none⟩) ∧ p.B ≤ g ∧ Blk w g 42 #[.slice none 0 0, .slice none 0 0, .slice none 0 0, .slice none 0 0, .slice none 0 0]
 | 9 => fun v _ => v = .int .i64 p.e
 | _ => fun _ _ => True
def NmP.P (p : NmP) : Nat → Value → Prop
 | 4 => fun v => ∃ x, v = .tuple #[x, .int .i64 p.e]
 | 6 => fun v => v = .int .i64 p.e
 | 9 => fun v => v = .int .i64 p.e
 | _ => fun _ => True
theorem NmP.keep (p : NmP) : ∀ k v w w', Below w.heap.size w w' → p.F k v w → p.F k v w' := by
 intro k v w w' hb h
 match k, h with
 | 0, ⟨X, Y, e, hx, hy⟩ => exact ⟨X, Y, e, hx.keep hb, hy.keep hb⟩
 | 1, h => exact h
 | 2, h => exact h
 | 3, ⟨S, N, G, D, T, c1, c2, c3, c4, c5, e, h1⟩ => exact ⟨S, N, G, D, T, c1, c2, c3, c4, c5, e, h1.keep hb⟩
 | 4, ⟨S, N, G, D, T, c1, c2, c3, c4, c5, e, h1⟩ => exact ⟨S, N, G, D, T, c1, c2, c3, c4, c5, e, h1.keep hb⟩
 | 5, ⟨S, N, G, D, T, c1, c2, c3, c4, c5, e, h1⟩ => exact ⟨S, N, G, D, T, c1, c2, c3, c4, c5, e, h1.keep hb⟩
 | 6, h => exact h
 | 7, ⟨g, e, hg, h1⟩ => exact ⟨g, e, hg, h1.keep hb⟩
 | 8, _ => trivial
 | 9, h => exact h
 | n + 10, _ => trivial
theorem NmP.val (p : NmP) : ∀ k v w, p.F k v w → p.P k v := by
 intro k v w h
 match k, h with
 | 0, _ => trivial
 | 1, _ => trivial
 | 2, _ => trivial
 | 3, _ => trivial
 | 4, ⟨S, N, G, D, T, c1, c2, c3, c4, c5, e, h1⟩ => exact ⟨_, e⟩
 | 5, _ => trivial
 | 6, h => exact h
 | 7, _ => trivial
 | 8, _ => trivial
 | 9, h => exact h
 | n + 10, _ => trivial
def NmP.E (p : NmP) (w0 : World) (val : Nat → Value) (w : World) : Prop :=
 ∃ g S N G D T c1 c2 c3 c4 c5, val 7 = .pointer (some ⟨g, 0, none⟩) ∧ w0.heap.size ≤ g ∧ Blk w g 42 #[.slice S p.R.a.s.length c1, .slice N p.R.a.n.length c2, .slice G p.R.a.g.length c3, .slice D p.R.d.length c4, .slice T p.R.t.length c5] ∧ RW w S N G D T p.R ∧ Below w0.heap.size w0 w
theorem NmP.upd (p : NmP) (w0 : World) : ∀ val i v w, (i == 6 || i == 9) = true → p.E w0 val w → p.E w0 (upd val i v) w := by
 rintro val i v w hi ⟨g, S, N, G, D, T, c1, c2, c3, c4, c5, e, h⟩
 have hne : 7 ≠ i := by
  simp only [Bool.or_eq_true, beq_iff_eq] at hi
  omega
 exact ⟨g, S, N, G, D, T, c1, c2, c3, c4, c5, by rw [upd_ne _ hne]; exact e, h⟩
theorem stW_errN {q : (List Bool × List Int) × Int} {d : List Bool} {t : List Int} {e : Int} (h : q = ((d, t), e)) (he : e ≠ 0) : stW gX gY 0 2 q = (Work.none, e) := by
 subst h; unfold stW; rw [if_pos he]
theorem stW_okN {q : (List Bool × List Int) × Int} {st : List Bool × List Int} (h : q = (st, 0)) : stW gX gY 0 2 q = (workS gX gY 0 2 st, 0) := by
 subst h; unfold stW; rw [if_neg (by simp)]; rfl
theorem goodW : Good19 (cdiv gX.length 2) lW.1 lW.2 := g_good (by decide) (by decide)
theorem goodU : Good19 (cdiv gX.length 2) lU.1 lU.2 := g_good (by decide) (by decide)
theorem goodX : Good19 (cdiv gX.length 2) lX.1 lX.2 := g_good (by decide) (by decide)
theorem a7 : stW gX gY 0 2 (stepS lW.1 lW.2 ⟨2, 0, 0⟩) = (Work.none, 36) := stW_errN (d := []) (t := []) (by decide +kernel) (by decide)
theorem a8 : stW gX gY 0 2 (stepS lW.1 lW.2 ⟨1, 0, 2⟩) = (Work.none, 2) := stW_errN (d := []) (t := []) (by decide +kernel) (by decide)
theorem a9 : stW gX gY 0 2 (stepS lW.1 lW.2 ⟨1, 1, 0⟩) = (Work.none, 2) := stW_errN (d := []) (t := []) (by decide +kernel) (by decide)
theorem a10 : stW gX gY 0 2 (stepS lW.1 lW.2 ⟨4, 1, 0⟩) = (Work.none, 2) := stW_errN (d := []) (t := []) (by decide +kernel) (by decide)
theorem a11 : stW gX gY 0 2 (stepS lW.1 lW.2 ⟨0, 0, 0⟩) = (Work.none, 2) := stW_errN (d := []) (t := []) (by decide +kernel) (by decide)
theorem a13 : stW gX gY 0 2 (stepS lW.1 lW.2 ⟨1, 0, 0⟩) = (workS gX gY 0 2 lU, 0) := stW_okN (by decide +kernel)
theorem a14 : stW gX gY 0 2 (stepS lU.1 lU.2 ⟨1, 0, 1⟩) = (Work.none, 36) := stW_errN (d := []) (t := []) (by decide +kernel) (by decide)
theorem a15 : stW gX gY 0 2 (stepS lU.1 lU.2 ⟨3, 0, 1⟩) = (Work.none, 2) := stW_errN (d := []) (t := []) (by decide +kernel) (by decide)
theorem a16 : stW gX gY 0 2 (stepS lU.1 lU.2 ⟨3, 0, 0⟩) = (workS gX gY 0 2 lW, 0) := stW_okN (by decide +kernel)
theorem a17 : stW gX gY 0 2 (stepS lU.1 lU.2 ⟨2, 0, 0⟩) = (workS gX gY 0 2 lX, 0) := stW_okN (by decide +kernel)
theorem a18 : stW gX gY 0 2 (stepS lX.1 lX.2 ⟨1, 0, 0⟩) = (Work.none, 36) := stW_errN (d := []) (t := []) (by decide +kernel) (by decide)
theorem k1 : jobErr [] [] 0 0 = 8 := by decide +kernel
theorem k2 : jobErr [] [] 0 257 = 8 := by decide +kernel
theorem k3 : jobErr [] [] 256 1 = 8 := by decide +kernel
theorem k4 : jobErr [] [] (-1) 1 = 8 := by decide +kernel
theorem k5 : jobErr [2] [] 0 0 = 8 := by decide +kernel
theorem k6 : jobErr [] (List.replicate 257 0) 0 0 = 4 := by decide +kernel
theorem k7 : jobErr [] [] 255 256 = 0 := by decide +kernel
theorem k8 : jobErr (List.replicate 65 0) [] 0 1 = 8 := by decide +kernel
theorem k9 : jobErr (List.replicate 256 0) [] 0 4 = 0 := by decide +kernel
structure Nm2P where
 R : Work
 B : Nat
def Nm2P.F (p : Nm2P) : Nat → Value → World → Prop
 | 0 => fun v w => ∃ X Y, v = .agg #[.slice X 3 3, .slice Y 3 3, .int .i64 0, .int .i64 2] ∧ RI .i64 w X gX ∧ RI .i64 w Y gY
 | 1 => fun v w => ∃ g, v = .slice (some ⟨g, 0, none⟩) 401 401 ∧ RE w (some ⟨g, 0, none⟩) (List.replicate 401 ⟨0, 0, 0⟩)
 | 2 => fun v w => ∃ S N G D T c1 c2 c3 c4 c5, v = .tuple #[.agg #[.slice S p.R.a.s.length c1, .slice N p.R.a.n.length c2, .slice G p.R.a.g.length c3, .slice D p.R.d.length c4, .slice T p.R.t.length c5], .int .i64 0, .int .i64 4] ∧ RW w S N G D T p.R
 | 3 => fun v w => ∃ S N G D T c1 c2 c3 c4 c5, v = .tuple #[.agg #[.slice S p.R.a.s.length c1, .slice N p.R.a.n.length c2, .slice G p.R.a.g.length c3, .slice D p.R.d.length c4, .slice T p.R.t.length c5], .int .i64 0, .int .i64 4] ∧ RW w S N G D T p.R
 | 4 => fun v w => ∃ S N G D T c1 c2 c3 c4 c5, v = .agg #[.slice S p.R.a.s.length c1, .slice N p.R.a.n.length c2, .slice G p.R.a.g.length c3, .slice D p.R.d.length c4, .slice T p.R.t.length c5] ∧ RW w S N G D T p.R
 | 5 => fun v _ => v = .int .i64 0
 | 6 => fun v _ => v = .int .i64 4
 | 7 => fun v w => ∃ g, v = .pointer (some ⟨g, 0, none⟩) ∧ p.B ≤ g ∧ Blk w g 42 #[.slice none 0 0, .slice none 0 0, .slice none 0 0, .slice none 0 0, .slice none 0 0]
 | 9 => fun v _ => v = .int .i64 0
 | 10 => fun v _ => v = .int .i64 4
 | _ => fun _ _ => True
def Nm2P.P (p : Nm2P) : Nat → Value → Prop
 | 3 => fun v => ∃ x, v = .tuple #[x, .int .i64 0, .int .i64 4]
 | 5 => fun v => v = .int .i64 0
 | 6 => fun v => v = .int .i64 4
 | 9 => fun v => v = .int .i64 0
 | 10 => fun v => v = .int .i64 4
 | _ => fun _ => True
theorem Nm2P.keep (p : Nm2P) : ∀ k v w w', Below w.heap.size w w' → p.F k v w → p.F k v w' := by
 intro k v w w' hb h
 match k, h with
 | 0, ⟨X, Y, e, hx, hy⟩ => exact ⟨X, Y, e, hx.keep hb, hy.keep hb⟩
 | 1, ⟨g, e, h⟩ => exact ⟨g, e, h.keep hb⟩
 | 2, ⟨S, N, G, D, T, c1, c2, c3, c4, c5, e, h1⟩ => exact ⟨S, N, G, D, T, c1, c2, c3, c4, c5, e, h1.keep hb⟩
 | 3, ⟨S, N, G, D, T, c1, c2, c3, c4, c5, e, h1⟩ => exact ⟨S, N, G, D, T, c1, c2, c3, c4, c5, e, h1.keep hb⟩
 | 4, ⟨S, N, G, D, T, c1, c2, c3, c4, c5, e, h1⟩ => exact ⟨S, N, G, D, T, c1, c2, c3, c4, c5, e, h1.keep hb⟩
 | 5, h => exact h
 | 6, h => exact h
 | 7, ⟨g, e, hg, h1⟩ => exact ⟨g, e, hg, h1.keep hb⟩
 | 8, _ => trivial
 | 9, h => exact h
 | 10, h => exact h
 | n + 11, _ => trivial
theorem Nm2P.val (p : Nm2P) : ∀ k v w, p.F k v w → p.P k v := by
 intro k v w h
 match k, h with
 | 0, _ => trivial
 | 1, _ => trivial
 | 2, _ => trivial
 | 3, ⟨S, N, G, D, T, c1, c2, c3, c4, c5, e, h1⟩ => exact ⟨_, e⟩
 | 4, _ => trivial
 | 5, h => exact h
 | 6, h => exact h
 | 7, _ => trivial
 | 8, _ => trivial
 | 9, h => exact h
 | 10, h => exact h
 | n + 11, _ => trivial
def Nm2P.E (w0 : World) (val : Nat → Value) (w : World) : Prop := (∃ g, val 7 = .pointer (some ⟨g, 0, none⟩)) ∧ Below w0.heap.size w0 w
theorem Nm2P.upd (w0 : World) : ∀ val i v w, (i == 5 || i == 6 || i == 9 || i == 10) = true → Nm2P.E w0 val w → Nm2P.E w0 (upd val i v) w := by
 rintro val i v w hi ⟨⟨g, e⟩, h⟩
 have hne : 7 ≠ i := by
  simp only [Bool.or_eq_true, beq_iff_eq] at hi
  omega
 exact ⟨⟨g, by rw [upd_ne _ hne]; exact e⟩, h⟩
theorem hap8_own {w : World} {base : Nat} {e : TypeId} {A : Option Addr} {c : Nat} (h : w.ownsRow base e 3 (.slice A 8 c) 8 ((hapL.flatMap encE).toArray.toList ++ encE ⟨2, 0, 0⟩)) : RE w A hap8 :=
 own_RE rfl (by rw [show hap8.flatMap encE = (hapL.flatMap encE).toArray.toList ++ encE ⟨2, 0, 0⟩ from by unfold hap8; simp]; exact h)
set_option maxRecDepth 20000 in
set_option maxHeartbeats 200000000 in
theorem workerNames_walk (w : World) : Calls Try.prog 6 #[] w fun e w' => e = .returned (.bool true) ∧ Below w.heap.size w w' := by
 have m1 := mk257
 have m2 := mk65
 have m3 := mk256
 have m4 := mkB2
 have m5 := mkE401
 have H7 := Lib.hid (apply_g goodW ⟨2, 0, 0⟩ _ a7)
 have H8 := Lib.hid (apply_g goodW ⟨1, 0, 2⟩ _ a8)
 have H9 := Lib.hid (apply_g goodW ⟨1, 1, 0⟩ _ a9)
 have H10 := Lib.hid (apply_g goodW ⟨4, 1, 0⟩ _ a10)
 have H11 := Lib.hid (apply_g goodW ⟨0, 0, 0⟩ _ a11)
 have H12 := Lib.hid applyN_g
 have H13 := Lib.hid (apply_g goodW ⟨1, 0, 0⟩ _ a13)
 have H14 := Lib.hid (apply_g goodU ⟨1, 0, 1⟩ _ a14)
 have H15 := Lib.hid (apply_g goodU ⟨3, 0, 1⟩ _ a15)
 have H16 := Lib.hid (apply_g goodU ⟨3, 0, 0⟩ _ a16)
 have H17 := Lib.hid (apply_g goodU ⟨2, 0, 0⟩ _ a17)
 have H18 := Lib.hid (apply_g goodX ⟨1, 0, 0⟩ _ a18)
 have HOE := Lib.hid openE_w
 have HOW := Lib.hid openW_w
 have HON := Lib.hid openN_w
 have HTW := Lib.hid twin_g
 have HRB := Lib.hid (fun X Y S1 N1 G1 D T c1 c2 c3 c4 c5 w hx hy (hr : RW w S1 N1 G1 D T wrongW) => resultB_g X Y S1 N1 G1 D T c1 c2 c3 c4 c5 w hx hy hr)
 have HRW : Hid (∀ B W S N G D T c1 c2 c3 c4 c5 gB, CW B W S N G D T c1 c2 c3 c4 c5 (workS gX gY 0 2 lX) → RBo W (some ⟨gB, 0, none⟩) [false, false] → RW W S N G (some ⟨gB, 0, none⟩) T wrongW) := Lib.hid (fun B W S N G D T c1 c2 c3 c4 c5 gB h hb => ⟨h.rw_.a, hb, h.rw_.t⟩)
 have HRN := Lib.hid resultN_g
 have H401 := Lib.hid run401_g
 have HR8 := Lib.hid run8_g
 have HSA := Lib.hid same_g
 have y0 : (((workS gX gY 0 2 ([true, true], [-1, -1])).d.length : Int) == 2) = true := rfl
 generalize wrongW = RQ0 at *
 generalize workS gX gY 0 2 lW = RW0 at *
 generalize workS gX gY 0 2 lU = RU0 at *
 generalize workS gX gY 0 2 lX = RX0 at *
 generalize workS gX gY 0 2 ([true, true], [-1, -1]) = RP0 at *
 generalize workS [] [] 0 3 ([], [-1]) = RN0 at *
 generalize Work.none = R00 at *
 go_enter Try.func6, Try.ntmps6
 go_wp2_with fail
 refine (chk_w none none 0 0 0 0 [] [] 0 0 8 rfl rfl k1 (by omega) (by omega) _ RI.nil RI.nil).mono ?_
 rintro _ w1 ⟨rfl, hB⟩
 go_wp2_with fail
 refine (chk_w none none 0 0 0 0 [] [] 0 257 8 rfl rfl k2 (by omega) (by omega) _ RI.nil RI.nil).mono ?_
 rintro _ w2 ⟨rfl, hb⟩
 replace hB := bstep hB hb
 clear hb
 go_wp2_with fail
 refine (chk_w none none 0 0 0 0 [] [] 256 1 8 rfl rfl k3 (by omega) (by omega) _ RI.nil RI.nil).mono ?_
 rintro _ w3 ⟨rfl, hb⟩
 replace hB := bstep hB hb
 clear hb
 go_wp2_with fail
 refine (chk_w none none 0 0 0 0 [] [] (-1) 1 8 rfl rfl k4 (by omega) (by omega) _ RI.nil RI.nil).mono ?_
 rintro _ w4 ⟨rfl, hb⟩
 replace hB := bstep hB hb
 clear hb
 go_wp2_with fail
 refine (chk_w _ none 1 0 1 0 [2] [] 0 0 8 rfl rfl k5 (by omega) (by omega) _ (RI_lit' (t := 3) [2] _ rfl (Blk.newAt _ _ rfl) rfl) RI.nil).mono ?_
 rintro _ w5 ⟨rfl, hb⟩
 replace hB := bstep (balloc hB _) hb
 clear hb
 go_wp2_with fail
 refine (chk_w none _ 0 257 0 257 [] (List.replicate 257 0) 0 0 4 rfl List.length_replicate k6 (by omega) (by omega) _ RI.nil (z_RI (Blk.newAt _ _ rfl))).mono ?_
 rintro _ w6 ⟨rfl, hb⟩
 replace hB := bstep (balloc hB _) hb
 clear hb
 go_wp2_with fail
 refine (chk_w none none 0 0 0 0 [] [] 255 256 0 rfl rfl k7 (by omega) (by omega) _ RI.nil RI.nil).mono ?_
 rintro _ w7 ⟨rfl, hb⟩
 replace hB := bstep hB hb
 clear hb
 go_wp2_with fail
 refine (chk_w _ none 65 0 65 0 (List.replicate 65 0) [] 0 1 8 List.length_replicate rfl k8 (by omega) (by omega) _ (z_RI (Blk.newAt _ _ rfl)) RI.nil).mono ?_
 rintro _ w8 ⟨rfl, hb⟩
 replace hB := bstep (balloc hB _) hb
 clear hb
 go_wp2_with fail
 refine (chk_w _ none 256 0 256 0 (List.replicate 256 0) [] 0 4 0 List.length_replicate rfl k9 (by omega) (by omega) _ (z_RI (Blk.newAt _ _ rfl)) RI.nil).mono ?_
 rintro _ w9 ⟨rfl, hb⟩
 replace hB := bstep (balloc hB _) hb
 clear hb
 go_wp2_with fail
 refine (given_any _).mono ?_
 rintro _ v1 ⟨X1, Y1, rfl, rx1, ry1, hb1⟩
 go_wp2_with fail
 refine (part_w 2 (by decide) _ _ _ rx1 ry1).mono ?_
 rintro _ v2 ⟨⟨A2, k2, rfl⟩, hb2⟩
 replace hB := bstep (bstep hB hb1) hb2
 clear hb1 hb2 rx1 ry1
 go_wp2_with fail
 refine (given_any _).mono ?_
 rintro _ v3 ⟨X1, Y1, rfl, rx1, ry1, hb1⟩
 go_wp2_with fail
 refine (part_w (-1) (by decide) _ _ _ rx1 ry1).mono ?_
 rintro _ v4 ⟨⟨A4, k4, rfl⟩, hb2⟩
 replace hB := bstep (bstep hB hb1) hb2
 clear hb1 hb2 rx1 ry1
 go_wp2_with fail
 refine (given_any _).mono ?_
 rintro _ v5 ⟨X1, Y1, rfl, rx1, ry1, hb1⟩
 go_wp2_with fail
 refine (HOE.out 0 (by decide) _ _ _ rx1 ry1).mono ?_
 rintro _ v6 ⟨S7, N7, G7, D7, T7, u1, u2, u3, u4, u5, rfl, rw7, hb2⟩
 replace hB := bstep (bstep hB hb1) hb2
 clear hb1 hb2 rx1 ry1 rw7
 go_wp2_with fail
 refine (given_any _).mono ?_
 rintro _ v7 ⟨X1, Y1, rfl, rx1, ry1, hb1⟩
 go_wp2_with fail
 refine (HOE.out 7 (by decide) _ _ _ rx1 ry1).mono ?_
 rintro _ v8 ⟨S8, N8, G8, D8, T8, x1, x2, x3, x4, x5, rfl, rw7, hb2⟩
 replace hB := bstep (bstep (balloc hB _) hb1) hb2
 clear hb1 hb2 rx1 ry1 rw7
 go_wp2_with fail
 refine (given_any _).mono ?_
 rintro _ v9 ⟨X1, Y1, rfl, rx1, ry1, hb1⟩
 go_wp2_with fail
 refine (HOW.out _ _ _ rx1 ry1).mono ?_
 rintro _ v10 ⟨S10, N10, G10, D10, T10, z10_1, z10_2, z10_3, z10_4, z10_5, rfl, rw10, hb2⟩
 replace hB := bstep (bstep (balloc hB _) hb1) hb2
 clear hb1 hb2 rx1 ry1
 go_upto_region 7 with (fail)
 obtain ⟨W7, hW7⟩ : ∃ W7, W7 = v10.alloc (.cells #[.slice S10 RW0.a.s.length z10_1, .slice N10 RW0.a.n.length z10_2, .slice G10 RW0.a.g.length z10_3, .slice D10 RW0.d.length z10_4, .slice T10 RW0.t.length z10_5] 42) := ⟨_, rfl⟩
 have hk10 : Blk W7 v10.heap.size 42 #[.slice S10 RW0.a.s.length z10_1, .slice N10 RW0.a.n.length z10_2, .slice G10 RW0.a.g.length z10_3, .slice D10 RW0.d.length z10_4, .slice T10 RW0.t.length z10_5] := by rw [hW7]; exact Blk.new _ _ _
 have hbu : Below v10.heap.size v10 W7 := by rw [hW7]; exact balloc (Below.refl _ _) _
 rw [← hW7]
 clear hW7
 replace hB := bstep hB hbu
 replace rw10 := rw10.keep hbu
 clear hbu
 obtain ⟨g10, hg10⟩ : ∃ g10, g10 = v10.heap.size := ⟨_, rfl⟩
 rw [← hg10] at hk10 ⊢
 clear hg10
 go_upto_region 7 with (fail)
 go_cut [12, 13] from 122 to 122 (fun sa sb wc => ∃ (g : Nat) (S7 N7 G7 D7 T7 : Option Addr) (u1 u2 u3 u4 u5 : Nat), sa = .pointer (some ⟨g, 0, none⟩) ∧ sb = .int .i64 36 ∧ Blk wc g 42 #[.slice S7 R00.a.s.length u1, .slice N7 R00.a.n.length u2, .slice G7 R00.a.g.length u3, .slice D7 R00.d.length u4, .slice T7 R00.t.length u5] ∧ RW wc S7 N7 G7 D7 T7 R00 ∧ Below W7.heap.size W7 wc ∧ W7.heap.size ≤ g)
 case first =>
  as_aux_lemma =>
   refine wp_region_mid (by kernel_rfl) (by kernel_rfl) (by kernel_rfl) (NmP.F ⟨.agg #[.slice S10 RW0.a.s.length z10_1, .slice N10 RW0.a.n.length z10_2, .slice G10 RW0.a.g.length z10_3, .slice D10 RW0.d.length z10_4, .slice T10 RW0.t.length z10_5], .agg #[.int .u8 2, .int .i64 0, .int .i64 0], R00, 36, W7.heap.size⟩) (NmP.P ⟨.agg #[.slice S10 RW0.a.s.length z10_1, .slice N10 RW0.a.n.length z10_2, .slice G10 RW0.a.g.length z10_3, .slice D10 RW0.d.length z10_4, .slice T10 RW0.t.length z10_5], .agg #[.int .u8 2, .int .i64 0, .int .i64 0], R00, 36, W7.heap.size⟩) 8 (NmP.E ⟨.agg #[.slice S10 RW0.a.s.length z10_1, .slice N10 RW0.a.n.length z10_2, .slice G10 RW0.a.g.length z10_3, .slice D10 RW0.d.length z10_4, .slice T10 RW0.t.length z10_5], .agg #[.int .u8 2, .int .i64 0, .int .i64 0], R00, 36, W7.heap.size⟩ W7) (fun i => i == 6 || i == 9) (by kernel_rfl) (NmP.keep _) (NmP.val _) (NmP.upd _ _) ⟨?_, ?_, ?_, ?_, ?_, ?_, ?_, ?_, ?_, ?_, trivial⟩ ?_
   ·refine MidOk.grow ?_ (by decide) rfl
    intro val a w9 hb9 hdep hold K hK
    refine grow_call (vs := #[]) rfl rfl (by simp) Try.call33 ((given_any w9).mono ?_)
    rintro e w' ⟨X1, Y1, rfl, rx, ry, hb7⟩
    exact ⟨_, rfl, hK _ _ hb7 ⟨X1, Y1, rfl, rx, ry⟩⟩
   ·refine MidOk.grow ?_ (by decide) rfl
    intro val a w9 hb9 hdep hold K hK
    have b1 : a.tmps[10]?.getD undef = .pointer (some ⟨g10, 0, none⟩) := ev_tmps ((hold 10 (by rfl)).trans (by rfl))
    have hkr := hk10.keep hb9
    have p0 : World.cell? w9 ⟨g10, 0, none⟩ = some (.slice S10 RW0.a.s.length z10_1) := hkr.cell 0
    have g0 := hkr.frozen 0
    have p1 : World.cell? w9 ⟨g10, 1, none⟩ = some (.slice N10 RW0.a.n.length z10_2) := hkr.cell 1
    have g1 := hkr.frozen 1
    have p2 : World.cell? w9 ⟨g10, 2, none⟩ = some (.slice G10 RW0.a.g.length z10_3) := hkr.cell 2
    have g2 := hkr.frozen 2
    have p3 : World.cell? w9 ⟨g10, 3, none⟩ = some (.slice D10 RW0.d.length z10_4) := hkr.cell 3
    have g3 := hkr.frozen 3
    have p4 : World.cell? w9 ⟨g10, 4, none⟩ = some (.slice T10 RW0.t.length z10_5) := hkr.cell 4
    have g4 := hkr.frozen 4
    have gl := hkr.lt
    clear hdep hold
    go_simp
    exact hK _ _ (Below.refl _ _) rfl
   ·refine MidOk.grow ?_ (by decide) rfl
    intro val a w9 hb9 hdep hold K hK
    clear hdep hold
    go_simp
    exact hK _ _ (Below.refl _ _) rfl
   ·refine MidOk.grow ?_ (by decide) rfl
    intro val a w9 hb9 hdep hold K hK
    obtain ⟨b1, X1, Y1, h1, rx, ry⟩ := hdep 0 123 _ rfl rfl rfl
    replace b1 := b1.trans h1
    have b2 := (hdep 1 124 _ rfl rfl rfl).1.trans (hdep 1 124 _ rfl rfl rfl).2
    have b3 := (hdep 2 125 _ rfl rfl rfl).1.trans (hdep 2 125 _ rfl rfl rfl).2
    refine grow_call (vs := #[.agg #[.slice X1 3 3, .slice Y1 3 3, .int .i64 0, .int .i64 2], .agg #[.slice S10 RW0.a.s.length z10_1, .slice N10 RW0.a.n.length z10_2, .slice G10 RW0.a.g.length z10_3, .slice D10 RW0.d.length z10_4, .slice T10 RW0.t.length z10_5], .agg #[.int .u8 2, .int .i64 0, .int .i64 0]]) rfl rfl (by simp [b1, b2, b3]) Try.call22 ((H7.out X1 Y1 S10 N10 G10 D10 T10 z10_1 z10_2 z10_3 z10_4 z10_5 w9 rx ry (rw10.keep hb9)).mono ?_)
    rintro e w' ⟨S7, N7, G7, D7, T7, u1, u2, u3, u4, u5, rfl, rw7, hb7⟩
    exact ⟨_, rfl, hK _ _ hb7 ⟨S7, N7, G7, D7, T7, u1, u2, u3, u4, u5, rfl, rw7⟩⟩
   ·refine MidOk.grow ?_ (by decide) rfl
    intro val a w9 hb9 hdep hold K hK
    obtain ⟨b1, S7, N7, G7, D7, T7, u1, u2, u3, u4, u5, h1, rw7⟩ := hdep 3 126 _ rfl rfl rfl
    replace b1 := ev_tmps (b1.trans h1)
    clear hdep hold h1
    go_simp
    exact hK _ _ (Below.refl _ _) ⟨S7, N7, G7, D7, T7, u1, u2, u3, u4, u5, rfl, rw7⟩
   ·refine MidOk.grow ?_ (by decide) rfl
    intro val a w9 hb9 hdep hold K hK
    obtain ⟨b1, S7, N7, G7, D7, T7, u1, u2, u3, u4, u5, h1, rw7⟩ := hdep 4 122 _ rfl rfl rfl
    replace b1 := ev_tmps (b1.trans h1)
    clear hdep hold h1
    go_simp
    exact hK _ _ (Below.refl _ _) ⟨S7, N7, G7, D7, T7, u1, u2, u3, u4, u5, rfl, rw7⟩
   ·refine MidOk.both ?_ ?_ (by decide)
    ·intro val a w9 hb9 hdep hold K hK
     obtain ⟨b1, S7, N7, G7, D7, T7, u1, u2, u3, u4, u5, h1, rw7⟩ := hdep 4 122 _ rfl rfl rfl
     replace b1 := ev_tmps (b1.trans h1)
     clear hdep hold h1
     go_simp
     exact hK _ _ (Below.refl _ _) rfl
    ·intro val a w9 hdep hold K hK
     obtain ⟨b1, y9, h1⟩ := hdep 4 122 _ rfl rfl rfl
     replace b1 := ev_tmps (b1.trans h1)
     clear hdep hold h1
     go_simp
     exact hK _ rfl
   ·refine MidOk.grow ?_ (by decide) rfl
    intro val a w9 hb9 hdep hold K hK
    have hs9 := hb9.size
    clear hdep hold
    go_simp
    exact hK _ _ (balloc (Below.refl _ _) _) ⟨_, rfl, hs9, Blk.new _ _ _⟩
   ·refine MidOk.store ?_ rfl
    intro val a w9 hb9 hall hdep hold K hK
    obtain ⟨g, h2, hg, hkG⟩ := hall 7 (by decide) (by decide) rfl
    obtain ⟨S7, N7, G7, D7, T7, u1, u2, u3, u4, u5, h1, rw7⟩ := hall 5 (by decide) (by decide) rfl
    simp only at hg h1 rw7
    have b1 := ev_tmps ((hdep 7 12 _ rfl rfl (by decide) rfl).trans h2)
    have b2 := ev_tmps ((hdep 5 127 _ rfl rfl (by decide) rfl).trans h1)
    have hFa := hK undef
    clear hall hdep hold hK h1
    have q0 : World.cell? w9 ⟨g, 0, none⟩ = some (.slice none 0 0) := hkG.cell 0
    have f0 := hkG.frozen 0
    have q1 : World.cell? w9 ⟨g, 1, none⟩ = some (.slice none 0 0) := hkG.cell 1
    have f1 := hkG.frozen 1
    have q2 : World.cell? w9 ⟨g, 2, none⟩ = some (.slice none 0 0) := hkG.cell 2
    have f2 := hkG.frozen 2
    have q3 : World.cell? w9 ⟨g, 3, none⟩ = some (.slice none 0 0) := hkG.cell 3
    have f3 := hkG.frozen 3
    have q4 : World.cell? w9 ⟨g, 4, none⟩ = some (.slice none 0 0) := hkG.cell 4
    have f4 := hkG.frozen 4
    have fl := hkG.lt
    go_simp
    refine hFa _ ⟨g, S7, N7, G7, D7, T7, u1, u2, u3, u4, u5, by rw [upd_ne _ (by decide)]; exact h2, hg, (rw7.put5 hkG).2, (rw7.put5 hkG).1, ((((hb9.setCell (p := ⟨g, 0, none⟩) hg _).setCell (p := ⟨g, 1, none⟩) hg _).setCell (p := ⟨g, 2, none⟩) hg _).setCell (p := ⟨g, 3, none⟩) hg _).setCell (p := ⟨g, 4, none⟩) hg _⟩ trivial
   ·refine MidOk.both ?_ ?_ (by decide)
    ·intro val a w9 hb9 hdep hold K hK
     have b1 : a.tmps[128]?.getD undef = .int .i64 36 := ev_tmps ((hdep 6 128 _ rfl rfl rfl).1.trans (hdep 6 128 _ rfl rfl rfl).2)
     clear hdep hold
     go_simp
     exact hK _ _ (Below.refl _ _) rfl
    ·intro val a w9 hdep hold K hK
     have b1 : a.tmps[128]?.getD undef = .int .i64 36 := ev_tmps ((hdep 6 128 _ rfl rfl rfl).1.trans (hdep 6 128 _ rfl rfl rfl).2)
     clear hdep hold
     go_simp
     exact hK _ rfl
   ·rintro val w' ⟨g, S7, N7, G7, D7, T7, u1, u2, u3, u4, u5, h10, hg, hkG, rw7, hb7⟩ hP
    have h12 : val 9 = .int .i64 36 := hP 9 (by decide)
    clear hP
    simp only [putL, Act.put, List.setIfInBounds_toArray, List.set_cons_zero, List.set_cons_succ, h10, h12]
    go_wp2_with fail
    go_meet
    exact ⟨g, S7, N7, G7, D7, T7, u1, u2, u3, u4, u5, rfl, rfl, hkG, rw7, hb7, hg⟩
 case rest => as_aux_lemma =>
 obtain ⟨g7, S7, N7, G7, D7, T7, u1, u2, u3, u4, u5, rfl, rfl, hk7, rw7, hb7, hg7⟩ := hcut
 obtain ⟨W8, rfl⟩ : ∃ W8, W8 = wc := ⟨_, rfl⟩
 replace hB := bstep hB hb7
 replace hk10 := hk10.keep hb7
 replace rw10 := rw10.keep hb7
 clear hb7 hg7 hk7 rw7
 go_upto_region 8 with (fail)
 go_cut [14, 15] from 129 to 129 (fun sa sb wc => ∃ (g : Nat) (S7 N7 G7 D7 T7 : Option Addr) (u1 u2 u3 u4 u5 : Nat), sa = .pointer (some ⟨g, 0, none⟩) ∧ sb = .int .i64 2 ∧ Blk wc g 42 #[.slice S7 R00.a.s.length u1, .slice N7 R00.a.n.length u2, .slice G7 R00.a.g.length u3, .slice D7 R00.d.length u4, .slice T7 R00.t.length u5] ∧ RW wc S7 N7 G7 D7 T7 R00 ∧ Below W8.heap.size W8 wc ∧ W8.heap.size ≤ g)
 case first =>
  as_aux_lemma =>
   refine wp_region_mid (by kernel_rfl) (by kernel_rfl) (by kernel_rfl) (NmP.F ⟨.agg #[.slice S10 RW0.a.s.length z10_1, .slice N10 RW0.a.n.length z10_2, .slice G10 RW0.a.g.length z10_3, .slice D10 RW0.d.length z10_4, .slice T10 RW0.t.length z10_5], .agg #[.int .u8 1, .int .i64 0, .int .i64 2], R00, 2, W8.heap.size⟩) (NmP.P ⟨.agg #[.slice S10 RW0.a.s.length z10_1, .slice N10 RW0.a.n.length z10_2, .slice G10 RW0.a.g.length z10_3, .slice D10 RW0.d.length z10_4, .slice T10 RW0.t.length z10_5], .agg #[.int .u8 1, .int .i64 0, .int .i64 2], R00, 2, W8.heap.size⟩) 8 (NmP.E ⟨.agg #[.slice S10 RW0.a.s.length z10_1, .slice N10 RW0.a.n.length z10_2, .slice G10 RW0.a.g.length z10_3, .slice D10 RW0.d.length z10_4, .slice T10 RW0.t.length z10_5], .agg #[.int .u8 1, .int .i64 0, .int .i64 2], R00, 2, W8.heap.size⟩ W8) (fun i => i == 6 || i == 9) (by kernel_rfl) (NmP.keep _) (NmP.val _) (NmP.upd _ _) ⟨?_, ?_, ?_, ?_, ?_, ?_, ?_, ?_, ?_, ?_, trivial⟩ ?_
   ·refine MidOk.grow ?_ (by decide) rfl
    intro val a w9 hb9 hdep hold K hK
    refine grow_call (vs := #[]) rfl rfl (by simp) Try.call33 ((given_any w9).mono ?_)
    rintro e w' ⟨X1, Y1, rfl, rx, ry, hb7⟩
    exact ⟨_, rfl, hK _ _ hb7 ⟨X1, Y1, rfl, rx, ry⟩⟩
   ·refine MidOk.grow ?_ (by decide) rfl
    intro val a w9 hb9 hdep hold K hK
    have b1 : a.tmps[10]?.getD undef = .pointer (some ⟨g10, 0, none⟩) := ev_tmps ((hold 10 (by rfl)).trans (by rfl))
    have hkr := hk10.keep hb9
    have p0 : World.cell? w9 ⟨g10, 0, none⟩ = some (.slice S10 RW0.a.s.length z10_1) := hkr.cell 0
    have g0 := hkr.frozen 0
    have p1 : World.cell? w9 ⟨g10, 1, none⟩ = some (.slice N10 RW0.a.n.length z10_2) := hkr.cell 1
    have g1 := hkr.frozen 1
    have p2 : World.cell? w9 ⟨g10, 2, none⟩ = some (.slice G10 RW0.a.g.length z10_3) := hkr.cell 2
    have g2 := hkr.frozen 2
    have p3 : World.cell? w9 ⟨g10, 3, none⟩ = some (.slice D10 RW0.d.length z10_4) := hkr.cell 3
    have g3 := hkr.frozen 3
    have p4 : World.cell? w9 ⟨g10, 4, none⟩ = some (.slice T10 RW0.t.length z10_5) := hkr.cell 4
    have g4 := hkr.frozen 4
    have gl := hkr.lt
    clear hdep hold
    go_simp
    exact hK _ _ (Below.refl _ _) rfl
   ·refine MidOk.grow ?_ (by decide) rfl
    intro val a w9 hb9 hdep hold K hK
    clear hdep hold
    go_simp
    exact hK _ _ (Below.refl _ _) rfl
   ·refine MidOk.grow ?_ (by decide) rfl
    intro val a w9 hb9 hdep hold K hK
    obtain ⟨b1, X1, Y1, h1, rx, ry⟩ := hdep 0 130 _ rfl rfl rfl
    replace b1 := b1.trans h1
    have b2 := (hdep 1 131 _ rfl rfl rfl).1.trans (hdep 1 131 _ rfl rfl rfl).2
    have b3 := (hdep 2 132 _ rfl rfl rfl).1.trans (hdep 2 132 _ rfl rfl rfl).2
    refine grow_call (vs := #[.agg #[.slice X1 3 3, .slice Y1 3 3, .int .i64 0, .int .i64 2], .agg #[.slice S10 RW0.a.s.length z10_1, .slice N10 RW0.a.n.length z10_2, .slice G10 RW0.a.g.length z10_3, .slice D10 RW0.d.length z10_4, .slice T10 RW0.t.length z10_5], .agg #[.int .u8 1, .int .i64 0, .int .i64 2]]) rfl rfl (by simp [b1, b2, b3]) Try.call22 ((H8.out X1 Y1 S10 N10 G10 D10 T10 z10_1 z10_2 z10_3 z10_4 z10_5 w9 rx ry (rw10.keep hb9)).mono ?_)
    rintro e w' ⟨S7, N7, G7, D7, T7, u1, u2, u3, u4, u5, rfl, rw7, hb7⟩
    exact ⟨_, rfl, hK _ _ hb7 ⟨S7, N7, G7, D7, T7, u1, u2, u3, u4, u5, rfl, rw7⟩⟩
   ·refine MidOk.grow ?_ (by decide) rfl
    intro val a w9 hb9 hdep hold K hK
    obtain ⟨b1, S7, N7, G7, D7, T7, u1, u2, u3, u4, u5, h1, rw7⟩ := hdep 3 133 _ rfl rfl rfl
    replace b1 := ev_tmps (b1.trans h1)
    clear hdep hold h1
    go_simp
    exact hK _ _ (Below.refl _ _) ⟨S7, N7, G7, D7, T7, u1, u2, u3, u4, u5, rfl, rw7⟩
   ·refine MidOk.grow ?_ (by decide) rfl
    intro val a w9 hb9 hdep hold K hK
    obtain ⟨b1, S7, N7, G7, D7, T7, u1, u2, u3, u4, u5, h1, rw7⟩ := hdep 4 129 _ rfl rfl rfl
    replace b1 := ev_tmps (b1.trans h1)
    clear hdep hold h1
    go_simp
    exact hK _ _ (Below.refl _ _) ⟨S7, N7, G7, D7, T7, u1, u2, u3, u4, u5, rfl, rw7⟩
   ·refine MidOk.both ?_ ?_ (by decide)
    ·intro val a w9 hb9 hdep hold K hK
     obtain ⟨b1, S7, N7, G7, D7, T7, u1, u2, u3, u4, u5, h1, rw7⟩ := hdep 4 129 _ rfl rfl rfl
     replace b1 := ev_tmps (b1.trans h1)
     clear hdep hold h1
     go_simp
     exact hK _ _ (Below.refl _ _) rfl
    ·intro val a w9 hdep hold K hK
     obtain ⟨b1, y9, h1⟩ := hdep 4 129 _ rfl rfl rfl
     replace b1 := ev_tmps (b1.trans h1)
     clear hdep hold h1
     go_simp
     exact hK _ rfl
   ·refine MidOk.grow ?_ (by decide) rfl
    intro val a w9 hb9 hdep hold K hK
    have hs9 := hb9.size
    clear hdep hold
    go_simp
    exact hK _ _ (balloc (Below.refl _ _) _) ⟨_, rfl, hs9, Blk.new _ _ _⟩
   ·refine MidOk.store ?_ rfl
    intro val a w9 hb9 hall hdep hold K hK
    obtain ⟨g, h2, hg, hkG⟩ := hall 7 (by decide) (by decide) rfl
    obtain ⟨S7, N7, G7, D7, T7, u1, u2, u3, u4, u5, h1, rw7⟩ := hall 5 (by decide) (by decide) rfl
    simp only at hg h1 rw7
    have b1 := ev_tmps ((hdep 7 14 _ rfl rfl (by decide) rfl).trans h2)
    have b2 := ev_tmps ((hdep 5 134 _ rfl rfl (by decide) rfl).trans h1)
    have hFa := hK undef
    clear hall hdep hold hK h1
    have q0 : World.cell? w9 ⟨g, 0, none⟩ = some (.slice none 0 0) := hkG.cell 0
    have f0 := hkG.frozen 0
    have q1 : World.cell? w9 ⟨g, 1, none⟩ = some (.slice none 0 0) := hkG.cell 1
    have f1 := hkG.frozen 1
    have q2 : World.cell? w9 ⟨g, 2, none⟩ = some (.slice none 0 0) := hkG.cell 2
    have f2 := hkG.frozen 2
    have q3 : World.cell? w9 ⟨g, 3, none⟩ = some (.slice none 0 0) := hkG.cell 3
    have f3 := hkG.frozen 3
    have q4 : World.cell? w9 ⟨g, 4, none⟩ = some (.slice none 0 0) := hkG.cell 4
    have f4 := hkG.frozen 4
    have fl := hkG.lt
    go_simp
    refine hFa _ ⟨g, S7, N7, G7, D7, T7, u1, u2, u3, u4, u5, by rw [upd_ne _ (by decide)]; exact h2, hg, (rw7.put5 hkG).2, (rw7.put5 hkG).1, ((((hb9.setCell (p := ⟨g, 0, none⟩) hg _).setCell (p := ⟨g, 1, none⟩) hg _).setCell (p := ⟨g, 2, none⟩) hg _).setCell (p := ⟨g, 3, none⟩) hg _).setCell (p := ⟨g, 4, none⟩) hg _⟩ trivial
   ·refine MidOk.both ?_ ?_ (by decide)
    ·intro val a w9 hb9 hdep hold K hK
     have b1 : a.tmps[135]?.getD undef = .int .i64 2 := ev_tmps ((hdep 6 135 _ rfl rfl rfl).1.trans (hdep 6 135 _ rfl rfl rfl).2)
     clear hdep hold
     go_simp
     exact hK _ _ (Below.refl _ _) rfl
    ·intro val a w9 hdep hold K hK
     have b1 : a.tmps[135]?.getD undef = .int .i64 2 := ev_tmps ((hdep 6 135 _ rfl rfl rfl).1.trans (hdep 6 135 _ rfl rfl rfl).2)
     clear hdep hold
     go_simp
     exact hK _ rfl
   ·rintro val w' ⟨g, S7, N7, G7, D7, T7, u1, u2, u3, u4, u5, h10, hg, hkG, rw7, hb7⟩ hP
    have h12 : val 9 = .int .i64 2 := hP 9 (by decide)
    clear hP
    simp only [putL, Act.put, List.setIfInBounds_toArray, List.set_cons_zero, List.set_cons_succ, h10, h12]
    go_wp2_with fail
    go_meet
    exact ⟨g, S7, N7, G7, D7, T7, u1, u2, u3, u4, u5, rfl, rfl, hkG, rw7, hb7, hg⟩
 case rest => as_aux_lemma =>
 obtain ⟨g7, S7, N7, G7, D7, T7, u1, u2, u3, u4, u5, rfl, rfl, hk7, rw7, hb7, hg7⟩ := hcut
 obtain ⟨W9, rfl⟩ : ∃ W9, W9 = wc := ⟨_, rfl⟩
 replace hB := bstep hB hb7
 replace hk10 := hk10.keep hb7
 replace rw10 := rw10.keep hb7
 clear hb7 hg7 hk7 rw7
 go_upto_region 9 with (fail)
 go_cut [16, 17] from 136 to 136 (fun sa sb wc => ∃ (g : Nat) (S7 N7 G7 D7 T7 : Option Addr) (u1 u2 u3 u4 u5 : Nat), sa = .pointer (some ⟨g, 0, none⟩) ∧ sb = .int .i64 2 ∧ Blk wc g 42 #[.slice S7 R00.a.s.length u1, .slice N7 R00.a.n.length u2, .slice G7 R00.a.g.length u3, .slice D7 R00.d.length u4, .slice T7 R00.t.length u5] ∧ RW wc S7 N7 G7 D7 T7 R00 ∧ Below W9.heap.size W9 wc ∧ W9.heap.size ≤ g)
 case first =>
  as_aux_lemma =>
   refine wp_region_mid (by kernel_rfl) (by kernel_rfl) (by kernel_rfl) (NmP.F ⟨.agg #[.slice S10 RW0.a.s.length z10_1, .slice N10 RW0.a.n.length z10_2, .slice G10 RW0.a.g.length z10_3, .slice D10 RW0.d.length z10_4, .slice T10 RW0.t.length z10_5], .agg #[.int .u8 1, .int .i64 1, .int .i64 0], R00, 2, W9.heap.size⟩) (NmP.P ⟨.agg #[.slice S10 RW0.a.s.length z10_1, .slice N10 RW0.a.n.length z10_2, .slice G10 RW0.a.g.length z10_3, .slice D10 RW0.d.length z10_4, .slice T10 RW0.t.length z10_5], .agg #[.int .u8 1, .int .i64 1, .int .i64 0], R00, 2, W9.heap.size⟩) 8 (NmP.E ⟨.agg #[.slice S10 RW0.a.s.length z10_1, .slice N10 RW0.a.n.length z10_2, .slice G10 RW0.a.g.length z10_3, .slice D10 RW0.d.length z10_4, .slice T10 RW0.t.length z10_5], .agg #[.int .u8 1, .int .i64 1, .int .i64 0], R00, 2, W9.heap.size⟩ W9) (fun i => i == 6 || i == 9) (by kernel_rfl) (NmP.keep _) (NmP.val _) (NmP.upd _ _) ⟨?_, ?_, ?_, ?_, ?_, ?_, ?_, ?_, ?_, ?_, trivial⟩ ?_
   ·refine MidOk.grow ?_ (by decide) rfl
    intro val a w9 hb9 hdep hold K hK
    refine grow_call (vs := #[]) rfl rfl (by simp) Try.call33 ((given_any w9).mono ?_)
    rintro e w' ⟨X1, Y1, rfl, rx, ry, hb7⟩
    exact ⟨_, rfl, hK _ _ hb7 ⟨X1, Y1, rfl, rx, ry⟩⟩
   ·refine MidOk.grow ?_ (by decide) rfl
    intro val a w9 hb9 hdep hold K hK
    have b1 : a.tmps[10]?.getD undef = .pointer (some ⟨g10, 0, none⟩) := ev_tmps ((hold 10 (by rfl)).trans (by rfl))
    have hkr := hk10.keep hb9
    have p0 : World.cell? w9 ⟨g10, 0, none⟩ = some (.slice S10 RW0.a.s.length z10_1) := hkr.cell 0
    have g0 := hkr.frozen 0
    have p1 : World.cell? w9 ⟨g10, 1, none⟩ = some (.slice N10 RW0.a.n.length z10_2) := hkr.cell 1
    have g1 := hkr.frozen 1
    have p2 : World.cell? w9 ⟨g10, 2, none⟩ = some (.slice G10 RW0.a.g.length z10_3) := hkr.cell 2
    have g2 := hkr.frozen 2
    have p3 : World.cell? w9 ⟨g10, 3, none⟩ = some (.slice D10 RW0.d.length z10_4) := hkr.cell 3
    have g3 := hkr.frozen 3
    have p4 : World.cell? w9 ⟨g10, 4, none⟩ = some (.slice T10 RW0.t.length z10_5) := hkr.cell 4
    have g4 := hkr.frozen 4
    have gl := hkr.lt
    clear hdep hold
    go_simp
    exact hK _ _ (Below.refl _ _) rfl
   ·refine MidOk.grow ?_ (by decide) rfl
    intro val a w9 hb9 hdep hold K hK
    clear hdep hold
    go_simp
    exact hK _ _ (Below.refl _ _) rfl
   ·refine MidOk.grow ?_ (by decide) rfl
    intro val a w9 hb9 hdep hold K hK
    obtain ⟨b1, X1, Y1, h1, rx, ry⟩ := hdep 0 137 _ rfl rfl rfl
    replace b1 := b1.trans h1
    have b2 := (hdep 1 138 _ rfl rfl rfl).1.trans (hdep 1 138 _ rfl rfl rfl).2
    have b3 := (hdep 2 139 _ rfl rfl rfl).1.trans (hdep 2 139 _ rfl rfl rfl).2
    refine grow_call (vs := #[.agg #[.slice X1 3 3, .slice Y1 3 3, .int .i64 0, .int .i64 2], .agg #[.slice S10 RW0.a.s.length z10_1, .slice N10 RW0.a.n.length z10_2, .slice G10 RW0.a.g.length z10_3, .slice D10 RW0.d.length z10_4, .slice T10 RW0.t.length z10_5], .agg #[.int .u8 1, .int .i64 1, .int .i64 0]]) rfl rfl (by simp [b1, b2, b3]) Try.call22 ((H9.out X1 Y1 S10 N10 G10 D10 T10 z10_1 z10_2 z10_3 z10_4 z10_5 w9 rx ry (rw10.keep hb9)).mono ?_)
    rintro e w' ⟨S7, N7, G7, D7, T7, u1, u2, u3, u4, u5, rfl, rw7, hb7⟩
    exact ⟨_, rfl, hK _ _ hb7 ⟨S7, N7, G7, D7, T7, u1, u2, u3, u4, u5, rfl, rw7⟩⟩
   ·refine MidOk.grow ?_ (by decide) rfl
    intro val a w9 hb9 hdep hold K hK
    obtain ⟨b1, S7, N7, G7, D7, T7, u1, u2, u3, u4, u5, h1, rw7⟩ := hdep 3 140 _ rfl rfl rfl
    replace b1 := ev_tmps (b1.trans h1)
    clear hdep hold h1
    go_simp
    exact hK _ _ (Below.refl _ _) ⟨S7, N7, G7, D7, T7, u1, u2, u3, u4, u5, rfl, rw7⟩
   ·refine MidOk.grow ?_ (by decide) rfl
    intro val a w9 hb9 hdep hold K hK
    obtain ⟨b1, S7, N7, G7, D7, T7, u1, u2, u3, u4, u5, h1, rw7⟩ := hdep 4 136 _ rfl rfl rfl
    replace b1 := ev_tmps (b1.trans h1)
    clear hdep hold h1
    go_simp
    exact hK _ _ (Below.refl _ _) ⟨S7, N7, G7, D7, T7, u1, u2, u3, u4, u5, rfl, rw7⟩
   ·refine MidOk.both ?_ ?_ (by decide)
    ·intro val a w9 hb9 hdep hold K hK
     obtain ⟨b1, S7, N7, G7, D7, T7, u1, u2, u3, u4, u5, h1, rw7⟩ := hdep 4 136 _ rfl rfl rfl
     replace b1 := ev_tmps (b1.trans h1)
     clear hdep hold h1
     go_simp
     exact hK _ _ (Below.refl _ _) rfl
    ·intro val a w9 hdep hold K hK
     obtain ⟨b1, y9, h1⟩ := hdep 4 136 _ rfl rfl rfl
     replace b1 := ev_tmps (b1.trans h1)
     clear hdep hold h1
     go_simp
     exact hK _ rfl
   ·refine MidOk.grow ?_ (by decide) rfl
    intro val a w9 hb9 hdep hold K hK
    have hs9 := hb9.size
    clear hdep hold
    go_simp
    exact hK _ _ (balloc (Below.refl _ _) _) ⟨_, rfl, hs9, Blk.new _ _ _⟩
   ·refine MidOk.store ?_ rfl
    intro val a w9 hb9 hall hdep hold K hK
    obtain ⟨g, h2, hg, hkG⟩ := hall 7 (by decide) (by decide) rfl
    obtain ⟨S7, N7, G7, D7, T7, u1, u2, u3, u4, u5, h1, rw7⟩ := hall 5 (by decide) (by decide) rfl
    simp only at hg h1 rw7
    have b1 := ev_tmps ((hdep 7 16 _ rfl rfl (by decide) rfl).trans h2)
    have b2 := ev_tmps ((hdep 5 141 _ rfl rfl (by decide) rfl).trans h1)
    have hFa := hK undef
    clear hall hdep hold hK h1
    have q0 : World.cell? w9 ⟨g, 0, none⟩ = some (.slice none 0 0) := hkG.cell 0
    have f0 := hkG.frozen 0
    have q1 : World.cell? w9 ⟨g, 1, none⟩ = some (.slice none 0 0) := hkG.cell 1
    have f1 := hkG.frozen 1
    have q2 : World.cell? w9 ⟨g, 2, none⟩ = some (.slice none 0 0) := hkG.cell 2
    have f2 := hkG.frozen 2
    have q3 : World.cell? w9 ⟨g, 3, none⟩ = some (.slice none 0 0) := hkG.cell 3
    have f3 := hkG.frozen 3
    have q4 : World.cell? w9 ⟨g, 4, none⟩ = some (.slice none 0 0) := hkG.cell 4
    have f4 := hkG.frozen 4
    have fl := hkG.lt
    go_simp
    refine hFa _ ⟨g, S7, N7, G7, D7, T7, u1, u2, u3, u4, u5, by rw [upd_ne _ (by decide)]; exact h2, hg, (rw7.put5 hkG).2, (rw7.put5 hkG).1, ((((hb9.setCell (p := ⟨g, 0, none⟩) hg _).setCell (p := ⟨g, 1, none⟩) hg _).setCell (p := ⟨g, 2, none⟩) hg _).setCell (p := ⟨g, 3, none⟩) hg _).setCell (p := ⟨g, 4, none⟩) hg _⟩ trivial
   ·refine MidOk.both ?_ ?_ (by decide)
    ·intro val a w9 hb9 hdep hold K hK
     have b1 : a.tmps[142]?.getD undef = .int .i64 2 := ev_tmps ((hdep 6 142 _ rfl rfl rfl).1.trans (hdep 6 142 _ rfl rfl rfl).2)
     clear hdep hold
     go_simp
     exact hK _ _ (Below.refl _ _) rfl
    ·intro val a w9 hdep hold K hK
     have b1 : a.tmps[142]?.getD undef = .int .i64 2 := ev_tmps ((hdep 6 142 _ rfl rfl rfl).1.trans (hdep 6 142 _ rfl rfl rfl).2)
     clear hdep hold
     go_simp
     exact hK _ rfl
   ·rintro val w' ⟨g, S7, N7, G7, D7, T7, u1, u2, u3, u4, u5, h10, hg, hkG, rw7, hb7⟩ hP
    have h12 : val 9 = .int .i64 2 := hP 9 (by decide)
    clear hP
    simp only [putL, Act.put, List.setIfInBounds_toArray, List.set_cons_zero, List.set_cons_succ, h10, h12]
    go_wp2_with fail
    go_meet
    exact ⟨g, S7, N7, G7, D7, T7, u1, u2, u3, u4, u5, rfl, rfl, hkG, rw7, hb7, hg⟩
 case rest => as_aux_lemma =>
 obtain ⟨g7, S7, N7, G7, D7, T7, u1, u2, u3, u4, u5, rfl, rfl, hk7, rw7, hb7, hg7⟩ := hcut
 obtain ⟨W10, rfl⟩ : ∃ W10, W10 = wc := ⟨_, rfl⟩
 replace hB := bstep hB hb7
 replace hk10 := hk10.keep hb7
 replace rw10 := rw10.keep hb7
 clear hb7 hg7 hk7 rw7
 go_upto_region 10 with (fail)
 go_cut [18, 19] from 143 to 143 (fun sa sb wc => ∃ (g : Nat) (S7 N7 G7 D7 T7 : Option Addr) (u1 u2 u3 u4 u5 : Nat), sa = .pointer (some ⟨g, 0, none⟩) ∧ sb = .int .i64 2 ∧ Blk wc g 42 #[.slice S7 R00.a.s.length u1, .slice N7 R00.a.n.length u2, .slice G7 R00.a.g.length u3, .slice D7 R00.d.length u4, .slice T7 R00.t.length u5] ∧ RW wc S7 N7 G7 D7 T7 R00 ∧ Below W10.heap.size W10 wc ∧ W10.heap.size ≤ g)
 case first =>
  as_aux_lemma =>
   refine wp_region_mid (by kernel_rfl) (by kernel_rfl) (by kernel_rfl) (NmP.F ⟨.agg #[.slice S10 RW0.a.s.length z10_1, .slice N10 RW0.a.n.length z10_2, .slice G10 RW0.a.g.length z10_3, .slice D10 RW0.d.length z10_4, .slice T10 RW0.t.length z10_5], .agg #[.int .u8 4, .int .i64 1, .int .i64 0], R00, 2, W10.heap.size⟩) (NmP.P ⟨.agg #[.slice S10 RW0.a.s.length z10_1, .slice N10 RW0.a.n.length z10_2, .slice G10 RW0.a.g.length z10_3, .slice D10 RW0.d.length z10_4, .slice T10 RW0.t.length z10_5], .agg #[.int .u8 4, .int .i64 1, .int .i64 0], R00, 2, W10.heap.size⟩) 8 (NmP.E ⟨.agg #[.slice S10 RW0.a.s.length z10_1, .slice N10 RW0.a.n.length z10_2, .slice G10 RW0.a.g.length z10_3, .slice D10 RW0.d.length z10_4, .slice T10 RW0.t.length z10_5], .agg #[.int .u8 4, .int .i64 1, .int .i64 0], R00, 2, W10.heap.size⟩ W10) (fun i => i == 6 || i == 9) (by kernel_rfl) (NmP.keep _) (NmP.val _) (NmP.upd _ _) ⟨?_, ?_, ?_, ?_, ?_, ?_, ?_, ?_, ?_, ?_, trivial⟩ ?_
   ·refine MidOk.grow ?_ (by decide) rfl
    intro val a w9 hb9 hdep hold K hK
    refine grow_call (vs := #[]) rfl rfl (by simp) Try.call33 ((given_any w9).mono ?_)
    rintro e w' ⟨X1, Y1, rfl, rx, ry, hb7⟩
    exact ⟨_, rfl, hK _ _ hb7 ⟨X1, Y1, rfl, rx, ry⟩⟩
   ·refine MidOk.grow ?_ (by decide) rfl
    intro val a w9 hb9 hdep hold K hK
    have b1 : a.tmps[10]?.getD undef = .pointer (some ⟨g10, 0, none⟩) := ev_tmps ((hold 10 (by rfl)).trans (by rfl))
    have hkr := hk10.keep hb9
    have p0 : World.cell? w9 ⟨g10, 0, none⟩ = some (.slice S10 RW0.a.s.length z10_1) := hkr.cell 0
    have g0 := hkr.frozen 0
    have p1 : World.cell? w9 ⟨g10, 1, none⟩ = some (.slice N10 RW0.a.n.length z10_2) := hkr.cell 1
    have g1 := hkr.frozen 1
    have p2 : World.cell? w9 ⟨g10, 2, none⟩ = some (.slice G10 RW0.a.g.length z10_3) := hkr.cell 2
    have g2 := hkr.frozen 2
    have p3 : World.cell? w9 ⟨g10, 3, none⟩ = some (.slice D10 RW0.d.length z10_4) := hkr.cell 3
    have g3 := hkr.frozen 3
    have p4 : World.cell? w9 ⟨g10, 4, none⟩ = some (.slice T10 RW0.t.length z10_5) := hkr.cell 4
    have g4 := hkr.frozen 4
    have gl := hkr.lt
    clear hdep hold
    go_simp
    exact hK _ _ (Below.refl _ _) rfl
   ·refine MidOk.grow ?_ (by decide) rfl
    intro val a w9 hb9 hdep hold K hK
    clear hdep hold
    go_simp
    exact hK _ _ (Below.refl _ _) rfl
   ·refine MidOk.grow ?_ (by decide) rfl
    intro val a w9 hb9 hdep hold K hK
    obtain ⟨b1, X1, Y1, h1, rx, ry⟩ := hdep 0 144 _ rfl rfl rfl
    replace b1 := b1.trans h1
    have b2 := (hdep 1 145 _ rfl rfl rfl).1.trans (hdep 1 145 _ rfl rfl rfl).2
    have b3 := (hdep 2 146 _ rfl rfl rfl).1.trans (hdep 2 146 _ rfl rfl rfl).2
    refine grow_call (vs := #[.agg #[.slice X1 3 3, .slice Y1 3 3, .int .i64 0, .int .i64 2], .agg #[.slice S10 RW0.a.s.length z10_1, .slice N10 RW0.a.n.length z10_2, .slice G10 RW0.a.g.length z10_3, .slice D10 RW0.d.length z10_4, .slice T10 RW0.t.length z10_5], .agg #[.int .u8 4, .int .i64 1, .int .i64 0]]) rfl rfl (by simp [b1, b2, b3]) Try.call22 ((H10.out X1 Y1 S10 N10 G10 D10 T10 z10_1 z10_2 z10_3 z10_4 z10_5 w9 rx ry (rw10.keep hb9)).mono ?_)
    rintro e w' ⟨S7, N7, G7, D7, T7, u1, u2, u3, u4, u5, rfl, rw7, hb7⟩
    exact ⟨_, rfl, hK _ _ hb7 ⟨S7, N7, G7, D7, T7, u1, u2, u3, u4, u5, rfl, rw7⟩⟩
   ·refine MidOk.grow ?_ (by decide) rfl
    intro val a w9 hb9 hdep hold K hK
    obtain ⟨b1, S7, N7, G7, D7, T7, u1, u2, u3, u4, u5, h1, rw7⟩ := hdep 3 147 _ rfl rfl rfl
    replace b1 := ev_tmps (b1.trans h1)
    clear hdep hold h1
    go_simp
    exact hK _ _ (Below.refl _ _) ⟨S7, N7, G7, D7, T7, u1, u2, u3, u4, u5, rfl, rw7⟩
   ·refine MidOk.grow ?_ (by decide) rfl
    intro val a w9 hb9 hdep hold K hK
    obtain ⟨b1, S7, N7, G7, D7, T7, u1, u2, u3, u4, u5, h1, rw7⟩ := hdep 4 143 _ rfl rfl rfl
    replace b1 := ev_tmps (b1.trans h1)
    clear hdep hold h1
    go_simp
    exact hK _ _ (Below.refl _ _) ⟨S7, N7, G7, D7, T7, u1, u2, u3, u4, u5, rfl, rw7⟩
   ·refine MidOk.both ?_ ?_ (by decide)
    ·intro val a w9 hb9 hdep hold K hK
     obtain ⟨b1, S7, N7, G7, D7, T7, u1, u2, u3, u4, u5, h1, rw7⟩ := hdep 4 143 _ rfl rfl rfl
     replace b1 := ev_tmps (b1.trans h1)
     clear hdep hold h1
     go_simp
     exact hK _ _ (Below.refl _ _) rfl
    ·intro val a w9 hdep hold K hK
     obtain ⟨b1, y9, h1⟩ := hdep 4 143 _ rfl rfl rfl
     replace b1 := ev_tmps (b1.trans h1)
     clear hdep hold h1
     go_simp
     exact hK _ rfl
   ·refine MidOk.grow ?_ (by decide) rfl
    intro val a w9 hb9 hdep hold K hK
    have hs9 := hb9.size
    clear hdep hold
    go_simp
    exact hK _ _ (balloc (Below.refl _ _) _) ⟨_, rfl, hs9, Blk.new _ _ _⟩
   ·refine MidOk.store ?_ rfl
    intro val a w9 hb9 hall hdep hold K hK
    obtain ⟨g, h2, hg, hkG⟩ := hall 7 (by decide) (by decide) rfl
    obtain ⟨S7, N7, G7, D7, T7, u1, u2, u3, u4, u5, h1, rw7⟩ := hall 5 (by decide) (by decide) rfl
    simp only at hg h1 rw7
    have b1 := ev_tmps ((hdep 7 18 _ rfl rfl (by decide) rfl).trans h2)
    have b2 := ev_tmps ((hdep 5 148 _ rfl rfl (by decide) rfl).trans h1)
    have hFa := hK undef
    clear hall hdep hold hK h1
    have q0 : World.cell? w9 ⟨g, 0, none⟩ = some (.slice none 0 0) := hkG.cell 0
    have f0 := hkG.frozen 0
    have q1 : World.cell? w9 ⟨g, 1, none⟩ = some (.slice none 0 0) := hkG.cell 1
    have f1 := hkG.frozen 1
    have q2 : World.cell? w9 ⟨g, 2, none⟩ = some (.slice none 0 0) := hkG.cell 2
    have f2 := hkG.frozen 2
    have q3 : World.cell? w9 ⟨g, 3, none⟩ = some (.slice none 0 0) := hkG.cell 3
    have f3 := hkG.frozen 3
    have q4 : World.cell? w9 ⟨g, 4, none⟩ = some (.slice none 0 0) := hkG.cell 4
    have f4 := hkG.frozen 4
    have fl := hkG.lt
    go_simp
    refine hFa _ ⟨g, S7, N7, G7, D7, T7, u1, u2, u3, u4, u5, by rw [upd_ne _ (by decide)]; exact h2, hg, (rw7.put5 hkG).2, (rw7.put5 hkG).1, ((((hb9.setCell (p := ⟨g, 0, none⟩) hg _).setCell (p := ⟨g, 1, none⟩) hg _).setCell (p := ⟨g, 2, none⟩) hg _).setCell (p := ⟨g, 3, none⟩) hg _).setCell (p := ⟨g, 4, none⟩) hg _⟩ trivial
   ·refine MidOk.both ?_ ?_ (by decide)
    ·intro val a w9 hb9 hdep hold K hK
     have b1 : a.tmps[149]?.getD undef = .int .i64 2 := ev_tmps ((hdep 6 149 _ rfl rfl rfl).1.trans (hdep 6 149 _ rfl rfl rfl).2)
     clear hdep hold
     go_simp
     exact hK _ _ (Below.refl _ _) rfl
    ·intro val a w9 hdep hold K hK
     have b1 : a.tmps[149]?.getD undef = .int .i64 2 := ev_tmps ((hdep 6 149 _ rfl rfl rfl).1.trans (hdep 6 149 _ rfl rfl rfl).2)
     clear hdep hold
     go_simp
     exact hK _ rfl
   ·rintro val w' ⟨g, S7, N7, G7, D7, T7, u1, u2, u3, u4, u5, h10, hg, hkG, rw7, hb7⟩ hP
    have h12 : val 9 = .int .i64 2 := hP 9 (by decide)
    clear hP
    simp only [putL, Act.put, List.setIfInBounds_toArray, List.set_cons_zero, List.set_cons_succ, h10, h12]
    go_wp2_with fail
    go_meet
    exact ⟨g, S7, N7, G7, D7, T7, u1, u2, u3, u4, u5, rfl, rfl, hkG, rw7, hb7, hg⟩
 case rest => as_aux_lemma =>
 obtain ⟨g7, S7, N7, G7, D7, T7, u1, u2, u3, u4, u5, rfl, rfl, hk7, rw7, hb7, hg7⟩ := hcut
 obtain ⟨W11, rfl⟩ : ∃ W11, W11 = wc := ⟨_, rfl⟩
 replace hB := bstep hB hb7
 replace hk10 := hk10.keep hb7
 replace rw10 := rw10.keep hb7
 clear hb7 hg7 hk7 rw7
 go_upto_region 11 with (fail)
 go_cut [20, 21] from 150 to 150 (fun sa sb wc => ∃ (g : Nat) (S7 N7 G7 D7 T7 : Option Addr) (u1 u2 u3 u4 u5 : Nat), sa = .pointer (some ⟨g, 0, none⟩) ∧ sb = .int .i64 2 ∧ Blk wc g 42 #[.slice S7 R00.a.s.length u1, .slice N7 R00.a.n.length u2, .slice G7 R00.a.g.length u3, .slice D7 R00.d.length u4, .slice T7 R00.t.length u5] ∧ RW wc S7 N7 G7 D7 T7 R00 ∧ Below W11.heap.size W11 wc ∧ W11.heap.size ≤ g)
 case first =>
  as_aux_lemma =>
   refine wp_region_mid (by kernel_rfl) (by kernel_rfl) (by kernel_rfl) (NmP.F ⟨.agg #[.slice S10 RW0.a.s.length z10_1, .slice N10 RW0.a.n.length z10_2, .slice G10 RW0.a.g.length z10_3, .slice D10 RW0.d.length z10_4, .slice T10 RW0.t.length z10_5], .agg #[.int .u8 0, .int .i64 0, .int .i64 0], R00, 2, W11.heap.size⟩) (NmP.P ⟨.agg #[.slice S10 RW0.a.s.length z10_1, .slice N10 RW0.a.n.length z10_2, .slice G10 RW0.a.g.length z10_3, .slice D10 RW0.d.length z10_4, .slice T10 RW0.t.length z10_5], .agg #[.int .u8 0, .int .i64 0, .int .i64 0], R00, 2, W11.heap.size⟩) 8 (NmP.E ⟨.agg #[.slice S10 RW0.a.s.length z10_1, .slice N10 RW0.a.n.length z10_2, .slice G10 RW0.a.g.length z10_3, .slice D10 RW0.d.length z10_4, .slice T10 RW0.t.length z10_5], .agg #[.int .u8 0, .int .i64 0, .int .i64 0], R00, 2, W11.heap.size⟩ W11) (fun i => i == 6 || i == 9) (by kernel_rfl) (NmP.keep _) (NmP.val _) (NmP.upd _ _) ⟨?_, ?_, ?_, ?_, ?_, ?_, ?_, ?_, ?_, ?_, trivial⟩ ?_
   ·refine MidOk.grow ?_ (by decide) rfl
    intro val a w9 hb9 hdep hold K hK
    refine grow_call (vs := #[]) rfl rfl (by simp) Try.call33 ((given_any w9).mono ?_)
    rintro e w' ⟨X1, Y1, rfl, rx, ry, hb7⟩
    exact ⟨_, rfl, hK _ _ hb7 ⟨X1, Y1, rfl, rx, ry⟩⟩
   ·refine MidOk.grow ?_ (by decide) rfl
    intro val a w9 hb9 hdep hold K hK
    have b1 : a.tmps[10]?.getD undef = .pointer (some ⟨g10, 0, none⟩) := ev_tmps ((hold 10 (by rfl)).trans (by rfl))
    have hkr := hk10.keep hb9
    have p0 : World.cell? w9 ⟨g10, 0, none⟩ = some (.slice S10 RW0.a.s.length z10_1) := hkr.cell 0
    have g0 := hkr.frozen 0
    have p1 : World.cell? w9 ⟨g10, 1, none⟩ = some (.slice N10 RW0.a.n.length z10_2) := hkr.cell 1
    have g1 := hkr.frozen 1
    have p2 : World.cell? w9 ⟨g10, 2, none⟩ = some (.slice G10 RW0.a.g.length z10_3) := hkr.cell 2
    have g2 := hkr.frozen 2
    have p3 : World.cell? w9 ⟨g10, 3, none⟩ = some (.slice D10 RW0.d.length z10_4) := hkr.cell 3
    have g3 := hkr.frozen 3
    have p4 : World.cell? w9 ⟨g10, 4, none⟩ = some (.slice T10 RW0.t.length z10_5) := hkr.cell 4
    have g4 := hkr.frozen 4
    have gl := hkr.lt
    clear hdep hold
    go_simp
    exact hK _ _ (Below.refl _ _) rfl
   ·refine MidOk.grow ?_ (by decide) rfl
    intro val a w9 hb9 hdep hold K hK
    clear hdep hold
    go_simp
    exact hK _ _ (Below.refl _ _) rfl
   ·refine MidOk.grow ?_ (by decide) rfl
    intro val a w9 hb9 hdep hold K hK
    obtain ⟨b1, X1, Y1, h1, rx, ry⟩ := hdep 0 151 _ rfl rfl rfl
    replace b1 := b1.trans h1
    have b2 := (hdep 1 152 _ rfl rfl rfl).1.trans (hdep 1 152 _ rfl rfl rfl).2
    have b3 := (hdep 2 153 _ rfl rfl rfl).1.trans (hdep 2 153 _ rfl rfl rfl).2
    refine grow_call (vs := #[.agg #[.slice X1 3 3, .slice Y1 3 3, .int .i64 0, .int .i64 2], .agg #[.slice S10 RW0.a.s.length z10_1, .slice N10 RW0.a.n.length z10_2, .slice G10 RW0.a.g.length z10_3, .slice D10 RW0.d.length z10_4, .slice T10 RW0.t.length z10_5], .agg #[.int .u8 0, .int .i64 0, .int .i64 0]]) rfl rfl (by simp [b1, b2, b3]) Try.call22 ((H11.out X1 Y1 S10 N10 G10 D10 T10 z10_1 z10_2 z10_3 z10_4 z10_5 w9 rx ry (rw10.keep hb9)).mono ?_)
    rintro e w' ⟨S7, N7, G7, D7, T7, u1, u2, u3, u4, u5, rfl, rw7, hb7⟩
    exact ⟨_, rfl, hK _ _ hb7 ⟨S7, N7, G7, D7, T7, u1, u2, u3, u4, u5, rfl, rw7⟩⟩
   ·refine MidOk.grow ?_ (by decide) rfl
    intro val a w9 hb9 hdep hold K hK
    obtain ⟨b1, S7, N7, G7, D7, T7, u1, u2, u3, u4, u5, h1, rw7⟩ := hdep 3 154 _ rfl rfl rfl
    replace b1 := ev_tmps (b1.trans h1)
    clear hdep hold h1
    go_simp
    exact hK _ _ (Below.refl _ _) ⟨S7, N7, G7, D7, T7, u1, u2, u3, u4, u5, rfl, rw7⟩
   ·refine MidOk.grow ?_ (by decide) rfl
    intro val a w9 hb9 hdep hold K hK
    obtain ⟨b1, S7, N7, G7, D7, T7, u1, u2, u3, u4, u5, h1, rw7⟩ := hdep 4 150 _ rfl rfl rfl
    replace b1 := ev_tmps (b1.trans h1)
    clear hdep hold h1
    go_simp
    exact hK _ _ (Below.refl _ _) ⟨S7, N7, G7, D7, T7, u1, u2, u3, u4, u5, rfl, rw7⟩
   ·refine MidOk.both ?_ ?_ (by decide)
    ·intro val a w9 hb9 hdep hold K hK
     obtain ⟨b1, S7, N7, G7, D7, T7, u1, u2, u3, u4, u5, h1, rw7⟩ := hdep 4 150 _ rfl rfl rfl
     replace b1 := ev_tmps (b1.trans h1)
     clear hdep hold h1
     go_simp
     exact hK _ _ (Below.refl _ _) rfl
    ·intro val a w9 hdep hold K hK
     obtain ⟨b1, y9, h1⟩ := hdep 4 150 _ rfl rfl rfl
     replace b1 := ev_tmps (b1.trans h1)
     clear hdep hold h1
     go_simp
     exact hK _ rfl
   ·refine MidOk.grow ?_ (by decide) rfl
    intro val a w9 hb9 hdep hold K hK
    have hs9 := hb9.size
    clear hdep hold
    go_simp
    exact hK _ _ (balloc (Below.refl _ _) _) ⟨_, rfl, hs9, Blk.new _ _ _⟩
   ·refine MidOk.store ?_ rfl
    intro val a w9 hb9 hall hdep hold K hK
    obtain ⟨g, h2, hg, hkG⟩ := hall 7 (by decide) (by decide) rfl
    obtain ⟨S7, N7, G7, D7, T7, u1, u2, u3, u4, u5, h1, rw7⟩ := hall 5 (by decide) (by decide) rfl
    simp only at hg h1 rw7
    have b1 := ev_tmps ((hdep 7 20 _ rfl rfl (by decide) rfl).trans h2)
    have b2 := ev_tmps ((hdep 5 155 _ rfl rfl (by decide) rfl).trans h1)
    have hFa := hK undef
    clear hall hdep hold hK h1
    have q0 : World.cell? w9 ⟨g, 0, none⟩ = some (.slice none 0 0) := hkG.cell 0
    have f0 := hkG.frozen 0
    have q1 : World.cell? w9 ⟨g, 1, none⟩ = some (.slice none 0 0) := hkG.cell 1
    have f1 := hkG.frozen 1
    have q2 : World.cell? w9 ⟨g, 2, none⟩ = some (.slice none 0 0) := hkG.cell 2
    have f2 := hkG.frozen 2
    have q3 : World.cell? w9 ⟨g, 3, none⟩ = some (.slice none 0 0) := hkG.cell 3
    have f3 := hkG.frozen 3
    have q4 : World.cell? w9 ⟨g, 4, none⟩ = some (.slice none 0 0) := hkG.cell 4
    have f4 := hkG.frozen 4
    have fl := hkG.lt
    go_simp
    refine hFa _ ⟨g, S7, N7, G7, D7, T7, u1, u2, u3, u4, u5, by rw [upd_ne _ (by decide)]; exact h2, hg, (rw7.put5 hkG).2, (rw7.put5 hkG).1, ((((hb9.setCell (p := ⟨g, 0, none⟩) hg _).setCell (p := ⟨g, 1, none⟩) hg _).setCell (p := ⟨g, 2, none⟩) hg _).setCell (p := ⟨g, 3, none⟩) hg _).setCell (p := ⟨g, 4, none⟩) hg _⟩ trivial
   ·refine MidOk.both ?_ ?_ (by decide)
    ·intro val a w9 hb9 hdep hold K hK
     have b1 : a.tmps[156]?.getD undef = .int .i64 2 := ev_tmps ((hdep 6 156 _ rfl rfl rfl).1.trans (hdep 6 156 _ rfl rfl rfl).2)
     clear hdep hold
     go_simp
     exact hK _ _ (Below.refl _ _) rfl
    ·intro val a w9 hdep hold K hK
     have b1 : a.tmps[156]?.getD undef = .int .i64 2 := ev_tmps ((hdep 6 156 _ rfl rfl rfl).1.trans (hdep 6 156 _ rfl rfl rfl).2)
     clear hdep hold
     go_simp
     exact hK _ rfl
   ·rintro val w' ⟨g, S7, N7, G7, D7, T7, u1, u2, u3, u4, u5, h10, hg, hkG, rw7, hb7⟩ hP
    have h12 : val 9 = .int .i64 2 := hP 9 (by decide)
    clear hP
    simp only [putL, Act.put, List.setIfInBounds_toArray, List.set_cons_zero, List.set_cons_succ, h10, h12]
    go_wp2_with fail
    go_meet
    exact ⟨g, S7, N7, G7, D7, T7, u1, u2, u3, u4, u5, rfl, rfl, hkG, rw7, hb7, hg⟩
 case rest => as_aux_lemma =>
 obtain ⟨g7, S7, N7, G7, D7, T7, u1, u2, u3, u4, u5, rfl, rfl, hk7, rw7, hb7, hg7⟩ := hcut
 obtain ⟨W12, rfl⟩ : ∃ W12, W12 = wc := ⟨_, rfl⟩
 replace hB := bstep hB hb7
 replace hk10 := hk10.keep hb7
 replace rw10 := rw10.keep hb7
 clear hb7 hg7 hk7 rw7
 go_wp2_with fail
 refine (given_any _).mono ?_
 rintro _ v11 ⟨X1, Y1, rfl, rx1, ry1, hb1⟩
 go_wp2_with fail
 refine (H12.out _ _ _ rx1 ry1).mono ?_
 rintro _ v12 ⟨S7, N7, G7, D7, T7, u1, u2, u3, u4, u5, rfl, rw7, hb2⟩
 go_upto_region 13 with (fail)
 obtain ⟨W13, hW13⟩ : ∃ W13, W13 = v12.alloc (.cells #[.slice S7 R00.a.s.length u1, .slice N7 R00.a.n.length u2, .slice G7 R00.a.g.length u3, .slice D7 R00.d.length u4, .slice T7 R00.t.length u5] 42) := ⟨_, rfl⟩
 have hbu : Below W12.heap.size W12 W13 := by rw [hW13]; exact balloc (bstep hb1 hb2) _
 rw [← hW13]
 clear hW13 rw7 hb1 hb2 rx1 ry1
 replace hB := bstep hB hbu
 replace hk10 := hk10.keep hbu
 replace rw10 := rw10.keep hbu
 clear hbu
 go_upto_region 13 with (fail)
 go_cut [24, 25] from 164 to 164 (fun sa sb wc => ∃ (g : Nat) (S7 N7 G7 D7 T7 : Option Addr) (u1 u2 u3 u4 u5 : Nat), sa = .pointer (some ⟨g, 0, none⟩) ∧ sb = .int .i64 0 ∧ Blk wc g 42 #[.slice S7 RU0.a.s.length u1, .slice N7 RU0.a.n.length u2, .slice G7 RU0.a.g.length u3, .slice D7 RU0.d.length u4, .slice T7 RU0.t.length u5] ∧ RW wc S7 N7 G7 D7 T7 RU0 ∧ Below W13.heap.size W13 wc ∧ W13.heap.size ≤ g)
 case first =>
  as_aux_lemma =>
   refine wp_region_mid (by kernel_rfl) (by kernel_rfl) (by kernel_rfl) (NmP.F ⟨.agg #[.slice S10 RW0.a.s.length z10_1, .slice N10 RW0.a.n.length z10_2, .slice G10 RW0.a.g.length z10_3, .slice D10 RW0.d.length z10_4, .slice T10 RW0.t.length z10_5], .agg #[.int .u8 1, .int .i64 0, .int .i64 0], RU0, 0, W13.heap.size⟩) (NmP.P ⟨.agg #[.slice S10 RW0.a.s.length z10_1, .slice N10 RW0.a.n.length z10_2, .slice G10 RW0.a.g.length z10_3, .slice D10 RW0.d.length z10_4, .slice T10 RW0.t.length z10_5], .agg #[.int .u8 1, .int .i64 0, .int .i64 0], RU0, 0, W13.heap.size⟩) 8 (NmP.E ⟨.agg #[.slice S10 RW0.a.s.length z10_1, .slice N10 RW0.a.n.length z10_2, .slice G10 RW0.a.g.length z10_3, .slice D10 RW0.d.length z10_4, .slice T10 RW0.t.length z10_5], .agg #[.int .u8 1, .int .i64 0, .int .i64 0], RU0, 0, W13.heap.size⟩ W13) (fun i => i == 6 || i == 9) (by kernel_rfl) (NmP.keep _) (NmP.val _) (NmP.upd _ _) ⟨?_, ?_, ?_, ?_, ?_, ?_, ?_, ?_, ?_, ?_, trivial⟩ ?_
   ·refine MidOk.grow ?_ (by decide) rfl
    intro val a w9 hb9 hdep hold K hK
    refine grow_call (vs := #[]) rfl rfl (by simp) Try.call33 ((given_any w9).mono ?_)
    rintro e w' ⟨X1, Y1, rfl, rx, ry, hb7⟩
    exact ⟨_, rfl, hK _ _ hb7 ⟨X1, Y1, rfl, rx, ry⟩⟩
   ·refine MidOk.grow ?_ (by decide) rfl
    intro val a w9 hb9 hdep hold K hK
    have b1 : a.tmps[10]?.getD undef = .pointer (some ⟨g10, 0, none⟩) := ev_tmps ((hold 10 (by rfl)).trans (by rfl))
    have hkr := hk10.keep hb9
    have p0 : World.cell? w9 ⟨g10, 0, none⟩ = some (.slice S10 RW0.a.s.length z10_1) := hkr.cell 0
    have g0 := hkr.frozen 0
    have p1 : World.cell? w9 ⟨g10, 1, none⟩ = some (.slice N10 RW0.a.n.length z10_2) := hkr.cell 1
    have g1 := hkr.frozen 1
    have p2 : World.cell? w9 ⟨g10, 2, none⟩ = some (.slice G10 RW0.a.g.length z10_3) := hkr.cell 2
    have g2 := hkr.frozen 2
    have p3 : World.cell? w9 ⟨g10, 3, none⟩ = some (.slice D10 RW0.d.length z10_4) := hkr.cell 3
    have g3 := hkr.frozen 3
    have p4 : World.cell? w9 ⟨g10, 4, none⟩ = some (.slice T10 RW0.t.length z10_5) := hkr.cell 4
    have g4 := hkr.frozen 4
    have gl := hkr.lt
    clear hdep hold
    go_simp
    exact hK _ _ (Below.refl _ _) rfl
   ·refine MidOk.grow ?_ (by decide) rfl
    intro val a w9 hb9 hdep hold K hK
    clear hdep hold
    go_simp
    exact hK _ _ (Below.refl _ _) rfl
   ·refine MidOk.grow ?_ (by decide) rfl
    intro val a w9 hb9 hdep hold K hK
    obtain ⟨b1, X1, Y1, h1, rx, ry⟩ := hdep 0 165 _ rfl rfl rfl
    replace b1 := b1.trans h1
    have b2 := (hdep 1 166 _ rfl rfl rfl).1.trans (hdep 1 166 _ rfl rfl rfl).2
    have b3 := (hdep 2 167 _ rfl rfl rfl).1.trans (hdep 2 167 _ rfl rfl rfl).2
    refine grow_call (vs := #[.agg #[.slice X1 3 3, .slice Y1 3 3, .int .i64 0, .int .i64 2], .agg #[.slice S10 RW0.a.s.length z10_1, .slice N10 RW0.a.n.length z10_2, .slice G10 RW0.a.g.length z10_3, .slice D10 RW0.d.length z10_4, .slice T10 RW0.t.length z10_5], .agg #[.int .u8 1, .int .i64 0, .int .i64 0]]) rfl rfl (by simp [b1, b2, b3]) Try.call22 ((H13.out X1 Y1 S10 N10 G10 D10 T10 z10_1 z10_2 z10_3 z10_4 z10_5 w9 rx ry (rw10.keep hb9)).mono ?_)
    rintro e w' ⟨S7, N7, G7, D7, T7, u1, u2, u3, u4, u5, rfl, rw7, hb7⟩
    exact ⟨_, rfl, hK _ _ hb7 ⟨S7, N7, G7, D7, T7, u1, u2, u3, u4, u5, rfl, rw7⟩⟩
   ·refine MidOk.grow ?_ (by decide) rfl
    intro val a w9 hb9 hdep hold K hK
    obtain ⟨b1, S7, N7, G7, D7, T7, u1, u2, u3, u4, u5, h1, rw7⟩ := hdep 3 168 _ rfl rfl rfl
    replace b1 := ev_tmps (b1.trans h1)
    clear hdep hold h1
    go_simp
    exact hK _ _ (Below.refl _ _) ⟨S7, N7, G7, D7, T7, u1, u2, u3, u4, u5, rfl, rw7⟩
   ·refine MidOk.grow ?_ (by decide) rfl
    intro val a w9 hb9 hdep hold K hK
    obtain ⟨b1, S7, N7, G7, D7, T7, u1, u2, u3, u4, u5, h1, rw7⟩ := hdep 4 164 _ rfl rfl rfl
    replace b1 := ev_tmps (b1.trans h1)
    clear hdep hold h1
    go_simp
    exact hK _ _ (Below.refl _ _) ⟨S7, N7, G7, D7, T7, u1, u2, u3, u4, u5, rfl, rw7⟩
   ·refine MidOk.both ?_ ?_ (by decide)
    ·intro val a w9 hb9 hdep hold K hK
     obtain ⟨b1, S7, N7, G7, D7, T7, u1, u2, u3, u4, u5, h1, rw7⟩ := hdep 4 164 _ rfl rfl rfl
     replace b1 := ev_tmps (b1.trans h1)
     clear hdep hold h1
     go_simp
     exact hK _ _ (Below.refl _ _) rfl
    ·intro val a w9 hdep hold K hK
     obtain ⟨b1, y9, h1⟩ := hdep 4 164 _ rfl rfl rfl
     replace b1 := ev_tmps (b1.trans h1)
     clear hdep hold h1
     go_simp
     exact hK _ rfl
   ·refine MidOk.grow ?_ (by decide) rfl
    intro val a w9 hb9 hdep hold K hK
    have hs9 := hb9.size
    clear hdep hold
    go_simp
    exact hK _ _ (balloc (Below.refl _ _) _) ⟨_, rfl, hs9, Blk.new _ _ _⟩
   ·refine MidOk.store ?_ rfl
    intro val a w9 hb9 hall hdep hold K hK
    obtain ⟨g, h2, hg, hkG⟩ := hall 7 (by decide) (by decide) rfl
    obtain ⟨S7, N7, G7, D7, T7, u1, u2, u3, u4, u5, h1, rw7⟩ := hall 5 (by decide) (by decide) rfl
    simp only at hg h1 rw7
    have b1 := ev_tmps ((hdep 7 24 _ rfl rfl (by decide) rfl).trans h2)
    have b2 := ev_tmps ((hdep 5 169 _ rfl rfl (by decide) rfl).trans h1)
    have hFa := hK undef
    clear hall hdep hold hK h1
    have q0 : World.cell? w9 ⟨g, 0, none⟩ = some (.slice none 0 0) := hkG.cell 0
    have f0 := hkG.frozen 0
    have q1 : World.cell? w9 ⟨g, 1, none⟩ = some (.slice none 0 0) := hkG.cell 1
    have f1 := hkG.frozen 1
    have q2 : World.cell? w9 ⟨g, 2, none⟩ = some (.slice none 0 0) := hkG.cell 2
    have f2 := hkG.frozen 2
    have q3 : World.cell? w9 ⟨g, 3, none⟩ = some (.slice none 0 0) := hkG.cell 3
    have f3 := hkG.frozen 3
    have q4 : World.cell? w9 ⟨g, 4, none⟩ = some (.slice none 0 0) := hkG.cell 4
    have f4 := hkG.frozen 4
    have fl := hkG.lt
    go_simp
    refine hFa _ ⟨g, S7, N7, G7, D7, T7, u1, u2, u3, u4, u5, by rw [upd_ne _ (by decide)]; exact h2, hg, (rw7.put5 hkG).2, (rw7.put5 hkG).1, ((((hb9.setCell (p := ⟨g, 0, none⟩) hg _).setCell (p := ⟨g, 1, none⟩) hg _).setCell (p := ⟨g, 2, none⟩) hg _).setCell (p := ⟨g, 3, none⟩) hg _).setCell (p := ⟨g, 4, none⟩) hg _⟩ trivial
   ·refine MidOk.both ?_ ?_ (by decide)
    ·intro val a w9 hb9 hdep hold K hK
     have b1 : a.tmps[170]?.getD undef = .int .i64 0 := ev_tmps ((hdep 6 170 _ rfl rfl rfl).1.trans (hdep 6 170 _ rfl rfl rfl).2)
     clear hdep hold
     go_simp
     exact hK _ _ (Below.refl _ _) rfl
    ·intro val a w9 hdep hold K hK
     have b1 : a.tmps[170]?.getD undef = .int .i64 0 := ev_tmps ((hdep 6 170 _ rfl rfl rfl).1.trans (hdep 6 170 _ rfl rfl rfl).2)
     clear hdep hold
     go_simp
     exact hK _ rfl
   ·rintro val w' ⟨g, S7, N7, G7, D7, T7, u1, u2, u3, u4, u5, h10, hg, hkG, rw7, hb7⟩ hP
    have h12 : val 9 = .int .i64 0 := hP 9 (by decide)
    clear hP
    simp only [putL, Act.put, List.setIfInBounds_toArray, List.set_cons_zero, List.set_cons_succ, h10, h12]
    go_wp2_with fail
    go_meet
    exact ⟨g, S7, N7, G7, D7, T7, u1, u2, u3, u4, u5, rfl, rfl, hkG, rw7, hb7, hg⟩
 case rest => as_aux_lemma =>
 obtain ⟨g24, S24, N24, G24, D24, T24, z24_1, z24_2, z24_3, z24_4, z24_5, rfl, rfl, hk24, rw24, hb7, hg7⟩ := hcut
 obtain ⟨W14, rfl⟩ : ∃ W14, W14 = wc := ⟨_, rfl⟩
 replace hB := bstep hB hb7
 replace hk10 := hk10.keep hb7
 replace rw10 := rw10.keep hb7
 clear hb7 hg7
 go_upto_region 14 with (fail)
 go_cut [26, 27] from 171 to 171 (fun sa sb wc => ∃ (g : Nat) (S7 N7 G7 D7 T7 : Option Addr) (u1 u2 u3 u4 u5 : Nat), sa = .pointer (some ⟨g, 0, none⟩) ∧ sb = .int .i64 36 ∧ Blk wc g 42 #[.slice S7 R00.a.s.length u1, .slice N7 R00.a.n.length u2, .slice G7 R00.a.g.length u3, .slice D7 R00.d.length u4, .slice T7 R00.t.length u5] ∧ RW wc S7 N7 G7 D7 T7 R00 ∧ Below W14.heap.size W14 wc ∧ W14.heap.size ≤ g)
 case first =>
  as_aux_lemma =>
   refine wp_region_mid (by kernel_rfl) (by kernel_rfl) (by kernel_rfl) (NmP.F ⟨.agg #[.slice S24 RU0.a.s.length z24_1, .slice N24 RU0.a.n.length z24_2, .slice G24 RU0.a.g.length z24_3, .slice D24 RU0.d.length z24_4, .slice T24 RU0.t.length z24_5], .agg #[.int .u8 1, .int .i64 0, .int .i64 1], R00, 36, W14.heap.size⟩) (NmP.P ⟨.agg #[.slice S24 RU0.a.s.length z24_1, .slice N24 RU0.a.n.length z24_2, .slice G24 RU0.a.g.length z24_3, .slice D24 RU0.d.length z24_4, .slice T24 RU0.t.length z24_5], .agg #[.int .u8 1, .int .i64 0, .int .i64 1], R00, 36, W14.heap.size⟩) 8 (NmP.E ⟨.agg #[.slice S24 RU0.a.s.length z24_1, .slice N24 RU0.a.n.length z24_2, .slice G24 RU0.a.g.length z24_3, .slice D24 RU0.d.length z24_4, .slice T24 RU0.t.length z24_5], .agg #[.int .u8 1, .int .i64 0, .int .i64 1], R00, 36, W14.heap.size⟩ W14) (fun i => i == 6 || i == 9) (by kernel_rfl) (NmP.keep _) (NmP.val _) (NmP.upd _ _) ⟨?_, ?_, ?_, ?_, ?_, ?_, ?_, ?_, ?_, ?_, trivial⟩ ?_
   ·refine MidOk.grow ?_ (by decide) rfl
    intro val a w9 hb9 hdep hold K hK
    refine grow_call (vs := #[]) rfl rfl (by simp) Try.call33 ((given_any w9).mono ?_)
    rintro e w' ⟨X1, Y1, rfl, rx, ry, hb7⟩
    exact ⟨_, rfl, hK _ _ hb7 ⟨X1, Y1, rfl, rx, ry⟩⟩
   ·refine MidOk.grow ?_ (by decide) rfl
    intro val a w9 hb9 hdep hold K hK
    have b1 : a.tmps[24]?.getD undef = .pointer (some ⟨g24, 0, none⟩) := ev_tmps ((hold 24 (by rfl)).trans (by rfl))
    have hkr := hk24.keep hb9
    have p0 : World.cell? w9 ⟨g24, 0, none⟩ = some (.slice S24 RU0.a.s.length z24_1) := hkr.cell 0
    have g0 := hkr.frozen 0
    have p1 : World.cell? w9 ⟨g24, 1, none⟩ = some (.slice N24 RU0.a.n.length z24_2) := hkr.cell 1
    have g1 := hkr.frozen 1
    have p2 : World.cell? w9 ⟨g24, 2, none⟩ = some (.slice G24 RU0.a.g.length z24_3) := hkr.cell 2
    have g2 := hkr.frozen 2
    have p3 : World.cell? w9 ⟨g24, 3, none⟩ = some (.slice D24 RU0.d.length z24_4) := hkr.cell 3
    have g3 := hkr.frozen 3
    have p4 : World.cell? w9 ⟨g24, 4, none⟩ = some (.slice T24 RU0.t.length z24_5) := hkr.cell 4
    have g4 := hkr.frozen 4
    have gl := hkr.lt
    clear hdep hold
    go_simp
    exact hK _ _ (Below.refl _ _) rfl
   ·refine MidOk.grow ?_ (by decide) rfl
    intro val a w9 hb9 hdep hold K hK
    clear hdep hold
    go_simp
    exact hK _ _ (Below.refl _ _) rfl
   ·refine MidOk.grow ?_ (by decide) rfl
    intro val a w9 hb9 hdep hold K hK
    obtain ⟨b1, X1, Y1, h1, rx, ry⟩ := hdep 0 172 _ rfl rfl rfl
    replace b1 := b1.trans h1
    have b2 := (hdep 1 173 _ rfl rfl rfl).1.trans (hdep 1 173 _ rfl rfl rfl).2
    have b3 := (hdep 2 174 _ rfl rfl rfl).1.trans (hdep 2 174 _ rfl rfl rfl).2
    refine grow_call (vs := #[.agg #[.slice X1 3 3, .slice Y1 3 3, .int .i64 0, .int .i64 2], .agg #[.slice S24 RU0.a.s.length z24_1, .slice N24 RU0.a.n.length z24_2, .slice G24 RU0.a.g.length z24_3, .slice D24 RU0.d.length z24_4, .slice T24 RU0.t.length z24_5], .agg #[.int .u8 1, .int .i64 0, .int .i64 1]]) rfl rfl (by simp [b1, b2, b3]) Try.call22 ((H14.out X1 Y1 S24 N24 G24 D24 T24 z24_1 z24_2 z24_3 z24_4 z24_5 w9 rx ry (rw24.keep hb9)).mono ?_)
    rintro e w' ⟨S7, N7, G7, D7, T7, u1, u2, u3, u4, u5, rfl, rw7, hb7⟩
    exact ⟨_, rfl, hK _ _ hb7 ⟨S7, N7, G7, D7, T7, u1, u2, u3, u4, u5, rfl, rw7⟩⟩
   ·refine MidOk.grow ?_ (by decide) rfl
    intro val a w9 hb9 hdep hold K hK
    obtain ⟨b1, S7, N7, G7, D7, T7, u1, u2, u3, u4, u5, h1, rw7⟩ := hdep 3 175 _ rfl rfl rfl
    replace b1 := ev_tmps (b1.trans h1)
    clear hdep hold h1
    go_simp
    exact hK _ _ (Below.refl _ _) ⟨S7, N7, G7, D7, T7, u1, u2, u3, u4, u5, rfl, rw7⟩
   ·refine MidOk.grow ?_ (by decide) rfl
    intro val a w9 hb9 hdep hold K hK
    obtain ⟨b1, S7, N7, G7, D7, T7, u1, u2, u3, u4, u5, h1, rw7⟩ := hdep 4 171 _ rfl rfl rfl
    replace b1 := ev_tmps (b1.trans h1)
    clear hdep hold h1
    go_simp
    exact hK _ _ (Below.refl _ _) ⟨S7, N7, G7, D7, T7, u1, u2, u3, u4, u5, rfl, rw7⟩
   ·refine MidOk.both ?_ ?_ (by decide)
    ·intro val a w9 hb9 hdep hold K hK
     obtain ⟨b1, S7, N7, G7, D7, T7, u1, u2, u3, u4, u5, h1, rw7⟩ := hdep 4 171 _ rfl rfl rfl
     replace b1 := ev_tmps (b1.trans h1)
     clear hdep hold h1
     go_simp
     exact hK _ _ (Below.refl _ _) rfl
    ·intro val a w9 hdep hold K hK
     obtain ⟨b1, y9, h1⟩ := hdep 4 171 _ rfl rfl rfl
     replace b1 := ev_tmps (b1.trans h1)
     clear hdep hold h1
     go_simp
     exact hK _ rfl
   ·refine MidOk.grow ?_ (by decide) rfl
    intro val a w9 hb9 hdep hold K hK
    have hs9 := hb9.size
    clear hdep hold
    go_simp
    exact hK _ _ (balloc (Below.refl _ _) _) ⟨_, rfl, hs9, Blk.new _ _ _⟩
   ·refine MidOk.store ?_ rfl
    intro val a w9 hb9 hall hdep hold K hK
    obtain ⟨g, h2, hg, hkG⟩ := hall 7 (by decide) (by decide) rfl
    obtain ⟨S7, N7, G7, D7, T7, u1, u2, u3, u4, u5, h1, rw7⟩ := hall 5 (by decide) (by decide) rfl
    simp only at hg h1 rw7
    have b1 := ev_tmps ((hdep 7 26 _ rfl rfl (by decide) rfl).trans h2)
    have b2 := ev_tmps ((hdep 5 176 _ rfl rfl (by decide) rfl).trans h1)
    have hFa := hK undef
    clear hall hdep hold hK h1
    have q0 : World.cell? w9 ⟨g, 0, none⟩ = some (.slice none 0 0) := hkG.cell 0
    have f0 := hkG.frozen 0
    have q1 : World.cell? w9 ⟨g, 1, none⟩ = some (.slice none 0 0) := hkG.cell 1
    have f1 := hkG.frozen 1
    have q2 : World.cell? w9 ⟨g, 2, none⟩ = some (.slice none 0 0) := hkG.cell 2
    have f2 := hkG.frozen 2
    have q3 : World.cell? w9 ⟨g, 3, none⟩ = some (.slice none 0 0) := hkG.cell 3
    have f3 := hkG.frozen 3
    have q4 : World.cell? w9 ⟨g, 4, none⟩ = some (.slice none 0 0) := hkG.cell 4
    have f4 := hkG.frozen 4
    have fl := hkG.lt
    go_simp
    refine hFa _ ⟨g, S7, N7, G7, D7, T7, u1, u2, u3, u4, u5, by rw [upd_ne _ (by decide)]; exact h2, hg, (rw7.put5 hkG).2, (rw7.put5 hkG).1, ((((hb9.setCell (p := ⟨g, 0, none⟩) hg _).setCell (p := ⟨g, 1, none⟩) hg _).setCell (p := ⟨g, 2, none⟩) hg _).setCell (p := ⟨g, 3, none⟩) hg _).setCell (p := ⟨g, 4, none⟩) hg _⟩ trivial
   ·refine MidOk.both ?_ ?_ (by decide)
    ·intro val a w9 hb9 hdep hold K hK
     have b1 : a.tmps[177]?.getD undef = .int .i64 36 := ev_tmps ((hdep 6 177 _ rfl rfl rfl).1.trans (hdep 6 177 _ rfl rfl rfl).2)
     clear hdep hold
     go_simp
     exact hK _ _ (Below.refl _ _) rfl
    ·intro val a w9 hdep hold K hK
     have b1 : a.tmps[177]?.getD undef = .int .i64 36 := ev_tmps ((hdep 6 177 _ rfl rfl rfl).1.trans (hdep 6 177 _ rfl rfl rfl).2)
     clear hdep hold
     go_simp
     exact hK _ rfl
   ·rintro val w' ⟨g, S7, N7, G7, D7, T7, u1, u2, u3, u4, u5, h10, hg, hkG, rw7, hb7⟩ hP
    have h12 : val 9 = .int .i64 36 := hP 9 (by decide)
    clear hP
    simp only [putL, Act.put, List.setIfInBounds_toArray, List.set_cons_zero, List.set_cons_succ, h10, h12]
    go_wp2_with fail
    go_meet
    exact ⟨g, S7, N7, G7, D7, T7, u1, u2, u3, u4, u5, rfl, rfl, hkG, rw7, hb7, hg⟩
 case rest => as_aux_lemma =>
 obtain ⟨g7, S7, N7, G7, D7, T7, u1, u2, u3, u4, u5, rfl, rfl, hk7, rw7, hb7, hg7⟩ := hcut
 obtain ⟨W15, rfl⟩ : ∃ W15, W15 = wc := ⟨_, rfl⟩
 replace hB := bstep hB hb7
 replace hk10 := hk10.keep hb7
 replace rw10 := rw10.keep hb7
 replace hk24 := hk24.keep hb7
 replace rw24 := rw24.keep hb7
 clear hb7 hg7 hk7 rw7
 go_upto_region 15 with (fail)
 go_cut [28, 29] from 178 to 178 (fun sa sb wc => ∃ (g : Nat) (S7 N7 G7 D7 T7 : Option Addr) (u1 u2 u3 u4 u5 : Nat), sa = .pointer (some ⟨g, 0, none⟩) ∧ sb = .int .i64 2 ∧ Blk wc g 42 #[.slice S7 R00.a.s.length u1, .slice N7 R00.a.n.length u2, .slice G7 R00.a.g.length u3, .slice D7 R00.d.length u4, .slice T7 R00.t.length u5] ∧ RW wc S7 N7 G7 D7 T7 R00 ∧ Below W15.heap.size W15 wc ∧ W15.heap.size ≤ g)
 case first =>
  as_aux_lemma =>
   refine wp_region_mid (by kernel_rfl) (by kernel_rfl) (by kernel_rfl) (NmP.F ⟨.agg #[.slice S24 RU0.a.s.length z24_1, .slice N24 RU0.a.n.length z24_2, .slice G24 RU0.a.g.length z24_3, .slice D24 RU0.d.length z24_4, .slice T24 RU0.t.length z24_5], .agg #[.int .u8 3, .int .i64 0, .int .i64 1], R00, 2, W15.heap.size⟩) (NmP.P ⟨.agg #[.slice S24 RU0.a.s.length z24_1, .slice N24 RU0.a.n.length z24_2, .slice G24 RU0.a.g.length z24_3, .slice D24 RU0.d.length z24_4, .slice T24 RU0.t.length z24_5], .agg #[.int .u8 3, .int .i64 0, .int .i64 1], R00, 2, W15.heap.size⟩) 8 (NmP.E ⟨.agg #[.slice S24 RU0.a.s.length z24_1, .slice N24 RU0.a.n.length z24_2, .slice G24 RU0.a.g.length z24_3, .slice D24 RU0.d.length z24_4, .slice T24 RU0.t.length z24_5], .agg #[.int .u8 3, .int .i64 0, .int .i64 1], R00, 2, W15.heap.size⟩ W15) (fun i => i == 6 || i == 9) (by kernel_rfl) (NmP.keep _) (NmP.val _) (NmP.upd _ _) ⟨?_, ?_, ?_, ?_, ?_, ?_, ?_, ?_, ?_, ?_, trivial⟩ ?_
   ·refine MidOk.grow ?_ (by decide) rfl
    intro val a w9 hb9 hdep hold K hK
    refine grow_call (vs := #[]) rfl rfl (by simp) Try.call33 ((given_any w9).mono ?_)
    rintro e w' ⟨X1, Y1, rfl, rx, ry, hb7⟩
    exact ⟨_, rfl, hK _ _ hb7 ⟨X1, Y1, rfl, rx, ry⟩⟩
   ·refine MidOk.grow ?_ (by decide) rfl
    intro val a w9 hb9 hdep hold K hK
    have b1 : a.tmps[24]?.getD undef = .pointer (some ⟨g24, 0, none⟩) := ev_tmps ((hold 24 (by rfl)).trans (by rfl))
    have hkr := hk24.keep hb9
    have p0 : World.cell? w9 ⟨g24, 0, none⟩ = some (.slice S24 RU0.a.s.length z24_1) := hkr.cell 0
    have g0 := hkr.frozen 0
    have p1 : World.cell? w9 ⟨g24, 1, none⟩ = some (.slice N24 RU0.a.n.length z24_2) := hkr.cell 1
    have g1 := hkr.frozen 1
    have p2 : World.cell? w9 ⟨g24, 2, none⟩ = some (.slice G24 RU0.a.g.length z24_3) := hkr.cell 2
    have g2 := hkr.frozen 2
    have p3 : World.cell? w9 ⟨g24, 3, none⟩ = some (.slice D24 RU0.d.length z24_4) := hkr.cell 3
    have g3 := hkr.frozen 3
    have p4 : World.cell? w9 ⟨g24, 4, none⟩ = some (.slice T24 RU0.t.length z24_5) := hkr.cell 4
    have g4 := hkr.frozen 4
    have gl := hkr.lt
    clear hdep hold
    go_simp
    exact hK _ _ (Below.refl _ _) rfl
   ·refine MidOk.grow ?_ (by decide) rfl
    intro val a w9 hb9 hdep hold K hK
    clear hdep hold
    go_simp
    exact hK _ _ (Below.refl _ _) rfl
   ·refine MidOk.grow ?_ (by decide) rfl
    intro val a w9 hb9 hdep hold K hK
    obtain ⟨b1, X1, Y1, h1, rx, ry⟩ := hdep 0 179 _ rfl rfl rfl
    replace b1 := b1.trans h1
    have b2 := (hdep 1 180 _ rfl rfl rfl).1.trans (hdep 1 180 _ rfl rfl rfl).2
    have b3 := (hdep 2 181 _ rfl rfl rfl).1.trans (hdep 2 181 _ rfl rfl rfl).2
    refine grow_call (vs := #[.agg #[.slice X1 3 3, .slice Y1 3 3, .int .i64 0, .int .i64 2], .agg #[.slice S24 RU0.a.s.length z24_1, .slice N24 RU0.a.n.length z24_2, .slice G24 RU0.a.g.length z24_3, .slice D24 RU0.d.length z24_4, .slice T24 RU0.t.length z24_5], .agg #[.int .u8 3, .int .i64 0, .int .i64 1]]) rfl rfl (by simp [b1, b2, b3]) Try.call22 ((H15.out X1 Y1 S24 N24 G24 D24 T24 z24_1 z24_2 z24_3 z24_4 z24_5 w9 rx ry (rw24.keep hb9)).mono ?_)
    rintro e w' ⟨S7, N7, G7, D7, T7, u1, u2, u3, u4, u5, rfl, rw7, hb7⟩
    exact ⟨_, rfl, hK _ _ hb7 ⟨S7, N7, G7, D7, T7, u1, u2, u3, u4, u5, rfl, rw7⟩⟩
   ·refine MidOk.grow ?_ (by decide) rfl
    intro val a w9 hb9 hdep hold K hK
    obtain ⟨b1, S7, N7, G7, D7, T7, u1, u2, u3, u4, u5, h1, rw7⟩ := hdep 3 182 _ rfl rfl rfl
    replace b1 := ev_tmps (b1.trans h1)
    clear hdep hold h1
    go_simp
    exact hK _ _ (Below.refl _ _) ⟨S7, N7, G7, D7, T7, u1, u2, u3, u4, u5, rfl, rw7⟩
   ·refine MidOk.grow ?_ (by decide) rfl
    intro val a w9 hb9 hdep hold K hK
    obtain ⟨b1, S7, N7, G7, D7, T7, u1, u2, u3, u4, u5, h1, rw7⟩ := hdep 4 178 _ rfl rfl rfl
    replace b1 := ev_tmps (b1.trans h1)
    clear hdep hold h1
    go_simp
    exact hK _ _ (Below.refl _ _) ⟨S7, N7, G7, D7, T7, u1, u2, u3, u4, u5, rfl, rw7⟩
   ·refine MidOk.both ?_ ?_ (by decide)
    ·intro val a w9 hb9 hdep hold K hK
     obtain ⟨b1, S7, N7, G7, D7, T7, u1, u2, u3, u4, u5, h1, rw7⟩ := hdep 4 178 _ rfl rfl rfl
     replace b1 := ev_tmps (b1.trans h1)
     clear hdep hold h1
     go_simp
     exact hK _ _ (Below.refl _ _) rfl
    ·intro val a w9 hdep hold K hK
     obtain ⟨b1, y9, h1⟩ := hdep 4 178 _ rfl rfl rfl
     replace b1 := ev_tmps (b1.trans h1)
     clear hdep hold h1
     go_simp
     exact hK _ rfl
   ·refine MidOk.grow ?_ (by decide) rfl
    intro val a w9 hb9 hdep hold K hK
    have hs9 := hb9.size
    clear hdep hold
    go_simp
    exact hK _ _ (balloc (Below.refl _ _) _) ⟨_, rfl, hs9, Blk.new _ _ _⟩
   ·refine MidOk.store ?_ rfl
    intro val a w9 hb9 hall hdep hold K hK
    obtain ⟨g, h2, hg, hkG⟩ := hall 7 (by decide) (by decide) rfl
    obtain ⟨S7, N7, G7, D7, T7, u1, u2, u3, u4, u5, h1, rw7⟩ := hall 5 (by decide) (by decide) rfl
    simp only at hg h1 rw7
    have b1 := ev_tmps ((hdep 7 28 _ rfl rfl (by decide) rfl).trans h2)
    have b2 := ev_tmps ((hdep 5 183 _ rfl rfl (by decide) rfl).trans h1)
    have hFa := hK undef
    clear hall hdep hold hK h1
    have q0 : World.cell? w9 ⟨g, 0, none⟩ = some (.slice none 0 0) := hkG.cell 0
    have f0 := hkG.frozen 0
    have q1 : World.cell? w9 ⟨g, 1, none⟩ = some (.slice none 0 0) := hkG.cell 1
    have f1 := hkG.frozen 1
    have q2 : World.cell? w9 ⟨g, 2, none⟩ = some (.slice none 0 0) := hkG.cell 2
    have f2 := hkG.frozen 2
    have q3 : World.cell? w9 ⟨g, 3, none⟩ = some (.slice none 0 0) := hkG.cell 3
    have f3 := hkG.frozen 3
    have q4 : World.cell? w9 ⟨g, 4, none⟩ = some (.slice none 0 0) := hkG.cell 4
    have f4 := hkG.frozen 4
    have fl := hkG.lt
    go_simp
    refine hFa _ ⟨g, S7, N7, G7, D7, T7, u1, u2, u3, u4, u5, by rw [upd_ne _ (by decide)]; exact h2, hg, (rw7.put5 hkG).2, (rw7.put5 hkG).1, ((((hb9.setCell (p := ⟨g, 0, none⟩) hg _).setCell (p := ⟨g, 1, none⟩) hg _).setCell (p := ⟨g, 2, none⟩) hg _).setCell (p := ⟨g, 3, none⟩) hg _).setCell (p := ⟨g, 4, none⟩) hg _⟩ trivial
   ·refine MidOk.both ?_ ?_ (by decide)
    ·intro val a w9 hb9 hdep hold K hK
     have b1 : a.tmps[184]?.getD undef = .int .i64 2 := ev_tmps ((hdep 6 184 _ rfl rfl rfl).1.trans (hdep 6 184 _ rfl rfl rfl).2)
     clear hdep hold
     go_simp
     exact hK _ _ (Below.refl _ _) rfl
    ·intro val a w9 hdep hold K hK
     have b1 : a.tmps[184]?.getD undef = .int .i64 2 := ev_tmps ((hdep 6 184 _ rfl rfl rfl).1.trans (hdep 6 184 _ rfl rfl rfl).2)
     clear hdep hold
     go_simp
     exact hK _ rfl
   ·rintro val w' ⟨g, S7, N7, G7, D7, T7, u1, u2, u3, u4, u5, h10, hg, hkG, rw7, hb7⟩ hP
    have h12 : val 9 = .int .i64 2 := hP 9 (by decide)
    clear hP
    simp only [putL, Act.put, List.setIfInBounds_toArray, List.set_cons_zero, List.set_cons_succ, h10, h12]
    go_wp2_with fail
    go_meet
    exact ⟨g, S7, N7, G7, D7, T7, u1, u2, u3, u4, u5, rfl, rfl, hkG, rw7, hb7, hg⟩
 case rest => as_aux_lemma =>
 obtain ⟨g7, S7, N7, G7, D7, T7, u1, u2, u3, u4, u5, rfl, rfl, hk7, rw7, hb7, hg7⟩ := hcut
 obtain ⟨W16, rfl⟩ : ∃ W16, W16 = wc := ⟨_, rfl⟩
 replace hB := bstep hB hb7
 replace hk10 := hk10.keep hb7
 replace rw10 := rw10.keep hb7
 replace hk24 := hk24.keep hb7
 replace rw24 := rw24.keep hb7
 clear hb7 hg7 hk7 rw7
 go_upto_region 16 with (fail)
 go_cut [30, 31] from 185 to 185 (fun sa sb wc => ∃ (g : Nat) (S7 N7 G7 D7 T7 : Option Addr) (u1 u2 u3 u4 u5 : Nat), sa = .pointer (some ⟨g, 0, none⟩) ∧ sb = .int .i64 0 ∧ Blk wc g 42 #[.slice S7 RW0.a.s.length u1, .slice N7 RW0.a.n.length u2, .slice G7 RW0.a.g.length u3, .slice D7 RW0.d.length u4, .slice T7 RW0.t.length u5] ∧ RW wc S7 N7 G7 D7 T7 RW0 ∧ Below W16.heap.size W16 wc ∧ W16.heap.size ≤ g)
 case first =>
  as_aux_lemma =>
   refine wp_region_mid (by kernel_rfl) (by kernel_rfl) (by kernel_rfl) (NmP.F ⟨.agg #[.slice S24 RU0.a.s.length z24_1, .slice N24 RU0.a.n.length z24_2, .slice G24 RU0.a.g.length z24_3, .slice D24 RU0.d.length z24_4, .slice T24 RU0.t.length z24_5], .agg #[.int .u8 3, .int .i64 0, .int .i64 0], RW0, 0, W16.heap.size⟩) (NmP.P ⟨.agg #[.slice S24 RU0.a.s.length z24_1, .slice N24 RU0.a.n.length z24_2, .slice G24 RU0.a.g.length z24_3, .slice D24 RU0.d.length z24_4, .slice T24 RU0.t.length z24_5], .agg #[.int .u8 3, .int .i64 0, .int .i64 0], RW0, 0, W16.heap.size⟩) 8 (NmP.E ⟨.agg #[.slice S24 RU0.a.s.length z24_1, .slice N24 RU0.a.n.length z24_2, .slice G24 RU0.a.g.length z24_3, .slice D24 RU0.d.length z24_4, .slice T24 RU0.t.length z24_5], .agg #[.int .u8 3, .int .i64 0, .int .i64 0], RW0, 0, W16.heap.size⟩ W16) (fun i => i == 6 || i == 9) (by kernel_rfl) (NmP.keep _) (NmP.val _) (NmP.upd _ _) ⟨?_, ?_, ?_, ?_, ?_, ?_, ?_, ?_, ?_, ?_, trivial⟩ ?_
   ·refine MidOk.grow ?_ (by decide) rfl
    intro val a w9 hb9 hdep hold K hK
    refine grow_call (vs := #[]) rfl rfl (by simp) Try.call33 ((given_any w9).mono ?_)
    rintro e w' ⟨X1, Y1, rfl, rx, ry, hb7⟩
    exact ⟨_, rfl, hK _ _ hb7 ⟨X1, Y1, rfl, rx, ry⟩⟩
   ·refine MidOk.grow ?_ (by decide) rfl
    intro val a w9 hb9 hdep hold K hK
    have b1 : a.tmps[24]?.getD undef = .pointer (some ⟨g24, 0, none⟩) := ev_tmps ((hold 24 (by rfl)).trans (by rfl))
    have hkr := hk24.keep hb9
    have p0 : World.cell? w9 ⟨g24, 0, none⟩ = some (.slice S24 RU0.a.s.length z24_1) := hkr.cell 0
    have g0 := hkr.frozen 0
    have p1 : World.cell? w9 ⟨g24, 1, none⟩ = some (.slice N24 RU0.a.n.length z24_2) := hkr.cell 1
    have g1 := hkr.frozen 1
    have p2 : World.cell? w9 ⟨g24, 2, none⟩ = some (.slice G24 RU0.a.g.length z24_3) := hkr.cell 2
    have g2 := hkr.frozen 2
    have p3 : World.cell? w9 ⟨g24, 3, none⟩ = some (.slice D24 RU0.d.length z24_4) := hkr.cell 3
    have g3 := hkr.frozen 3
    have p4 : World.cell? w9 ⟨g24, 4, none⟩ = some (.slice T24 RU0.t.length z24_5) := hkr.cell 4
    have g4 := hkr.frozen 4
    have gl := hkr.lt
    clear hdep hold
    go_simp
    exact hK _ _ (Below.refl _ _) rfl
   ·refine MidOk.grow ?_ (by decide) rfl
    intro val a w9 hb9 hdep hold K hK
    clear hdep hold
    go_simp
    exact hK _ _ (Below.refl _ _) rfl
   ·refine MidOk.grow ?_ (by decide) rfl
    intro val a w9 hb9 hdep hold K hK
    obtain ⟨b1, X1, Y1, h1, rx, ry⟩ := hdep 0 186 _ rfl rfl rfl
    replace b1 := b1.trans h1
    have b2 := (hdep 1 187 _ rfl rfl rfl).1.trans (hdep 1 187 _ rfl rfl rfl).2
    have b3 := (hdep 2 188 _ rfl rfl rfl).1.trans (hdep 2 188 _ rfl rfl rfl).2
    refine grow_call (vs := #[.agg #[.slice X1 3 3, .slice Y1 3 3, .int .i64 0, .int .i64 2], .agg #[.slice S24 RU0.a.s.length z24_1, .slice N24 RU0.a.n.length z24_2, .slice G24 RU0.a.g.length z24_3, .slice D24 RU0.d.length z24_4, .slice T24 RU0.t.length z24_5], .agg #[.int .u8 3, .int .i64 0, .int .i64 0]]) rfl rfl (by simp [b1, b2, b3]) Try.call22 ((H16.out X1 Y1 S24 N24 G24 D24 T24 z24_1 z24_2 z24_3 z24_4 z24_5 w9 rx ry (rw24.keep hb9)).mono ?_)
    rintro e w' ⟨S7, N7, G7, D7, T7, u1, u2, u3, u4, u5, rfl, rw7, hb7⟩
    exact ⟨_, rfl, hK _ _ hb7 ⟨S7, N7, G7, D7, T7, u1, u2, u3, u4, u5, rfl, rw7⟩⟩
   ·refine MidOk.grow ?_ (by decide) rfl
    intro val a w9 hb9 hdep hold K hK
    obtain ⟨b1, S7, N7, G7, D7, T7, u1, u2, u3, u4, u5, h1, rw7⟩ := hdep 3 189 _ rfl rfl rfl
    replace b1 := ev_tmps (b1.trans h1)
    clear hdep hold h1
    go_simp
    exact hK _ _ (Below.refl _ _) ⟨S7, N7, G7, D7, T7, u1, u2, u3, u4, u5, rfl, rw7⟩
   ·refine MidOk.grow ?_ (by decide) rfl
    intro val a w9 hb9 hdep hold K hK
    obtain ⟨b1, S7, N7, G7, D7, T7, u1, u2, u3, u4, u5, h1, rw7⟩ := hdep 4 185 _ rfl rfl rfl
    replace b1 := ev_tmps (b1.trans h1)
    clear hdep hold h1
    go_simp
    exact hK _ _ (Below.refl _ _) ⟨S7, N7, G7, D7, T7, u1, u2, u3, u4, u5, rfl, rw7⟩
   ·refine MidOk.both ?_ ?_ (by decide)
    ·intro val a w9 hb9 hdep hold K hK
     obtain ⟨b1, S7, N7, G7, D7, T7, u1, u2, u3, u4, u5, h1, rw7⟩ := hdep 4 185 _ rfl rfl rfl
     replace b1 := ev_tmps (b1.trans h1)
     clear hdep hold h1
     go_simp
     exact hK _ _ (Below.refl _ _) rfl
    ·intro val a w9 hdep hold K hK
     obtain ⟨b1, y9, h1⟩ := hdep 4 185 _ rfl rfl rfl
     replace b1 := ev_tmps (b1.trans h1)
     clear hdep hold h1
     go_simp
     exact hK _ rfl
   ·refine MidOk.grow ?_ (by decide) rfl
    intro val a w9 hb9 hdep hold K hK
    have hs9 := hb9.size
    clear hdep hold
    go_simp
    exact hK _ _ (balloc (Below.refl _ _) _) ⟨_, rfl, hs9, Blk.new _ _ _⟩
   ·refine MidOk.store ?_ rfl
    intro val a w9 hb9 hall hdep hold K hK
    obtain ⟨g, h2, hg, hkG⟩ := hall 7 (by decide) (by decide) rfl
    obtain ⟨S7, N7, G7, D7, T7, u1, u2, u3, u4, u5, h1, rw7⟩ := hall 5 (by decide) (by decide) rfl
    simp only at hg h1 rw7
    have b1 := ev_tmps ((hdep 7 30 _ rfl rfl (by decide) rfl).trans h2)
    have b2 := ev_tmps ((hdep 5 190 _ rfl rfl (by decide) rfl).trans h1)
    have hFa := hK undef
    clear hall hdep hold hK h1
    have q0 : World.cell? w9 ⟨g, 0, none⟩ = some (.slice none 0 0) := hkG.cell 0
    have f0 := hkG.frozen 0
    have q1 : World.cell? w9 ⟨g, 1, none⟩ = some (.slice none 0 0) := hkG.cell 1
    have f1 := hkG.frozen 1
    have q2 : World.cell? w9 ⟨g, 2, none⟩ = some (.slice none 0 0) := hkG.cell 2
    have f2 := hkG.frozen 2
    have q3 : World.cell? w9 ⟨g, 3, none⟩ = some (.slice none 0 0) := hkG.cell 3
    have f3 := hkG.frozen 3
    have q4 : World.cell? w9 ⟨g, 4, none⟩ = some (.slice none 0 0) := hkG.cell 4
    have f4 := hkG.frozen 4
    have fl := hkG.lt
    go_simp
    refine hFa _ ⟨g, S7, N7, G7, D7, T7, u1, u2, u3, u4, u5, by rw [upd_ne _ (by decide)]; exact h2, hg, (rw7.put5 hkG).2, (rw7.put5 hkG).1, ((((hb9.setCell (p := ⟨g, 0, none⟩) hg _).setCell (p := ⟨g, 1, none⟩) hg _).setCell (p := ⟨g, 2, none⟩) hg _).setCell (p := ⟨g, 3, none⟩) hg _).setCell (p := ⟨g, 4, none⟩) hg _⟩ trivial
   ·refine MidOk.both ?_ ?_ (by decide)
    ·intro val a w9 hb9 hdep hold K hK
     have b1 : a.tmps[191]?.getD undef = .int .i64 0 := ev_tmps ((hdep 6 191 _ rfl rfl rfl).1.trans (hdep 6 191 _ rfl rfl rfl).2)
     clear hdep hold
     go_simp
     exact hK _ _ (Below.refl _ _) rfl
    ·intro val a w9 hdep hold K hK
     have b1 : a.tmps[191]?.getD undef = .int .i64 0 := ev_tmps ((hdep 6 191 _ rfl rfl rfl).1.trans (hdep 6 191 _ rfl rfl rfl).2)
     clear hdep hold
     go_simp
     exact hK _ rfl
   ·rintro val w' ⟨g, S7, N7, G7, D7, T7, u1, u2, u3, u4, u5, h10, hg, hkG, rw7, hb7⟩ hP
    have h12 : val 9 = .int .i64 0 := hP 9 (by decide)
    clear hP
    simp only [putL, Act.put, List.setIfInBounds_toArray, List.set_cons_zero, List.set_cons_succ, h10, h12]
    go_wp2_with fail
    go_meet
    exact ⟨g, S7, N7, G7, D7, T7, u1, u2, u3, u4, u5, rfl, rfl, hkG, rw7, hb7, hg⟩
 case rest => as_aux_lemma =>
 obtain ⟨g30, S30, N30, G30, D30, T30, z30_1, z30_2, z30_3, z30_4, z30_5, rfl, rfl, hk30, rw30, hb7, hg7⟩ := hcut
 obtain ⟨W17, rfl⟩ : ∃ W17, W17 = wc := ⟨_, rfl⟩
 replace hB := bstep hB hb7
 replace hk10 := hk10.keep hb7
 replace rw10 := rw10.keep hb7
 replace hk24 := hk24.keep hb7
 replace rw24 := rw24.keep hb7
 clear hb7 hg7
 go_upto_region 17 with (fail)
 go_cut [32, 33] from 192 to 192 (fun sa sb wc => ∃ (g : Nat) (S7 N7 G7 D7 T7 : Option Addr) (u1 u2 u3 u4 u5 : Nat), sa = .pointer (some ⟨g, 0, none⟩) ∧ sb = .int .i64 0 ∧ Blk wc g 42 #[.slice S7 RX0.a.s.length u1, .slice N7 RX0.a.n.length u2, .slice G7 RX0.a.g.length u3, .slice D7 RX0.d.length u4, .slice T7 RX0.t.length u5] ∧ RW wc S7 N7 G7 D7 T7 RX0 ∧ Below W17.heap.size W17 wc ∧ W17.heap.size ≤ g)
 case first =>
  as_aux_lemma =>
   refine wp_region_mid (by kernel_rfl) (by kernel_rfl) (by kernel_rfl) (NmP.F ⟨.agg #[.slice S24 RU0.a.s.length z24_1, .slice N24 RU0.a.n.length z24_2, .slice G24 RU0.a.g.length z24_3, .slice D24 RU0.d.length z24_4, .slice T24 RU0.t.length z24_5], .agg #[.int .u8 2, .int .i64 0, .int .i64 0], RX0, 0, W17.heap.size⟩) (NmP.P ⟨.agg #[.slice S24 RU0.a.s.length z24_1, .slice N24 RU0.a.n.length z24_2, .slice G24 RU0.a.g.length z24_3, .slice D24 RU0.d.length z24_4, .slice T24 RU0.t.length z24_5], .agg #[.int .u8 2, .int .i64 0, .int .i64 0], RX0, 0, W17.heap.size⟩) 8 (NmP.E ⟨.agg #[.slice S24 RU0.a.s.length z24_1, .slice N24 RU0.a.n.length z24_2, .slice G24 RU0.a.g.length z24_3, .slice D24 RU0.d.length z24_4, .slice T24 RU0.t.length z24_5], .agg #[.int .u8 2, .int .i64 0, .int .i64 0], RX0, 0, W17.heap.size⟩ W17) (fun i => i == 6 || i == 9) (by kernel_rfl) (NmP.keep _) (NmP.val _) (NmP.upd _ _) ⟨?_, ?_, ?_, ?_, ?_, ?_, ?_, ?_, ?_, ?_, trivial⟩ ?_
   ·refine MidOk.grow ?_ (by decide) rfl
    intro val a w9 hb9 hdep hold K hK
    refine grow_call (vs := #[]) rfl rfl (by simp) Try.call33 ((given_any w9).mono ?_)
    rintro e w' ⟨X1, Y1, rfl, rx, ry, hb7⟩
    exact ⟨_, rfl, hK _ _ hb7 ⟨X1, Y1, rfl, rx, ry⟩⟩
   ·refine MidOk.grow ?_ (by decide) rfl
    intro val a w9 hb9 hdep hold K hK
    have b1 : a.tmps[24]?.getD undef = .pointer (some ⟨g24, 0, none⟩) := ev_tmps ((hold 24 (by rfl)).trans (by rfl))
    have hkr := hk24.keep hb9
    have p0 : World.cell? w9 ⟨g24, 0, none⟩ = some (.slice S24 RU0.a.s.length z24_1) := hkr.cell 0
    have g0 := hkr.frozen 0
    have p1 : World.cell? w9 ⟨g24, 1, none⟩ = some (.slice N24 RU0.a.n.length z24_2) := hkr.cell 1
    have g1 := hkr.frozen 1
    have p2 : World.cell? w9 ⟨g24, 2, none⟩ = some (.slice G24 RU0.a.g.length z24_3) := hkr.cell 2
    have g2 := hkr.frozen 2
    have p3 : World.cell? w9 ⟨g24, 3, none⟩ = some (.slice D24 RU0.d.length z24_4) := hkr.cell 3
    have g3 := hkr.frozen 3
    have p4 : World.cell? w9 ⟨g24, 4, none⟩ = some (.slice T24 RU0.t.length z24_5) := hkr.cell 4
    have g4 := hkr.frozen 4
    have gl := hkr.lt
    clear hdep hold
    go_simp
    exact hK _ _ (Below.refl _ _) rfl
   ·refine MidOk.grow ?_ (by decide) rfl
    intro val a w9 hb9 hdep hold K hK
    clear hdep hold
    go_simp
    exact hK _ _ (Below.refl _ _) rfl
   ·refine MidOk.grow ?_ (by decide) rfl
    intro val a w9 hb9 hdep hold K hK
    obtain ⟨b1, X1, Y1, h1, rx, ry⟩ := hdep 0 193 _ rfl rfl rfl
    replace b1 := b1.trans h1
    have b2 := (hdep 1 194 _ rfl rfl rfl).1.trans (hdep 1 194 _ rfl rfl rfl).2
    have b3 := (hdep 2 195 _ rfl rfl rfl).1.trans (hdep 2 195 _ rfl rfl rfl).2
    refine grow_call (vs := #[.agg #[.slice X1 3 3, .slice Y1 3 3, .int .i64 0, .int .i64 2], .agg #[.slice S24 RU0.a.s.length z24_1, .slice N24 RU0.a.n.length z24_2, .slice G24 RU0.a.g.length z24_3, .slice D24 RU0.d.length z24_4, .slice T24 RU0.t.length z24_5], .agg #[.int .u8 2, .int .i64 0, .int .i64 0]]) rfl rfl (by simp [b1, b2, b3]) Try.call22 ((H17.out X1 Y1 S24 N24 G24 D24 T24 z24_1 z24_2 z24_3 z24_4 z24_5 w9 rx ry (rw24.keep hb9)).mono ?_)
    rintro e w' ⟨S7, N7, G7, D7, T7, u1, u2, u3, u4, u5, rfl, rw7, hb7⟩
    exact ⟨_, rfl, hK _ _ hb7 ⟨S7, N7, G7, D7, T7, u1, u2, u3, u4, u5, rfl, rw7⟩⟩
   ·refine MidOk.grow ?_ (by decide) rfl
    intro val a w9 hb9 hdep hold K hK
    obtain ⟨b1, S7, N7, G7, D7, T7, u1, u2, u3, u4, u5, h1, rw7⟩ := hdep 3 196 _ rfl rfl rfl
    replace b1 := ev_tmps (b1.trans h1)
    clear hdep hold h1
    go_simp
    exact hK _ _ (Below.refl _ _) ⟨S7, N7, G7, D7, T7, u1, u2, u3, u4, u5, rfl, rw7⟩
   ·refine MidOk.grow ?_ (by decide) rfl
    intro val a w9 hb9 hdep hold K hK
    obtain ⟨b1, S7, N7, G7, D7, T7, u1, u2, u3, u4, u5, h1, rw7⟩ := hdep 4 192 _ rfl rfl rfl
    replace b1 := ev_tmps (b1.trans h1)
    clear hdep hold h1
    go_simp
    exact hK _ _ (Below.refl _ _) ⟨S7, N7, G7, D7, T7, u1, u2, u3, u4, u5, rfl, rw7⟩
   ·refine MidOk.both ?_ ?_ (by decide)
    ·intro val a w9 hb9 hdep hold K hK
     obtain ⟨b1, S7, N7, G7, D7, T7, u1, u2, u3, u4, u5, h1, rw7⟩ := hdep 4 192 _ rfl rfl rfl
     replace b1 := ev_tmps (b1.trans h1)
     clear hdep hold h1
     go_simp
     exact hK _ _ (Below.refl _ _) rfl
    ·intro val a w9 hdep hold K hK
     obtain ⟨b1, y9, h1⟩ := hdep 4 192 _ rfl rfl rfl
     replace b1 := ev_tmps (b1.trans h1)
     clear hdep hold h1
     go_simp
     exact hK _ rfl
   ·refine MidOk.grow ?_ (by decide) rfl
    intro val a w9 hb9 hdep hold K hK
    have hs9 := hb9.size
    clear hdep hold
    go_simp
    exact hK _ _ (balloc (Below.refl _ _) _) ⟨_, rfl, hs9, Blk.new _ _ _⟩
   ·refine MidOk.store ?_ rfl
    intro val a w9 hb9 hall hdep hold K hK
    obtain ⟨g, h2, hg, hkG⟩ := hall 7 (by decide) (by decide) rfl
    obtain ⟨S7, N7, G7, D7, T7, u1, u2, u3, u4, u5, h1, rw7⟩ := hall 5 (by decide) (by decide) rfl
    simp only at hg h1 rw7
    have b1 := ev_tmps ((hdep 7 32 _ rfl rfl (by decide) rfl).trans h2)
    have b2 := ev_tmps ((hdep 5 197 _ rfl rfl (by decide) rfl).trans h1)
    have hFa := hK undef
    clear hall hdep hold hK h1
    have q0 : World.cell? w9 ⟨g, 0, none⟩ = some (.slice none 0 0) := hkG.cell 0
    have f0 := hkG.frozen 0
    have q1 : World.cell? w9 ⟨g, 1, none⟩ = some (.slice none 0 0) := hkG.cell 1
    have f1 := hkG.frozen 1
    have q2 : World.cell? w9 ⟨g, 2, none⟩ = some (.slice none 0 0) := hkG.cell 2
    have f2 := hkG.frozen 2
    have q3 : World.cell? w9 ⟨g, 3, none⟩ = some (.slice none 0 0) := hkG.cell 3
    have f3 := hkG.frozen 3
    have q4 : World.cell? w9 ⟨g, 4, none⟩ = some (.slice none 0 0) := hkG.cell 4
    have f4 := hkG.frozen 4
    have fl := hkG.lt
    go_simp
    refine hFa _ ⟨g, S7, N7, G7, D7, T7, u1, u2, u3, u4, u5, by rw [upd_ne _ (by decide)]; exact h2, hg, (rw7.put5 hkG).2, (rw7.put5 hkG).1, ((((hb9.setCell (p := ⟨g, 0, none⟩) hg _).setCell (p := ⟨g, 1, none⟩) hg _).setCell (p := ⟨g, 2, none⟩) hg _).setCell (p := ⟨g, 3, none⟩) hg _).setCell (p := ⟨g, 4, none⟩) hg _⟩ trivial
   ·refine MidOk.both ?_ ?_ (by decide)
    ·intro val a w9 hb9 hdep hold K hK
     have b1 : a.tmps[198]?.getD undef = .int .i64 0 := ev_tmps ((hdep 6 198 _ rfl rfl rfl).1.trans (hdep 6 198 _ rfl rfl rfl).2)
     clear hdep hold
     go_simp
     exact hK _ _ (Below.refl _ _) rfl
    ·intro val a w9 hdep hold K hK
     have b1 : a.tmps[198]?.getD undef = .int .i64 0 := ev_tmps ((hdep 6 198 _ rfl rfl rfl).1.trans (hdep 6 198 _ rfl rfl rfl).2)
     clear hdep hold
     go_simp
     exact hK _ rfl
   ·rintro val w' ⟨g, S7, N7, G7, D7, T7, u1, u2, u3, u4, u5, h10, hg, hkG, rw7, hb7⟩ hP
    have h12 : val 9 = .int .i64 0 := hP 9 (by decide)
    clear hP
    simp only [putL, Act.put, List.setIfInBounds_toArray, List.set_cons_zero, List.set_cons_succ, h10, h12]
    go_wp2_with fail
    go_meet
    exact ⟨g, S7, N7, G7, D7, T7, u1, u2, u3, u4, u5, rfl, rfl, hkG, rw7, hb7, hg⟩
 case rest => as_aux_lemma =>
 obtain ⟨g32, S32, N32, G32, D32, T32, z32_1, z32_2, z32_3, z32_4, z32_5, rfl, rfl, hk32, rw32, hb7, hg7⟩ := hcut
 obtain ⟨W18, rfl⟩ : ∃ W18, W18 = wc := ⟨_, rfl⟩
 replace hB := bstep hB hb7
 replace hk10 := hk10.keep hb7
 replace rw10 := rw10.keep hb7
 replace hk24 := hk24.keep hb7
 replace rw24 := rw24.keep hb7
 replace hk30 := hk30.keep hb7
 replace rw30 := rw30.keep hb7
 clear hb7 hg7
 clear hk24 rw24
 go_upto_region 18 with (fail)
 go_cut [34, 35] from 199 to 199 (fun sa sb wc => ∃ (g : Nat) (S7 N7 G7 D7 T7 : Option Addr) (u1 u2 u3 u4 u5 : Nat), sa = .pointer (some ⟨g, 0, none⟩) ∧ sb = .int .i64 36 ∧ Blk wc g 42 #[.slice S7 R00.a.s.length u1, .slice N7 R00.a.n.length u2, .slice G7 R00.a.g.length u3, .slice D7 R00.d.length u4, .slice T7 R00.t.length u5] ∧ RW wc S7 N7 G7 D7 T7 R00 ∧ Below W18.heap.size W18 wc ∧ W18.heap.size ≤ g)
 case first =>
  as_aux_lemma =>
   refine wp_region_mid (by kernel_rfl) (by kernel_rfl) (by kernel_rfl) (NmP.F ⟨.agg #[.slice S32 RX0.a.s.length z32_1, .slice N32 RX0.a.n.length z32_2, .slice G32 RX0.a.g.length z32_3, .slice D32 RX0.d.length z32_4, .slice T32 RX0.t.length z32_5], .agg #[.int .u8 1, .int .i64 0, .int .i64 0], R00, 36, W18.heap.size⟩) (NmP.P ⟨.agg #[.slice S32 RX0.a.s.length z32_1, .slice N32 RX0.a.n.length z32_2, .slice G32 RX0.a.g.length z32_3, .slice D32 RX0.d.length z32_4, .slice T32 RX0.t.length z32_5], .agg #[.int .u8 1, .int .i64 0, .int .i64 0], R00, 36, W18.heap.size⟩) 8 (NmP.E ⟨.agg #[.slice S32 RX0.a.s.length z32_1, .slice N32 RX0.a.n.length z32_2, .slice G32 RX0.a.g.length z32_3, .slice D32 RX0.d.length z32_4, .slice T32 RX0.t.length z32_5], .agg #[.int .u8 1, .int .i64 0, .int .i64 0], R00, 36, W18.heap.size⟩ W18) (fun i => i == 6 || i == 9) (by kernel_rfl) (NmP.keep _) (NmP.val _) (NmP.upd _ _) ⟨?_, ?_, ?_, ?_, ?_, ?_, ?_, ?_, ?_, ?_, trivial⟩ ?_
   ·refine MidOk.grow ?_ (by decide) rfl
    intro val a w9 hb9 hdep hold K hK
    refine grow_call (vs := #[]) rfl rfl (by simp) Try.call33 ((given_any w9).mono ?_)
    rintro e w' ⟨X1, Y1, rfl, rx, ry, hb7⟩
    exact ⟨_, rfl, hK _ _ hb7 ⟨X1, Y1, rfl, rx, ry⟩⟩
   ·refine MidOk.grow ?_ (by decide) rfl
    intro val a w9 hb9 hdep hold K hK
    have b1 : a.tmps[32]?.getD undef = .pointer (some ⟨g32, 0, none⟩) := ev_tmps ((hold 32 (by rfl)).trans (by rfl))
    have hkr := hk32.keep hb9
    have p0 : World.cell? w9 ⟨g32, 0, none⟩ = some (.slice S32 RX0.a.s.length z32_1) := hkr.cell 0
    have g0 := hkr.frozen 0
    have p1 : World.cell? w9 ⟨g32, 1, none⟩ = some (.slice N32 RX0.a.n.length z32_2) := hkr.cell 1
    have g1 := hkr.frozen 1
    have p2 : World.cell? w9 ⟨g32, 2, none⟩ = some (.slice G32 RX0.a.g.length z32_3) := hkr.cell 2
    have g2 := hkr.frozen 2
    have p3 : World.cell? w9 ⟨g32, 3, none⟩ = some (.slice D32 RX0.d.length z32_4) := hkr.cell 3
    have g3 := hkr.frozen 3
    have p4 : World.cell? w9 ⟨g32, 4, none⟩ = some (.slice T32 RX0.t.length z32_5) := hkr.cell 4
    have g4 := hkr.frozen 4
    have gl := hkr.lt
    clear hdep hold
    go_simp
    exact hK _ _ (Below.refl _ _) rfl
   ·refine MidOk.grow ?_ (by decide) rfl
    intro val a w9 hb9 hdep hold K hK
    clear hdep hold
    go_simp
    exact hK _ _ (Below.refl _ _) rfl
   ·refine MidOk.grow ?_ (by decide) rfl
    intro val a w9 hb9 hdep hold K hK
    obtain ⟨b1, X1, Y1, h1, rx, ry⟩ := hdep 0 200 _ rfl rfl rfl
    replace b1 := b1.trans h1
    have b2 := (hdep 1 201 _ rfl rfl rfl).1.trans (hdep 1 201 _ rfl rfl rfl).2
    have b3 := (hdep 2 202 _ rfl rfl rfl).1.trans (hdep 2 202 _ rfl rfl rfl).2
    refine grow_call (vs := #[.agg #[.slice X1 3 3, .slice Y1 3 3, .int .i64 0, .int .i64 2], .agg #[.slice S32 RX0.a.s.length z32_1, .slice N32 RX0.a.n.length z32_2, .slice G32 RX0.a.g.length z32_3, .slice D32 RX0.d.length z32_4, .slice T32 RX0.t.length z32_5], .agg #[.int .u8 1, .int .i64 0, .int .i64 0]]) rfl rfl (by simp [b1, b2, b3]) Try.call22 ((H18.out X1 Y1 S32 N32 G32 D32 T32 z32_1 z32_2 z32_3 z32_4 z32_5 w9 rx ry (rw32.keep hb9)).mono ?_)
    rintro e w' ⟨S7, N7, G7, D7, T7, u1, u2, u3, u4, u5, rfl, rw7, hb7⟩
    exact ⟨_, rfl, hK _ _ hb7 ⟨S7, N7, G7, D7, T7, u1, u2, u3, u4, u5, rfl, rw7⟩⟩
   ·refine MidOk.grow ?_ (by decide) rfl
    intro val a w9 hb9 hdep hold K hK
    obtain ⟨b1, S7, N7, G7, D7, T7, u1, u2, u3, u4, u5, h1, rw7⟩ := hdep 3 203 _ rfl rfl rfl
    replace b1 := ev_tmps (b1.trans h1)
    clear hdep hold h1
    go_simp
    exact hK _ _ (Below.refl _ _) ⟨S7, N7, G7, D7, T7, u1, u2, u3, u4, u5, rfl, rw7⟩
   ·refine MidOk.grow ?_ (by decide) rfl
    intro val a w9 hb9 hdep hold K hK
    obtain ⟨b1, S7, N7, G7, D7, T7, u1, u2, u3, u4, u5, h1, rw7⟩ := hdep 4 199 _ rfl rfl rfl
    replace b1 := ev_tmps (b1.trans h1)
    clear hdep hold h1
    go_simp
    exact hK _ _ (Below.refl _ _) ⟨S7, N7, G7, D7, T7, u1, u2, u3, u4, u5, rfl, rw7⟩
   ·refine MidOk.both ?_ ?_ (by decide)
    ·intro val a w9 hb9 hdep hold K hK
     obtain ⟨b1, S7, N7, G7, D7, T7, u1, u2, u3, u4, u5, h1, rw7⟩ := hdep 4 199 _ rfl rfl rfl
     replace b1 := ev_tmps (b1.trans h1)
     clear hdep hold h1
     go_simp
     exact hK _ _ (Below.refl _ _) rfl
    ·intro val a w9 hdep hold K hK
     obtain ⟨b1, y9, h1⟩ := hdep 4 199 _ rfl rfl rfl
     replace b1 := ev_tmps (b1.trans h1)
     clear hdep hold h1
     go_simp
     exact hK _ rfl
   ·refine MidOk.grow ?_ (by decide) rfl
    intro val a w9 hb9 hdep hold K hK
    have hs9 := hb9.size
    clear hdep hold
    go_simp
    exact hK _ _ (balloc (Below.refl _ _) _) ⟨_, rfl, hs9, Blk.new _ _ _⟩
   ·refine MidOk.store ?_ rfl
    intro val a w9 hb9 hall hdep hold K hK
    obtain ⟨g, h2, hg, hkG⟩ := hall 7 (by decide) (by decide) rfl
    obtain ⟨S7, N7, G7, D7, T7, u1, u2, u3, u4, u5, h1, rw7⟩ := hall 5 (by decide) (by decide) rfl
    simp only at hg h1 rw7
    have b1 := ev_tmps ((hdep 7 34 _ rfl rfl (by decide) rfl).trans h2)
    have b2 := ev_tmps ((hdep 5 204 _ rfl rfl (by decide) rfl).trans h1)
    have hFa := hK undef
    clear hall hdep hold hK h1
    have q0 : World.cell? w9 ⟨g, 0, none⟩ = some (.slice none 0 0) := hkG.cell 0
    have f0 := hkG.frozen 0
    have q1 : World.cell? w9 ⟨g, 1, none⟩ = some (.slice none 0 0) := hkG.cell 1
    have f1 := hkG.frozen 1
    have q2 : World.cell? w9 ⟨g, 2, none⟩ = some (.slice none 0 0) := hkG.cell 2
    have f2 := hkG.frozen 2
    have q3 : World.cell? w9 ⟨g, 3, none⟩ = some (.slice none 0 0) := hkG.cell 3
    have f3 := hkG.frozen 3
    have q4 : World.cell? w9 ⟨g, 4, none⟩ = some (.slice none 0 0) := hkG.cell 4
    have f4 := hkG.frozen 4
    have fl := hkG.lt
    go_simp
    refine hFa _ ⟨g, S7, N7, G7, D7, T7, u1, u2, u3, u4, u5, by rw [upd_ne _ (by decide)]; exact h2, hg, (rw7.put5 hkG).2, (rw7.put5 hkG).1, ((((hb9.setCell (p := ⟨g, 0, none⟩) hg _).setCell (p := ⟨g, 1, none⟩) hg _).setCell (p := ⟨g, 2, none⟩) hg _).setCell (p := ⟨g, 3, none⟩) hg _).setCell (p := ⟨g, 4, none⟩) hg _⟩ trivial
   ·refine MidOk.both ?_ ?_ (by decide)
    ·intro val a w9 hb9 hdep hold K hK
     have b1 : a.tmps[205]?.getD undef = .int .i64 36 := ev_tmps ((hdep 6 205 _ rfl rfl rfl).1.trans (hdep 6 205 _ rfl rfl rfl).2)
     clear hdep hold
     go_simp
     exact hK _ _ (Below.refl _ _) rfl
    ·intro val a w9 hdep hold K hK
     have b1 : a.tmps[205]?.getD undef = .int .i64 36 := ev_tmps ((hdep 6 205 _ rfl rfl rfl).1.trans (hdep 6 205 _ rfl rfl rfl).2)
     clear hdep hold
     go_simp
     exact hK _ rfl
   ·rintro val w' ⟨g, S7, N7, G7, D7, T7, u1, u2, u3, u4, u5, h10, hg, hkG, rw7, hb7⟩ hP
    have h12 : val 9 = .int .i64 36 := hP 9 (by decide)
    clear hP
    simp only [putL, Act.put, List.setIfInBounds_toArray, List.set_cons_zero, List.set_cons_succ, h10, h12]
    go_wp2_with fail
    go_meet
    exact ⟨g, S7, N7, G7, D7, T7, u1, u2, u3, u4, u5, rfl, rfl, hkG, rw7, hb7, hg⟩
 case rest => as_aux_lemma =>
 obtain ⟨g7, S7, N7, G7, D7, T7, u1, u2, u3, u4, u5, rfl, rfl, hk7, rw7, hb7, hg7⟩ := hcut
 obtain ⟨W19, rfl⟩ : ∃ W19, W19 = wc := ⟨_, rfl⟩
 replace hB := bstep hB hb7
 replace hk10 := hk10.keep hb7
 replace rw10 := rw10.keep hb7
 replace hk30 := hk30.keep hb7
 replace rw30 := rw30.keep hb7
 replace hk32 := hk32.keep hb7
 replace rw32 := rw32.keep hb7
 clear hb7 hg7 hk7 rw7
 have p0 : World.cell? W19 ⟨g32, 0, none⟩ = some (.slice S32 RX0.a.s.length z32_1) := hk32.cell 0
 have g0 := hk32.frozen 0
 have p1 : World.cell? W19 ⟨g32, 1, none⟩ = some (.slice N32 RX0.a.n.length z32_2) := hk32.cell 1
 have g1 := hk32.frozen 1
 have p2 : World.cell? W19 ⟨g32, 2, none⟩ = some (.slice G32 RX0.a.g.length z32_3) := hk32.cell 2
 have g2 := hk32.frozen 2
 have p3 : World.cell? W19 ⟨g32, 3, none⟩ = some (.slice D32 RX0.d.length z32_4) := hk32.cell 3
 have g3 := hk32.frozen 3
 have p4 : World.cell? W19 ⟨g32, 4, none⟩ = some (.slice T32 RX0.t.length z32_5) := hk32.cell 4
 have g4 := hk32.frozen 4
 have gl := hk32.lt
 go_wp2_with fail
 refine (HTW.out _ _ _ _ _ _ _ _ _ _ _ rw32).mono ?_
 rintro _ v20 ⟨S36, N36, G36, D36, T36, z36_1, z36_2, z36_3, z36_4, z36_5, rfl, cw36, hb⟩
 replace hB := bstep hB hb
 replace hk10 := hk10.keep hb
 replace rw10 := rw10.keep hb
 replace hk30 := hk30.keep hb
 replace rw30 := rw30.keep hb
 clear hb hk32 rw32 p0 p1 p2 p3 p4 g0 g1 g2 g3 g4 gl
 go_upto_region 20 with (fail)
 obtain ⟨W20, hW20⟩ : ∃ W20, W20 = v20.alloc (.cells #[.slice S36 RX0.a.s.length z36_1, .slice N36 RX0.a.n.length z36_2, .slice G36 RX0.a.g.length z36_3, .slice D36 RX0.d.length z36_4, .slice T36 RX0.t.length z36_5] 42) := ⟨_, rfl⟩
 have hk36 : Blk W20 v20.heap.size 42 #[.slice S36 RX0.a.s.length z36_1, .slice N36 RX0.a.n.length z36_2, .slice G36 RX0.a.g.length z36_3, .slice D36 RX0.d.length z36_4, .slice T36 RX0.t.length z36_5] := by rw [hW20]; exact Blk.new _ _ _
 have hbu : Below v20.heap.size v20 W20 := by rw [hW20]; exact balloc (Below.refl _ _) _
 have hsu : W20.heap.size = v20.heap.size + 1 := by rw [hW20]; simp
 rw [← hW20]
 clear hW20
 replace cw36 := cw36.keep hbu
 obtain ⟨g36, hg36⟩ : ∃ g36, g36 = v20.heap.size := ⟨_, rfl⟩
 rw [← hg36] at hk36 ⊢
 have hge36 : v20.heap.size ≤ g36 := by omega
 clear hg36 hsu
 have p0 : World.cell? W20 ⟨g36, 0, none⟩ = some (.slice S36 RX0.a.s.length z36_1) := hk36.cell 0
 have g0 := hk36.frozen 0
 have p1 : World.cell? W20 ⟨g36, 1, none⟩ = some (.slice N36 RX0.a.n.length z36_2) := hk36.cell 1
 have g1 := hk36.frozen 1
 have p2 : World.cell? W20 ⟨g36, 2, none⟩ = some (.slice G36 RX0.a.g.length z36_3) := hk36.cell 2
 have g2 := hk36.frozen 2
 have p3 : World.cell? W20 ⟨g36, 3, none⟩ = some (.slice D36 RX0.d.length z36_4) := hk36.cell 3
 have g3 := hk36.frozen 3
 have p4 : World.cell? W20 ⟨g36, 4, none⟩ = some (.slice T36 RX0.t.length z36_5) := hk36.cell 4
 have g4 := hk36.frozen 4
 have gl := hk36.lt
 go_upto_region 21 with (fail)
 obtain ⟨W21, hW21⟩ : ∃ W21, W21 = (W20.setCell ⟨g36, 3, none⟩ (.slice (some ⟨W20.heap.size, 0, none⟩) 2 2)).alloc (.cells zB2 4) := ⟨_, rfl⟩
 have hk37 : Blk W21 g36 42 #[.slice S36 RX0.a.s.length z36_1, .slice N36 RX0.a.n.length z36_2, .slice G36 RX0.a.g.length z36_3, .slice (some ⟨W20.heap.size, 0, none⟩) 2 2, .slice T36 RX0.t.length z36_5] := by rw [hW21]; exact (hk36.put 3 _).alloc _
 have cw37 := (cw36.far (p := ⟨g36, 3, none⟩) hk36 (.slice (some ⟨W20.heap.size, 0, none⟩) 2 2)).keep (balloc (Below.refl _ _) (.cells zB2 4))
 rw [← hW21] at cw37
 have rb37 : RBo W21 (some ⟨W20.heap.size, 0, none⟩) [false, false] := by rw [hW21]; exact zB2_RBo (Blk.newAt (w := W20.setCell ⟨g36, 3, none⟩ (.slice (some ⟨W20.heap.size, 0, none⟩) 2 2)) (g := W20.heap.size) 4 zB2 (by simp))
 have rw37 := HRW.out _ _ _ _ _ _ _ _ _ _ _ _ _ cw37 rb37
 have hb21 : Below v20.heap.size v20 W21 := by rw [hW21]; exact balloc (hbu.setCell (p := ⟨g36, 3, none⟩) hge36 _) _
 rw [← hW21]
 replace hB := bstep hB hb21
 replace hk10 := hk10.keep hb21
 replace rw10 := rw10.keep hb21
 replace hk30 := hk30.keep hb21
 replace rw30 := rw30.keep hb21
 clear hW21 p0 p1 p2 p3 p4 g0 g1 g2 g3 g4 gl hk36 cw36 cw37 rb37 hb21 hbu hge36
 generalize hgB : W20.heap.size = gB at *
 clear hgB
 go_cut [37, 38] from 210 to 210 (fun sa sb wc => (∃ A c, sa = .slice A 0 c) ∧ sb = .int .i64 8 ∧ Below W21.heap.size W21 wc)
 case first =>
  have HH := Lib.hid (fun W (hW : Below (World.heap W21).size W21 W) => (show W.cell? ⟨g36, 0, none⟩ = some (.slice S36 RX0.a.s.length z36_1) ∧ W.cell? ⟨g36, 1, none⟩ = some (.slice N36 RX0.a.n.length z36_2) ∧ W.cell? ⟨g36, 2, none⟩ = some (.slice G36 RX0.a.g.length z36_3) ∧ W.cell? ⟨g36, 3, none⟩ = some (.slice (some ⟨gB, 0, none⟩) 2 2) ∧ W.cell? ⟨g36, 4, none⟩ = some (.slice T36 RX0.t.length z36_5) ∧ g36 < W.heap.size from ⟨(hk37.keep hW).cell 0, (hk37.keep hW).cell 1, (hk37.keep hW).cell 2, (hk37.keep hW).cell 3, (hk37.keep hW).cell 4, (hk37.keep hW).lt⟩))
  have p0 : World.cell? W21 ⟨g36, 0, none⟩ = some (.slice S36 RX0.a.s.length z36_1) := hk37.cell 0
  have g0 := hk37.frozen 0
  have p1 : World.cell? W21 ⟨g36, 1, none⟩ = some (.slice N36 RX0.a.n.length z36_2) := hk37.cell 1
  have g1 := hk37.frozen 1
  have p2 : World.cell? W21 ⟨g36, 2, none⟩ = some (.slice G36 RX0.a.g.length z36_3) := hk37.cell 2
  have g2 := hk37.frozen 2
  have p3 : World.cell? W21 ⟨g36, 3, none⟩ = some (.slice (some ⟨gB, 0, none⟩) 2 2) := hk37.cell 3
  have g3 := hk37.frozen 3
  have p4 : World.cell? W21 ⟨g36, 4, none⟩ = some (.slice T36 RX0.t.length z36_5) := hk37.cell 4
  have g4 := hk37.frozen 4
  have gl := hk37.lt
  go_region_law
   ((first
     |(go_simp; go_at_call 33; (with_reducible refine (given_any (World.drew W21)).mono ?_); rintro e w8 ⟨X8, Y8, rfl, rx8, ry8, hb8'⟩; have hb8 : Below (World.heap W21).size W21 w8 := bstep (Below.drew (Below.refl _ _)) hb8'; have k0 := (HH.out _ hb8).1; have k1 := (HH.out _ hb8).2.1; have k2 := (HH.out _ hb8).2.2.1; have k3 := (HH.out _ hb8).2.2.2.1; have k4 := (HH.out _ hb8).2.2.2.2.1; have k5 := (HH.out _ hb8).2.2.2.2.2; have rw8 := rw37.keep hb8)
     |(go_simp; go_at_call 26; (with_reducible refine (HRB.out X8 Y8 S36 N36 G36 (some ⟨gB, 0, none⟩) T36 z36_1 z36_2 z36_3 2 z36_5 w8 rx8 ry8 rw8).mono ?_); rintro e w9 ⟨⟨A9, c9, rfl⟩, hb9⟩)
     | fail))
  all_goals
   go_wp2_with fail
   go_meet
   exact ⟨⟨A9, c9, rfl⟩, rfl, bstep hb8 hb9⟩
 case rest => as_aux_lemma =>
 obtain ⟨⟨A37, c37, rfl⟩, rfl, hb7⟩ := hcut
 obtain ⟨W22, rfl⟩ : ∃ W22, W22 = wc := ⟨_, rfl⟩
 replace hB := bstep hB hb7
 replace hk10 := hk10.keep hb7
 replace rw10 := rw10.keep hb7
 replace hk30 := hk30.keep hb7
 replace rw30 := rw30.keep hb7
 clear hb7 hk37 rw37
 go_upto_region 22 with (fail)
 go_cut [39, 40, 41] from 216 to 216 (fun sa sb sc wc => (∃ g, sa = .pointer (some ⟨g, 0, none⟩)) ∧ sb = .int .i64 0 ∧ sc = .int .i64 4 ∧ Below W22.heap.size W22 wc)
 case first =>
  refine wp_region_mid (by kernel_rfl) (by kernel_rfl) (by kernel_rfl) (Nm2P.F ⟨R00, W22.heap.size⟩) (Nm2P.P ⟨R00, W22.heap.size⟩) 8 (Nm2P.E W22) (fun i => i == 5 || i == 6 || i == 9 || i == 10) (by kernel_rfl) (Nm2P.keep _) (Nm2P.val _) (Nm2P.upd _) ⟨?_, ?_, ?_, ?_, ?_, ?_, ?_, ?_, ?_, ?_, ?_, trivial⟩ ?_
  ·refine MidOk.grow ?_ (by decide) rfl
   intro val a w9 hb9 hdep hold K hK
   refine grow_call (vs := #[]) rfl rfl (by simp) Try.call33 ((given_any w9).mono ?_)
   rintro e w' ⟨X1, Y1, rfl, rx, ry, hb7⟩
   exact ⟨_, rfl, hK _ _ hb7 ⟨X1, Y1, rfl, rx, ry⟩⟩
  ·refine MidOk.grow ?_ (by decide) rfl
   intro val a w9 hb9 hdep hold K hK
   clear hdep hold
   go_simp
   exact hK _ _ (balloc (Below.refl _ _) _) ⟨_, rfl, zE_RE (Blk.new _ _ _)⟩
  ·refine MidOk.grow ?_ (by decide) rfl
   intro val a w9 hb9 hdep hold K hK
   obtain ⟨b1, X1, Y1, h1, rx, ry⟩ := hdep 0 217 _ rfl rfl rfl
   replace b1 := b1.trans h1
   obtain ⟨b2, g2, h2, re2⟩ := hdep 1 218 _ rfl rfl rfl
   replace b2 := b2.trans h2
   refine grow_call (vs := #[.agg #[.slice X1 3 3, .slice Y1 3 3, .int .i64 0, .int .i64 2], .int .i64 1, .slice (some ⟨g2, 0, none⟩) 401 401]) rfl rfl (by simp [b1, b2]; rfl) Try.call24 ((H401.out X1 Y1 g2 w9 rx ry re2).mono ?_)
   rintro e w' ⟨S7, N7, G7, D7, T7, u1, u2, u3, u4, u5, rfl, rw7, hb7⟩
   exact ⟨_, rfl, hK _ _ hb7 ⟨S7, N7, G7, D7, T7, u1, u2, u3, u4, u5, rfl, rw7⟩⟩
  ·refine MidOk.grow ?_ (by decide) rfl
   intro val a w9 hb9 hdep hold K hK
   obtain ⟨b1, S7, N7, G7, D7, T7, u1, u2, u3, u4, u5, h1, rw7⟩ := hdep 2 219 _ rfl rfl rfl
   replace b1 := ev_tmps (b1.trans h1)
   clear hdep hold h1
   go_simp
   exact hK _ _ (Below.refl _ _) ⟨S7, N7, G7, D7, T7, u1, u2, u3, u4, u5, rfl, rw7⟩
  ·refine MidOk.grow ?_ (by decide) rfl
   intro val a w9 hb9 hdep hold K hK
   obtain ⟨b1, S7, N7, G7, D7, T7, u1, u2, u3, u4, u5, h1, rw7⟩ := hdep 3 216 _ rfl rfl rfl
   replace b1 := ev_tmps (b1.trans h1)
   clear hdep hold h1
   go_simp
   exact hK _ _ (Below.refl _ _) ⟨S7, N7, G7, D7, T7, u1, u2, u3, u4, u5, rfl, rw7⟩
  ·refine MidOk.both ?_ ?_ (by decide)
   ·intro val a w9 hb9 hdep hold K hK
    obtain ⟨b1, S7, N7, G7, D7, T7, u1, u2, u3, u4, u5, h1, rw7⟩ := hdep 3 216 _ rfl rfl rfl
    replace b1 := ev_tmps (b1.trans h1)
    clear hdep hold h1
    go_simp
    exact hK _ _ (Below.refl _ _) rfl
   ·intro val a w9 hdep hold K hK
    obtain ⟨b1, y9, h1⟩ := hdep 3 216 _ rfl rfl rfl
    replace b1 := ev_tmps (b1.trans h1)
    clear hdep hold h1
    go_simp
    exact hK _ rfl
  ·refine MidOk.both ?_ ?_ (by decide)
   ·intro val a w9 hb9 hdep hold K hK
    obtain ⟨b1, S7, N7, G7, D7, T7, u1, u2, u3, u4, u5, h1, rw7⟩ := hdep 3 216 _ rfl rfl rfl
    replace b1 := ev_tmps (b1.trans h1)
    clear hdep hold h1
    go_simp
    exact hK _ _ (Below.refl _ _) rfl
   ·intro val a w9 hdep hold K hK
    obtain ⟨b1, y9, h1⟩ := hdep 3 216 _ rfl rfl rfl
    replace b1 := ev_tmps (b1.trans h1)
    clear hdep hold h1
    go_simp
    exact hK _ rfl
  ·refine MidOk.grow ?_ (by decide) rfl
   intro val a w9 hb9 hdep hold K hK
   have hs9 := hb9.size
   clear hdep hold
   go_simp
   exact hK _ _ (balloc (Below.refl _ _) _) ⟨_, rfl, hs9, Blk.new _ _ _⟩
  ·refine MidOk.store ?_ rfl
   intro val a w9 hb9 hall hdep hold K hK
   obtain ⟨g, h2, hg, hkG⟩ := hall 7 (by decide) (by decide) rfl
   obtain ⟨S7, N7, G7, D7, T7, u1, u2, u3, u4, u5, h1, rw7⟩ := hall 4 (by decide) (by decide) rfl
   simp only at hg h1 rw7
   have b1 := ev_tmps ((hdep 7 39 _ rfl rfl (by decide) rfl).trans h2)
   have b2 := ev_tmps ((hdep 4 220 _ rfl rfl (by decide) rfl).trans h1)
   have hFa := hK undef
   clear hall hdep hold hK h1
   have q0 : World.cell? w9 ⟨g, 0, none⟩ = some (.slice none 0 0) := hkG.cell 0
   have f0 := hkG.frozen 0
   have q1 : World.cell? w9 ⟨g, 1, none⟩ = some (.slice none 0 0) := hkG.cell 1
   have f1 := hkG.frozen 1
   have q2 : World.cell? w9 ⟨g, 2, none⟩ = some (.slice none 0 0) := hkG.cell 2
   have f2 := hkG.frozen 2
   have q3 : World.cell? w9 ⟨g, 3, none⟩ = some (.slice none 0 0) := hkG.cell 3
   have f3 := hkG.frozen 3
   have q4 : World.cell? w9 ⟨g, 4, none⟩ = some (.slice none 0 0) := hkG.cell 4
   have f4 := hkG.frozen 4
   have fl := hkG.lt
   go_simp
   refine hFa _ ⟨⟨g, by rw [upd_ne _ (by decide)]; exact h2⟩, ((((hb9.setCell (p := ⟨g, 0, none⟩) hg _).setCell (p := ⟨g, 1, none⟩) hg _).setCell (p := ⟨g, 2, none⟩) hg _).setCell (p := ⟨g, 3, none⟩) hg _).setCell (p := ⟨g, 4, none⟩) hg _⟩ trivial
  ·refine MidOk.both ?_ ?_ (by decide)
   ·intro val a w9 hb9 hdep hold K hK
    have b1 : a.tmps[221]?.getD undef = .int .i64 0 := ev_tmps ((hdep 5 221 _ rfl rfl rfl).1.trans (hdep 5 221 _ rfl rfl rfl).2)
    clear hdep hold
    go_simp
    exact hK _ _ (Below.refl _ _) rfl
   ·intro val a w9 hdep hold K hK
    have b1 : a.tmps[221]?.getD undef = .int .i64 0 := ev_tmps ((hdep 5 221 _ rfl rfl rfl).1.trans (hdep 5 221 _ rfl rfl rfl).2)
    clear hdep hold
    go_simp
    exact hK _ rfl
  ·refine MidOk.both ?_ ?_ (by decide)
   ·intro val a w9 hb9 hdep hold K hK
    have b1 : a.tmps[222]?.getD undef = .int .i64 4 := ev_tmps ((hdep 6 222 _ rfl rfl rfl).1.trans (hdep 6 222 _ rfl rfl rfl).2)
    clear hdep hold
    go_simp
    exact hK _ _ (Below.refl _ _) rfl
   ·intro val a w9 hdep hold K hK
    have b1 : a.tmps[222]?.getD undef = .int .i64 4 := ev_tmps ((hdep 6 222 _ rfl rfl rfl).1.trans (hdep 6 222 _ rfl rfl rfl).2)
    clear hdep hold
    go_simp
    exact hK _ rfl
  ·rintro val w' ⟨⟨g, h10⟩, hb7⟩ hP
   have h12 : val 9 = .int .i64 0 := hP 9 (by decide)
   have h13 : val 10 = .int .i64 4 := hP 10 (by decide)
   clear hP
   simp only [putL, Act.put, List.setIfInBounds_toArray, List.set_cons_zero, List.set_cons_succ, h10, h12, h13]
   go_wp2_with fail
   go_meet
   exact ⟨⟨g, rfl⟩, rfl, rfl, hb7⟩
 case rest => as_aux_lemma =>
 obtain ⟨⟨g39, rfl⟩, rfl, rfl, hb7⟩ := hcut
 obtain ⟨W23, rfl⟩ : ∃ W23, W23 = wc := ⟨_, rfl⟩
 replace hB := bstep hB hb7
 replace hk10 := hk10.keep hb7
 replace rw10 := rw10.keep hb7
 replace hk30 := hk30.keep hb7
 replace rw30 := rw30.keep hb7
 clear hb7
 obtain ⟨i0, hi0, hz0, hz1, hz2⟩ := info_parts info_ev
 go_wp2_with fail
 refine (given_any _).mono ?_
 rintro _ v24 ⟨X1, Y1, rfl, rx1, ry1, hb1⟩
 replace hk10 := hk10.keep hb1
 replace rw10 := rw10.keep hb1
 replace hk30 := hk30.keep hb1
 replace rw30 := rw30.keep hb1
 replace hB := bstep hB hb1
 clear hb1
 go_wp2_with fail
 refine (happens_blk _).mono ?_
 rintro _ v25 ⟨gh, rfl, hgh, hkh, hb1⟩
 have hBe := hb1
 have hsv := hb1.size
 have hown := own_blk (size := 3) (n := 7) hkh hgh (by rfl) (by unfold maxLen; omega)
 clear hb1
 go_wp2_with (at_builtin; refine wpList_append_own _ rfl _ _ 55 rfl v24.heap.size 54 i0 _ 3 24 Try.underlying55 hi0 hz0 hz1 hz2 rfl (by decide) _ 7 _ rfl (hown.alloc _) ⟨v25.heap.size, 0, none⟩ 1 1 (encE ⟨2, 0, 0⟩) rfl rfl (enc_news _ rfl) (encE_one _) (by unfold maxLen; omega) (by omega) (by simp; omega) ?_; intro v' v26 hown2 hgrow2 _; obtain ⟨A8, c8, rfl⟩ := own_shape hown2; have hb26 := own_below (hBe.alloc hsv (.cells #[.int .u8 2, .int .i64 0, .int .i64 0] 54)) (hown.alloc _) hgrow2 (Nat.le_refl _) (by simp; omega))
 have re8 : RE v26 A8 hap8 := hap8_own hown2
 replace hB := bstep hB hb26
 replace hk10 := hk10.keep hb26
 replace rw10 := rw10.keep hb26
 replace hk30 := hk30.keep hb26
 replace rw30 := rw30.keep hb26
 replace rx1 := rx1.keep hb26
 replace ry1 := ry1.keep hb26
 clear hb26 hown2 hgrow2 hown hBe hsv hkh
 go_wp2_with fail
 refine (HR8.out _ _ _ _ _ rx1 ry1 re8).mono ?_
 rintro _ v27 ⟨S42, N42, G42, D42, T42, z42_1, z42_2, z42_3, z42_4, z42_5, rfl, rw42, hb2⟩
 replace hB := bstep hB hb2
 replace hk10 := hk10.keep hb2
 replace rw10 := rw10.keep hb2
 replace hk30 := hk30.keep hb2
 replace rw30 := rw30.keep hb2
 clear hb2 rx1 ry1 re8 rw42
 go_upto_region 24 with (fail)
 obtain ⟨W24, hW24⟩ : ∃ W24, W24 = v27.alloc (.cells #[.slice S42 RP0.a.s.length z42_1, .slice N42 RP0.a.n.length z42_2, .slice G42 RP0.a.g.length z42_3, .slice D42 RP0.d.length z42_4, .slice T42 RP0.t.length z42_5] 42) := ⟨_, rfl⟩
 have hk42 : Blk W24 v27.heap.size 42 #[.slice S42 RP0.a.s.length z42_1, .slice N42 RP0.a.n.length z42_2, .slice G42 RP0.a.g.length z42_3, .slice D42 RP0.d.length z42_4, .slice T42 RP0.t.length z42_5] := by rw [hW24]; exact Blk.new _ _ _
 have hbu : Below v27.heap.size v27 W24 := by rw [hW24]; exact balloc (Below.refl _ _) _
 rw [← hW24]
 clear hW24
 replace hB := bstep hB hbu
 replace hk10 := hk10.keep hbu
 replace rw10 := rw10.keep hbu
 replace hk30 := hk30.keep hbu
 replace rw30 := rw30.keep hbu
 clear hbu
 obtain ⟨g42, hg42⟩ : ∃ g42, g42 = v27.heap.size := ⟨_, rfl⟩
 rw [← hg42] at hk42 ⊢
 clear hg42
 go_wp2_with fail
 refine (HON.out _).mono ?_
 rintro _ v28 ⟨S45, N45, G45, D45, T45, z45_1, z45_2, z45_3, z45_4, z45_5, rfl, rw45, hb2⟩
 replace hB := bstep hB hb2
 replace hk10 := hk10.keep hb2
 replace rw10 := rw10.keep hb2
 replace hk30 := hk30.keep hb2
 replace rw30 := rw30.keep hb2
 replace hk42 := hk42.keep hb2
 clear hb2
 go_upto_region 25 with (fail)
 obtain ⟨W25, hW25⟩ : ∃ W25, W25 = v28.alloc (.cells #[.slice S45 RN0.a.s.length z45_1, .slice N45 RN0.a.n.length z45_2, .slice G45 RN0.a.g.length z45_3, .slice D45 RN0.d.length z45_4, .slice T45 RN0.t.length z45_5] 42) := ⟨_, rfl⟩
 have hk45 : Blk W25 v28.heap.size 42 #[.slice S45 RN0.a.s.length z45_1, .slice N45 RN0.a.n.length z45_2, .slice G45 RN0.a.g.length z45_3, .slice D45 RN0.d.length z45_4, .slice T45 RN0.t.length z45_5] := by rw [hW25]; exact Blk.new _ _ _
 have hbu : Below v28.heap.size v28 W25 := by rw [hW25]; exact balloc (Below.refl _ _) _
 rw [← hW25]
 clear hW25
 replace hB := bstep hB hbu
 replace hk10 := hk10.keep hbu
 replace rw10 := rw10.keep hbu
 replace hk30 := hk30.keep hbu
 replace rw30 := rw30.keep hbu
 replace hk42 := hk42.keep hbu
 replace rw45 := rw45.keep hbu
 clear hbu
 obtain ⟨g45, hg45⟩ : ∃ g45, g45 = v28.heap.size := ⟨_, rfl⟩
 rw [← hg45] at hk45 ⊢
 clear hg45
 have p0 : World.cell? W25 ⟨g45, 0, none⟩ = some (.slice S45 RN0.a.s.length z45_1) := hk45.cell 0
 have g0 := hk45.frozen 0
 have p1 : World.cell? W25 ⟨g45, 1, none⟩ = some (.slice N45 RN0.a.n.length z45_2) := hk45.cell 1
 have g1 := hk45.frozen 1
 have p2 : World.cell? W25 ⟨g45, 2, none⟩ = some (.slice G45 RN0.a.g.length z45_3) := hk45.cell 2
 have g2 := hk45.frozen 2
 have p3 : World.cell? W25 ⟨g45, 3, none⟩ = some (.slice D45 RN0.d.length z45_4) := hk45.cell 3
 have g3 := hk45.frozen 3
 have p4 : World.cell? W25 ⟨g45, 4, none⟩ = some (.slice T45 RN0.t.length z45_5) := hk45.cell 4
 have g4 := hk45.frozen 4
 have gl := hk45.lt
 go_wp2_with fail
 refine (HRN.out _ _ _ _ _ _ _ _ _ _ _ rw45).mono ?_
 rintro _ v29 ⟨A47, c47, rfl, ho47, hb2⟩
 replace hB := bstep hB hb2
 replace hk10 := hk10.keep hb2
 replace rw10 := rw10.keep hb2
 replace hk30 := hk30.keep hb2
 replace rw30 := rw30.keep hb2
 replace hk42 := hk42.keep hb2
 clear hb2 hk45 rw45 p0 p1 p2 p3 p4 g0 g1 g2 g3 g4 gl
 have rl47 : RL v29 A47 [(0, 0)] := own_RL ho47
 clear ho47
 go_wp2_with fail
 refine (alive19 _).mono ?_
 rintro _ v30 ⟨rfl, hb2⟩
 replace hB := bstep hB hb2
 replace hk10 := hk10.keep hb2
 replace rw10 := rw10.keep hb2
 replace hk30 := hk30.keep hb2
 replace rw30 := rw30.keep hb2
 replace hk42 := hk42.keep hb2
 replace rl47 := rl47.keep hb2
 clear hb2
 have pa0 : World.cell? v30 ⟨g30, 0, none⟩ = some (.slice S30 RW0.a.s.length z30_1) := hk30.cell 0
 have ga0 := hk30.frozen 0
 have pa1 : World.cell? v30 ⟨g30, 1, none⟩ = some (.slice N30 RW0.a.n.length z30_2) := hk30.cell 1
 have ga1 := hk30.frozen 1
 have pa2 : World.cell? v30 ⟨g30, 2, none⟩ = some (.slice G30 RW0.a.g.length z30_3) := hk30.cell 2
 have ga2 := hk30.frozen 2
 have pa3 : World.cell? v30 ⟨g30, 3, none⟩ = some (.slice D30 RW0.d.length z30_4) := hk30.cell 3
 have ga3 := hk30.frozen 3
 have pa4 : World.cell? v30 ⟨g30, 4, none⟩ = some (.slice T30 RW0.t.length z30_5) := hk30.cell 4
 have ga4 := hk30.frozen 4
 have gal := hk30.lt
 have pb0 : World.cell? v30 ⟨g10, 0, none⟩ = some (.slice S10 RW0.a.s.length z10_1) := hk10.cell 0
 have gb0 := hk10.frozen 0
 have pb1 : World.cell? v30 ⟨g10, 1, none⟩ = some (.slice N10 RW0.a.n.length z10_2) := hk10.cell 1
 have gb1 := hk10.frozen 1
 have pb2 : World.cell? v30 ⟨g10, 2, none⟩ = some (.slice G10 RW0.a.g.length z10_3) := hk10.cell 2
 have gb2 := hk10.frozen 2
 have pb3 : World.cell? v30 ⟨g10, 3, none⟩ = some (.slice D10 RW0.d.length z10_4) := hk10.cell 3
 have gb3 := hk10.frozen 3
 have pb4 : World.cell? v30 ⟨g10, 4, none⟩ = some (.slice T10 RW0.t.length z10_5) := hk10.cell 4
 have gb4 := hk10.frozen 4
 have gbl := hk10.lt
 go_wp2_with fail
 refine (HSA.out _ _ _ _ _ _ _ _ _ _ _ _ _ _ _ _ _ _ _ _ _ rw30 rw10).mono ?_
 rintro _ v31 ⟨rfl, hb2⟩
 replace hB := bstep hB hb2
 replace hk42 := hk42.keep hb2
 replace rl47 := rl47.keep hb2
 clear hb2 pa0 pa1 pa2 pa3 pa4 ga0 ga1 ga2 ga3 ga4 gal pb0 pb1 pb2 pb3 pb4 gb0 gb1 gb2 gb3 gb4 gbl hk10 hk30 rw10 rw30
 have p0 : World.cell? v31 ⟨g42, 0, none⟩ = some (.slice S42 RP0.a.s.length z42_1) := hk42.cell 0
 have g0 := hk42.frozen 0
 have p1 : World.cell? v31 ⟨g42, 1, none⟩ = some (.slice N42 RP0.a.n.length z42_2) := hk42.cell 1
 have g1 := hk42.frozen 1
 have p2 : World.cell? v31 ⟨g42, 2, none⟩ = some (.slice G42 RP0.a.g.length z42_3) := hk42.cell 2
 have g2 := hk42.frozen 2
 have p3 : World.cell? v31 ⟨g42, 3, none⟩ = some (.slice D42 RP0.d.length z42_4) := hk42.cell 3
 have g3 := hk42.frozen 3
 have p4 : World.cell? v31 ⟨g42, 4, none⟩ = some (.slice T42 RP0.t.length z42_5) := hk42.cell 4
 have g4 := hk42.frozen 4
 have gl := hk42.lt
 go_wp2_with fail
 refine (lagN_g _ _ _ _ _ (rl47.keep (balloc (Below.refl _ _) _)) (RL_lit [(0, 0)] _ (Blk.newAt _ _ rfl) rfl)).mono ?_
 rintro _ v32 ⟨rfl, n32, rfl⟩
 go_wp2
 go_ret
 exact ⟨rfl, below_drewN (balloc hB _) _⟩
end Wk
end Go.Proofs.Ytdekbncpodjgnaa
