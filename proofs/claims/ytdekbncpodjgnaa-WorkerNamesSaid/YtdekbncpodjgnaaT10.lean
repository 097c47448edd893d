/-
  Parts of the proof of WorkerNames: AccH Apart AccI.
-/
import Derived.Test.YtdekbncpodjgnaaT09
import Derived.Test.YtdekbncpodjgnaaT01
namespace Go.Proofs.Ytdekbncpodjgnaa
open Go.RowKit Runs Lagc
set_option linter.unusedVariables false
set_option linter.unusedSimpArgs false
theorem RetA.all {w w' : World} {r : Acc × Int} {S N G : Option Addr} {c1 c2 c3 : Nat} {x : Int} (hx : r.2 = x) (h : RA w' S N G r.1) (hf : FA w.heap.size S N G) (hb : Below w.heap.size w w') : RetA w r (.returned (.tuple #[.agg #[.slice S r.1.s.length c1, .slice N r.1.n.length c2, .slice G r.1.g.length c3], .int .i64 x])) w' := by
 subst hx; exact ⟨S, N, G, c1, c2, c3, rfl, h, hf, hb⟩
theorem newS_no {m : Int} (h : m < 0 ∨ 255 < m) : newS m = (.none, 2) := by unfold newS; rw [if_pos h]
theorem newS_yes {m : Nat} (h : m ≤ 255) : newS (m : Int) = (⟨List.replicate (2 * m + 1) (0, 0), List.replicate (2 * m + 1) (0, 0), []⟩, 0) := by
 unfold newS; rw [if_neg (by omega)]; simp
set_option maxHeartbeats 1000000 in
theorem accNew_any (m : Int) (w : World) (h : -9223372036854775808 ≤ m ∧ m ≤ 9223372036854775807) :
 Calls Try.prog 43 #[.int .i64 m] w (RetA w (newS m)) := by
 have hk3 := Blk.new w 39 #[.slice .none 0 0, .slice .none 0 0, .slice .none 0 0]
 have q0 : World.cell? (w.alloc (.cells #[.slice .none 0 0, .slice .none 0 0, .slice .none 0 0] 39)) ⟨w.heap.size, 0, none⟩ = some (.slice .none 0 0) := hk3.cell 0
 have f0 := hk3.frozen 0
 have q1 : World.cell? (w.alloc (.cells #[.slice .none 0 0, .slice .none 0 0, .slice .none 0 0] 39)) ⟨w.heap.size, 1, none⟩ = some (.slice .none 0 0) := hk3.cell 1
 have f1 := hk3.frozen 1
 have q2 : World.cell? (w.alloc (.cells #[.slice .none 0 0, .slice .none 0 0, .slice .none 0 0] 39)) ⟨w.heap.size, 2, none⟩ = some (.slice .none 0 0) := hk3.cell 2
 have f2 := hk3.frozen 2
 have fl := hk3.lt
 by_cases h1 : m < 0
 ·have HR := Lib.hid (newS_no (.inl h1))
  go_enter Try.func43, Try.ntmps43
  go_wp2
  exact bodyPost_ret (v := .tuple #[.agg #[.slice .none 0 0, .slice .none 0 0, .slice .none 0 0], .int .i64 2]) (by simp [results, Try.results43, go_sem, q0, q1, q2, f0, f1, f2, fl]) rfl (RetA.no HR.out (by (repeat (first | with_reducible exact Below.refl _ _ | assumption | with_reducible refine below_drewN ?_ _ | with_reducible refine Below.drew ?_ | with_reducible refine balloc ?_ _ | (with_reducible refine Below.setCell ?_ ?_ _; rotate_left; focus (first | (simp; done) | (simp; omega) | omega))))))
 by_cases h2 : 255 < m
 ·have HR := Lib.hid (newS_no (.inr h2))
  go_enter Try.func43, Try.ntmps43
  go_wp2
  exact bodyPost_ret (v := .tuple #[.agg #[.slice .none 0 0, .slice .none 0 0, .slice .none 0 0], .int .i64 2]) (by simp [results, Try.results43, go_sem, q0, q1, q2, f0, f1, f2, fl]) rfl (RetA.no HR.out (by (repeat (first | with_reducible exact Below.refl _ _ | assumption | with_reducible refine below_drewN ?_ _ | with_reducible refine Below.drew ?_ | with_reducible refine balloc ?_ _ | (with_reducible refine Below.setCell ?_ ?_ _; rotate_left; focus (first | (simp; done) | (simp; omega) | omega))))))
 obtain ⟨M, rfl⟩ : ∃ M : Nat, m = M := ⟨m.toNat, by omega⟩
 have HR := Lib.hid (newS_yes (m := M) (by omega))
 obtain ⟨i0, hi0, hz0, hz1, hz2⟩ := info_parts info_count
 have hmk := mk_row (P := Try.prog) 36 97 Try.underlying36 hi0 hz0 hz1 hz2 encP encP_len (by omega) (0, 0) rfl (2 * M + 1) (by omega) (by omega)
 have hcast : (2 : Int) * (M : Int) + 1 = ((2 * M + 1 : Nat) : Int) := by omega
 rw [← hcast] at hmk
 clear hcast
 go_enter Try.func43, Try.ntmps43
 go_wp2
 go_region
 all_goals go_wp2
 ·refine bodyPost_ret (v := .tuple #[.agg #[.slice (some ⟨w.heap.size + 1, 0, none⟩) (2 * M + 1) (2 * M + 1), .slice (some ⟨w.heap.size + 2, 0, none⟩) (2 * M + 1) (2 * M + 1), .slice .none 0 0], .int .i64 0]) (by simp [results, Try.results43, go_sem, q0, q1, q2, f0, f1, f2, fl]) rfl (RetA.yes HR.out (by simp) (by simp) rfl ⟨?_, Fresh.mk (by omega)⟩ ⟨?_, Fresh.mk (by omega)⟩ ⟨RL.nil, Fresh.none⟩ (by (repeat (first | with_reducible exact Below.refl _ _ | assumption | with_reducible refine below_drewN ?_ _ | with_reducible refine Below.drew ?_ | with_reducible refine balloc ?_ _ | (with_reducible refine Below.setCell ?_ ?_ _; rotate_left; focus (first | (simp; done) | (simp; omega) | omega))))))
  ·repeat (refine RL.far ?_ (base := w.heap.size + 1) (Fresh.mk (by omega)) (by simp) _)
   refine blk_RL (e := 97) ?_
   repeat (first | with_reducible refine Blk.drew ?_ | with_reducible refine Blk.drewN ?_ _ | (with_reducible refine Blk.newAt _ _ ?_; simp; done) | with_reducible refine Blk.alloc ?_ _)
  ·repeat (refine RL.far ?_ (base := w.heap.size + 1) (Fresh.mk (by omega)) (by simp) _)
   refine blk_RL (e := 97) ?_
   repeat (first | with_reducible refine Blk.drew ?_ | with_reducible refine Blk.drewN ?_ _ | (with_reducible refine Blk.newAt _ _ ?_; simp; done) | with_reducible refine Blk.alloc ?_ _)
 ·refine bodyPost_ret (v := .tuple #[.agg #[.slice (some ⟨w.heap.size + 2, 0, none⟩) (2 * M + 1) (2 * M + 1), .slice (some ⟨w.heap.size + 1, 0, none⟩) (2 * M + 1) (2 * M + 1), .slice .none 0 0], .int .i64 0]) (by simp [results, Try.results43, go_sem, q0, q1, q2, f0, f1, f2, fl]) rfl (RetA.yes HR.out (by simp) (by simp) rfl ⟨?_, Fresh.mk (by omega)⟩ ⟨?_, Fresh.mk (by omega)⟩ ⟨RL.nil, Fresh.none⟩ (by (repeat (first | with_reducible exact Below.refl _ _ | assumption | with_reducible refine below_drewN ?_ _ | with_reducible refine Below.drew ?_ | with_reducible refine balloc ?_ _ | (with_reducible refine Below.setCell ?_ ?_ _; rotate_left; focus (first | (simp; done) | (simp; omega) | omega))))))
  ·repeat (refine RL.far ?_ (base := w.heap.size + 1) (Fresh.mk (by omega)) (by simp) _)
   refine blk_RL (e := 97) ?_
   repeat (first | with_reducible refine Blk.drew ?_ | with_reducible refine Blk.drewN ?_ _ | (with_reducible refine Blk.newAt _ _ ?_; simp; done) | with_reducible refine Blk.alloc ?_ _)
  ·repeat (refine RL.far ?_ (base := w.heap.size + 1) (Fresh.mk (by omega)) (by simp) _)
   refine blk_RL (e := 97) ?_
   repeat (first | with_reducible refine Blk.drew ?_ | with_reducible refine Blk.drewN ?_ _ | (with_reducible refine Blk.newAt _ _ ?_; simp; done) | with_reducible refine Blk.alloc ?_ _)
end Go.Proofs.Ytdekbncpodjgnaa
namespace Go.Proofs.Ytdekbncpodjgnaa
open Go.RowKit
set_option linter.unusedVariables false
theorem kept_apart {w w' : World} {base : Nat} {e e' : TypeId} {s s' n m : Nat} {va vb : Value} {xs ys : List Value} (hb : w.ownsRow base e s vb n xs) (hg : w.grownBy w' va.ownBlock) (hd : ∀ g, va.ownBlock = some g → vb.ownBlock ≠ some g) : w'.ownsRow base e s vb n xs := by
 refine hb.kept hg ?_
 cases h : va.ownBlock with
 | none =>
  cases h2 : vb.ownBlock with
  | none => exact .inl rfl
  | some g => exact .inr (by simp)
 | some g => exact .inr (fun h2 => hd g h h2)
theorem apart_one {wr : World} {base : Nat} {e : TypeId} {s n : Nat} {va vb : Value} {xs : List Value} {g H : Nat} (hB : wr.ownsRow base e s vb n xs) (hAB : ∀ g, va.ownBlock = some g → vb.ownBlock ≠ some g) (hat : va.ownBlock = some g ∨ g = H) (hH : wr.heap.size ≤ H) : vb.ownBlock ≠ some g := by
 rcases hat with h | h
 ·exact hAB g h
 ·intro h2
  have := (hB.lt g h2).2
  omega
end Go.Proofs.Ytdekbncpodjgnaa
namespace Go.Proofs.Ytdekbncpodjgnaa
open Go.RowKit Runs Lagc
set_option linter.unusedVariables false
set_option linter.unusedSimpArgs false
theorem addAcc_e1 {a : Acc} {l : List (Int × Int)} {p m : Int} (h : accErr a ≠ 0) : addAcc a l p m = (.none, accErr a) := by unfold addAcc; rw [if_pos h]
theorem addAcc_e2 {a : Acc} {l : List (Int × Int)} {p m : Int} (h : accErr a = 0) (h2 : lagErr l ≠ 0) : addAcc a l p m = (.none, lagErr l) := by unfold addAcc; rw [if_neg (by simpa using h), if_pos h2]
theorem addAcc_e3 {a : Acc} {l : List (Int × Int)} {p m : Int} (h : accErr a = 0) (h2 : lagErr l = 0) (h3 : addArg a l p m = true) : addAcc a l p m = (.none, 2) := by unfold addAcc; rw [if_neg (by simpa using h), if_neg (by simpa using h2), if_pos h3]
theorem addAcc_e0 {a : Acc} {l : List (Int × Int)} {p m : Int} (h : accErr a = 0) (h2 : lagErr l = 0) (h3 : addArg a l p m = false) : addAcc a l p m = mrg a (lagAcc l p m) := by unfold addAcc; rw [if_neg (by simpa using h), if_neg (by simpa using h2), if_neg (by rw [h3]; simp)]
set_option maxRecDepth 20000 in
set_option maxHeartbeats 1000000 in
theorem accAdd_no (S N G L : Option Addr) (c1 c2 c3 c4 : Nat) (a : Acc) (l : List (Int × Int)) (p m : Int) (w : World) (hx : RA w S N G a) (hL : RL w L l) (l1 : a.s.length ≤ 140737488355328) (l2 : a.n.length ≤ 140737488355328) (l3 : a.g.length ≤ 140737488355328) (l4 : l.length ≤ 140737488355328) (hp : -9223372036854775808 ≤ p ∧ p ≤ 9223372036854775807) (hm : -9223372036854775808 ≤ m ∧ m ≤ 9223372036854775807)
 (hno : ¬ (accErr a = 0 ∧ lagErr l = 0 ∧ addArg a l p m = false)) :
 Calls Try.prog 78 #[.agg #[.slice S a.s.length c1, .slice N a.n.length c2, .slice G a.g.length c3], .slice L l.length c4, .int .i64 p, .int .i64 m] w (RetA w (addAcc a l p m)) := by
 have hbX : Below w.heap.size w ((w.alloc (.cells #[.slice S a.s.length c1, .slice N a.n.length c2, .slice G a.g.length c3] 39)).alloc (.cells #[.slice .none 0 0, .slice .none 0 0, .slice .none 0 0] 39)) := balloc (balloc (Below.refl _ _) _) _
 have hk1 := (Blk.new w 39 #[.slice S a.s.length c1, .slice N a.n.length c2, .slice G a.g.length c3]).alloc (.cells #[.slice .none 0 0, .slice .none 0 0, .slice .none 0 0] 39)
 have hk3 := Blk.newAt (w := (w.alloc (.cells #[.slice S a.s.length c1, .slice N a.n.length c2, .slice G a.g.length c3] 39))) (g := w.heap.size + 1) 39 #[.slice .none 0 0, .slice .none 0 0, .slice .none 0 0] (by simp)
 have HCA := fun w hx => accCheck_any S N G c1 c2 c3 a w hx l1 l2 l3
 have HCL := fun w hx => lagCheck_any L c4 l w hx l4
 by_cases ea : accErr a = 0
 ·by_cases el : lagErr l = 0
  ·have h3 : addArg a l p m = true := by
    cases e : addArg a l p m
    ·exact absurd ⟨ea, el, e⟩ hno
    ·rfl
   have HR := Lib.hid (addAcc_e3 ea el h3)
   have hls := (acc_fine.1 ea).ls
   have hll := (lagErr_zero el).1
   rw [ea] at HCA
   rw [el] at HCL
   have hd : (l.length ≠ a.s.length) ∨ (l.length = a.s.length ∧ m < 1) ∨ (l.length = a.s.length ∧ ¬ m < 1 ∧ 256 < m) ∨ (l.length = a.s.length ∧ ¬ m < 1 ∧ ¬ 256 < m ∧ p < 0) ∨ (l.length = a.s.length ∧ ¬ m < 1 ∧ ¬ 256 < m ∧ ¬ p < 0 ∧ 1000000000 - m < p) := by
    unfold addArg at h3
    rw [decide_eq_true_eq] at h3
    omega
   clear ea el h3 hno
   rcases hd with h | ⟨h, h1⟩ | ⟨h, h1, h2⟩ | ⟨h, h1, h2, h3⟩ | ⟨h, h1, h2, h3, h4⟩
   ·have e1 : ((l.length : Int) != a.s.length) = true := by rw [bne_iff_ne]; omega
    clear h
    go_enter Try.func78, Try.ntmps78
    go_wp2_with fail
    refine (HCA _ (hx.keep hbX)).mono ?_
    rintro _ w1 ⟨rfl, hb1⟩
    have hB1 := bstep hbX hb1
    replace hk1 := hk1.keep hb1
    replace hk3 := hk3.keep hb1
    have qa0 : World.cell? w1 ⟨w.heap.size, 0, none⟩ = some (.slice S a.s.length c1) := hk1.cell 0
    have fa0 := hk1.frozen 0
    have qa1 : World.cell? w1 ⟨w.heap.size, 1, none⟩ = some (.slice N a.n.length c2) := hk1.cell 1
    have fa1 := hk1.frozen 1
    have qa2 : World.cell? w1 ⟨w.heap.size, 2, none⟩ = some (.slice G a.g.length c3) := hk1.cell 2
    have fa2 := hk1.frozen 2
    have fal := hk1.lt
    have q0 : World.cell? w1 ⟨(w.heap.size + 1), 0, none⟩ = some (.slice .none 0 0) := hk3.cell 0
    have f0 := hk3.frozen 0
    have q1 : World.cell? w1 ⟨(w.heap.size + 1), 1, none⟩ = some (.slice .none 0 0) := hk3.cell 1
    have f1 := hk3.frozen 1
    have q2 : World.cell? w1 ⟨(w.heap.size + 1), 2, none⟩ = some (.slice .none 0 0) := hk3.cell 2
    have f2 := hk3.frozen 2
    have fl := hk3.lt
    go_wp2_with fail
    refine (HCL _ (hL.keep hB1)).mono ?_
    rintro _ w2 ⟨rfl, hb2⟩
    have hB2 := bstep hB1 hb2
    clear qa0 qa1 qa2 q0 q1 q2 fa0 fa1 fa2 f0 f1 f2 fal fl
    replace hk1 := hk1.keep hb2
    replace hk3 := hk3.keep hb2
    have qa0 : World.cell? w2 ⟨w.heap.size, 0, none⟩ = some (.slice S a.s.length c1) := hk1.cell 0
    have fa0 := hk1.frozen 0
    have qa1 : World.cell? w2 ⟨w.heap.size, 1, none⟩ = some (.slice N a.n.length c2) := hk1.cell 1
    have fa1 := hk1.frozen 1
    have qa2 : World.cell? w2 ⟨w.heap.size, 2, none⟩ = some (.slice G a.g.length c3) := hk1.cell 2
    have fa2 := hk1.frozen 2
    have fal := hk1.lt
    have q0 : World.cell? w2 ⟨(w.heap.size + 1), 0, none⟩ = some (.slice .none 0 0) := hk3.cell 0
    have f0 := hk3.frozen 0
    have q1 : World.cell? w2 ⟨(w.heap.size + 1), 1, none⟩ = some (.slice .none 0 0) := hk3.cell 1
    have f1 := hk3.frozen 1
    have q2 : World.cell? w2 ⟨(w.heap.size + 1), 2, none⟩ = some (.slice .none 0 0) := hk3.cell 2
    have f2 := hk3.frozen 2
    have fl := hk3.lt
    go_wp2
    exact bodyPost_ret (v := .tuple #[.agg #[.slice .none 0 0, .slice .none 0 0, .slice .none 0 0], .int .i64 2]) (by simp [results, Try.results78, go_sem, q0, q1, q2, f0, f1, f2, fl]) rfl (RetA.no HR.out (by (repeat (first | with_reducible exact Below.refl _ _ | assumption | with_reducible refine below_drewN ?_ _ | with_reducible refine Below.drew ?_ | with_reducible refine balloc ?_ _ | (with_reducible refine Below.setCell ?_ ?_ _; rotate_left; focus (first | (simp; done) | (simp; omega) | omega))))))
   ·have e1 : ((l.length : Int) != a.s.length) = false := by rw [bne_eq_false_iff_eq]; omega
    clear h
    go_enter Try.func78, Try.ntmps78
    go_wp2_with fail
    refine (HCA _ (hx.keep hbX)).mono ?_
    rintro _ w1 ⟨rfl, hb1⟩
    have hB1 := bstep hbX hb1
    replace hk1 := hk1.keep hb1
    replace hk3 := hk3.keep hb1
    have qa0 : World.cell? w1 ⟨w.heap.size, 0, none⟩ = some (.slice S a.s.length c1) := hk1.cell 0
    have fa0 := hk1.frozen 0
    have qa1 : World.cell? w1 ⟨w.heap.size, 1, none⟩ = some (.slice N a.n.length c2) := hk1.cell 1
    have fa1 := hk1.frozen 1
    have qa2 : World.cell? w1 ⟨w.heap.size, 2, none⟩ = some (.slice G a.g.length c3) := hk1.cell 2
    have fa2 := hk1.frozen 2
    have fal := hk1.lt
    have q0 : World.cell? w1 ⟨(w.heap.size + 1), 0, none⟩ = some (.slice .none 0 0) := hk3.cell 0
    have f0 := hk3.frozen 0
    have q1 : World.cell? w1 ⟨(w.heap.size + 1), 1, none⟩ = some (.slice .none 0 0) := hk3.cell 1
    have f1 := hk3.frozen 1
    have q2 : World.cell? w1 ⟨(w.heap.size + 1), 2, none⟩ = some (.slice .none 0 0) := hk3.cell 2
    have f2 := hk3.frozen 2
    have fl := hk3.lt
    go_wp2_with fail
    refine (HCL _ (hL.keep hB1)).mono ?_
    rintro _ w2 ⟨rfl, hb2⟩
    have hB2 := bstep hB1 hb2
    clear qa0 qa1 qa2 q0 q1 q2 fa0 fa1 fa2 f0 f1 f2 fal fl
    replace hk1 := hk1.keep hb2
    replace hk3 := hk3.keep hb2
    have qa0 : World.cell? w2 ⟨w.heap.size, 0, none⟩ = some (.slice S a.s.length c1) := hk1.cell 0
    have fa0 := hk1.frozen 0
    have qa1 : World.cell? w2 ⟨w.heap.size, 1, none⟩ = some (.slice N a.n.length c2) := hk1.cell 1
    have fa1 := hk1.frozen 1
    have qa2 : World.cell? w2 ⟨w.heap.size, 2, none⟩ = some (.slice G a.g.length c3) := hk1.cell 2
    have fa2 := hk1.frozen 2
    have fal := hk1.lt
    have q0 : World.cell? w2 ⟨(w.heap.size + 1), 0, none⟩ = some (.slice .none 0 0) := hk3.cell 0
    have f0 := hk3.frozen 0
    have q1 : World.cell? w2 ⟨(w.heap.size + 1), 1, none⟩ = some (.slice .none 0 0) := hk3.cell 1
    have f1 := hk3.frozen 1
    have q2 : World.cell? w2 ⟨(w.heap.size + 1), 2, none⟩ = some (.slice .none 0 0) := hk3.cell 2
    have f2 := hk3.frozen 2
    have fl := hk3.lt
    go_wp2
    exact bodyPost_ret (v := .tuple #[.agg #[.slice .none 0 0, .slice .none 0 0, .slice .none 0 0], .int .i64 2]) (by simp [results, Try.results78, go_sem, q0, q1, q2, f0, f1, f2, fl]) rfl (RetA.no HR.out (by (repeat (first | with_reducible exact Below.refl _ _ | assumption | with_reducible refine below_drewN ?_ _ | with_reducible refine Below.drew ?_ | with_reducible refine balloc ?_ _ | (with_reducible refine Below.setCell ?_ ?_ _; rotate_left; focus (first | (simp; done) | (simp; omega) | omega))))))
   ·have e1 : ((l.length : Int) != a.s.length) = false := by rw [bne_eq_false_iff_eq]; omega
    clear h
    go_enter Try.func78, Try.ntmps78
    go_wp2_with fail
    refine (HCA _ (hx.keep hbX)).mono ?_
    rintro _ w1 ⟨rfl, hb1⟩
    have hB1 := bstep hbX hb1
    replace hk1 := hk1.keep hb1
    replace hk3 := hk3.keep hb1
    have qa0 : World.cell? w1 ⟨w.heap.size, 0, none⟩ = some (.slice S a.s.length c1) := hk1.cell 0
    have fa0 := hk1.frozen 0
    have qa1 : World.cell? w1 ⟨w.heap.size, 1, none⟩ = some (.slice N a.n.length c2) := hk1.cell 1
    have fa1 := hk1.frozen 1
    have qa2 : World.cell? w1 ⟨w.heap.size, 2, none⟩ = some (.slice G a.g.length c3) := hk1.cell 2
    have fa2 := hk1.frozen 2
    have fal := hk1.lt
    have q0 : World.cell? w1 ⟨(w.heap.size + 1), 0, none⟩ = some (.slice .none 0 0) := hk3.cell 0
    have f0 := hk3.frozen 0
    have q1 : World.cell? w1 ⟨(w.heap.size + 1), 1, none⟩ = some (.slice .none 0 0) := hk3.cell 1
    have f1 := hk3.frozen 1
    have q2 : World.cell? w1 ⟨(w.heap.size + 1), 2, none⟩ = some (.slice .none 0 0) := hk3.cell 2
    have f2 := hk3.frozen 2
    have fl := hk3.lt
    go_wp2_with fail
    refine (HCL _ (hL.keep hB1)).mono ?_
    rintro _ w2 ⟨rfl, hb2⟩
    have hB2 := bstep hB1 hb2
    clear qa0 qa1 qa2 q0 q1 q2 fa0 fa1 fa2 f0 f1 f2 fal fl
    replace hk1 := hk1.keep hb2
    replace hk3 := hk3.keep hb2
    have qa0 : World.cell? w2 ⟨w.heap.size, 0, none⟩ = some (.slice S a.s.length c1) := hk1.cell 0
    have fa0 := hk1.frozen 0
    have qa1 : World.cell? w2 ⟨w.heap.size, 1, none⟩ = some (.slice N a.n.length c2) := hk1.cell 1
    have fa1 := hk1.frozen 1
    have qa2 : World.cell? w2 ⟨w.heap.size, 2, none⟩ = some (.slice G a.g.length c3) := hk1.cell 2
    have fa2 := hk1.frozen 2
    have fal := hk1.lt
    have q0 : World.cell? w2 ⟨(w.heap.size + 1), 0, none⟩ = some (.slice .none 0 0) := hk3.cell 0
    have f0 := hk3.frozen 0
    have q1 : World.cell? w2 ⟨(w.heap.size + 1), 1, none⟩ = some (.slice .none 0 0) := hk3.cell 1
    have f1 := hk3.frozen 1
    have q2 : World.cell? w2 ⟨(w.heap.size + 1), 2, none⟩ = some (.slice .none 0 0) := hk3.cell 2
    have f2 := hk3.frozen 2
    have fl := hk3.lt
    go_wp2
    exact bodyPost_ret (v := .tuple #[.agg #[.slice .none 0 0, .slice .none 0 0, .slice .none 0 0], .int .i64 2]) (by simp [results, Try.results78, go_sem, q0, q1, q2, f0, f1, f2, fl]) rfl (RetA.no HR.out (by (repeat (first | with_reducible exact Below.refl _ _ | assumption | with_reducible refine below_drewN ?_ _ | with_reducible refine Below.drew ?_ | with_reducible refine balloc ?_ _ | (with_reducible refine Below.setCell ?_ ?_ _; rotate_left; focus (first | (simp; done) | (simp; omega) | omega))))))
   ·have e1 : ((l.length : Int) != a.s.length) = false := by rw [bne_eq_false_iff_eq]; omega
    clear h
    go_enter Try.func78, Try.ntmps78
    go_wp2_with fail
    refine (HCA _ (hx.keep hbX)).mono ?_
    rintro _ w1 ⟨rfl, hb1⟩
    have hB1 := bstep hbX hb1
    replace hk1 := hk1.keep hb1
    replace hk3 := hk3.keep hb1
    have qa0 : World.cell? w1 ⟨w.heap.size, 0, none⟩ = some (.slice S a.s.length c1) := hk1.cell 0
    have fa0 := hk1.frozen 0
    have qa1 : World.cell? w1 ⟨w.heap.size, 1, none⟩ = some (.slice N a.n.length c2) := hk1.cell 1
    have fa1 := hk1.frozen 1
    have qa2 : World.cell? w1 ⟨w.heap.size, 2, none⟩ = some (.slice G a.g.length c3) := hk1.cell 2
    have fa2 := hk1.frozen 2
    have fal := hk1.lt
    have q0 : World.cell? w1 ⟨(w.heap.size + 1), 0, none⟩ = some (.slice .none 0 0) := hk3.cell 0
    have f0 := hk3.frozen 0
    have q1 : World.cell? w1 ⟨(w.heap.size + 1), 1, none⟩ = some (.slice .none 0 0) := hk3.cell 1
    have f1 := hk3.frozen 1
    have q2 : World.cell? w1 ⟨(w.heap.size + 1), 2, none⟩ = some (.slice .none 0 0) := hk3.cell 2
    have f2 := hk3.frozen 2
    have fl := hk3.lt
    go_wp2_with fail
    refine (HCL _ (hL.keep hB1)).mono ?_
    rintro _ w2 ⟨rfl, hb2⟩
    have hB2 := bstep hB1 hb2
    clear qa0 qa1 qa2 q0 q1 q2 fa0 fa1 fa2 f0 f1 f2 fal fl
    replace hk1 := hk1.keep hb2
    replace hk3 := hk3.keep hb2
    have qa0 : World.cell? w2 ⟨w.heap.size, 0, none⟩ = some (.slice S a.s.length c1) := hk1.cell 0
    have fa0 := hk1.frozen 0
    have qa1 : World.cell? w2 ⟨w.heap.size, 1, none⟩ = some (.slice N a.n.length c2) := hk1.cell 1
    have fa1 := hk1.frozen 1
    have qa2 : World.cell? w2 ⟨w.heap.size, 2, none⟩ = some (.slice G a.g.length c3) := hk1.cell 2
    have fa2 := hk1.frozen 2
    have fal := hk1.lt
    have q0 : World.cell? w2 ⟨(w.heap.size + 1), 0, none⟩ = some (.slice .none 0 0) := hk3.cell 0
    have f0 := hk3.frozen 0
    have q1 : World.cell? w2 ⟨(w.heap.size + 1), 1, none⟩ = some (.slice .none 0 0) := hk3.cell 1
    have f1 := hk3.frozen 1
    have q2 : World.cell? w2 ⟨(w.heap.size + 1), 2, none⟩ = some (.slice .none 0 0) := hk3.cell 2
    have f2 := hk3.frozen 2
    have fl := hk3.lt
    go_wp2
    exact bodyPost_ret (v := .tuple #[.agg #[.slice .none 0 0, .slice .none 0 0, .slice .none 0 0], .int .i64 2]) (by simp [results, Try.results78, go_sem, q0, q1, q2, f0, f1, f2, fl]) rfl (RetA.no HR.out (by (repeat (first | with_reducible exact Below.refl _ _ | assumption | with_reducible refine below_drewN ?_ _ | with_reducible refine Below.drew ?_ | with_reducible refine balloc ?_ _ | (with_reducible refine Below.setCell ?_ ?_ _; rotate_left; focus (first | (simp; done) | (simp; omega) | omega))))))
   ·have e1 : ((l.length : Int) != a.s.length) = false := by rw [bne_eq_false_iff_eq]; omega
    clear h
    go_enter Try.func78, Try.ntmps78
    go_wp2_with fail
    refine (HCA _ (hx.keep hbX)).mono ?_
    rintro _ w1 ⟨rfl, hb1⟩
    have hB1 := bstep hbX hb1
    replace hk1 := hk1.keep hb1
    replace hk3 := hk3.keep hb1
    have qa0 : World.cell? w1 ⟨w.heap.size, 0, none⟩ = some (.slice S a.s.length c1) := hk1.cell 0
    have fa0 := hk1.frozen 0
    have qa1 : World.cell? w1 ⟨w.heap.size, 1, none⟩ = some (.slice N a.n.length c2) := hk1.cell 1
    have fa1 := hk1.frozen 1
    have qa2 : World.cell? w1 ⟨w.heap.size, 2, none⟩ = some (.slice G a.g.length c3) := hk1.cell 2
    have fa2 := hk1.frozen 2
    have fal := hk1.lt
    have q0 : World.cell? w1 ⟨(w.heap.size + 1), 0, none⟩ = some (.slice .none 0 0) := hk3.cell 0
    have f0 := hk3.frozen 0
    have q1 : World.cell? w1 ⟨(w.heap.size + 1), 1, none⟩ = some (.slice .none 0 0) := hk3.cell 1
    have f1 := hk3.frozen 1
    have q2 : World.cell? w1 ⟨(w.heap.size + 1), 2, none⟩ = some (.slice .none 0 0) := hk3.cell 2
    have f2 := hk3.frozen 2
    have fl := hk3.lt
    go_wp2_with fail
    refine (HCL _ (hL.keep hB1)).mono ?_
    rintro _ w2 ⟨rfl, hb2⟩
    have hB2 := bstep hB1 hb2
    clear qa0 qa1 qa2 q0 q1 q2 fa0 fa1 fa2 f0 f1 f2 fal fl
    replace hk1 := hk1.keep hb2
    replace hk3 := hk3.keep hb2
    have qa0 : World.cell? w2 ⟨w.heap.size, 0, none⟩ = some (.slice S a.s.length c1) := hk1.cell 0
    have fa0 := hk1.frozen 0
    have qa1 : World.cell? w2 ⟨w.heap.size, 1, none⟩ = some (.slice N a.n.length c2) := hk1.cell 1
    have fa1 := hk1.frozen 1
    have qa2 : World.cell? w2 ⟨w.heap.size, 2, none⟩ = some (.slice G a.g.length c3) := hk1.cell 2
    have fa2 := hk1.frozen 2
    have fal := hk1.lt
    have q0 : World.cell? w2 ⟨(w.heap.size + 1), 0, none⟩ = some (.slice .none 0 0) := hk3.cell 0
    have f0 := hk3.frozen 0
    have q1 : World.cell? w2 ⟨(w.heap.size + 1), 1, none⟩ = some (.slice .none 0 0) := hk3.cell 1
    have f1 := hk3.frozen 1
    have q2 : World.cell? w2 ⟨(w.heap.size + 1), 2, none⟩ = some (.slice .none 0 0) := hk3.cell 2
    have f2 := hk3.frozen 2
    have fl := hk3.lt
    go_wp2
    exact bodyPost_ret (v := .tuple #[.agg #[.slice .none 0 0, .slice .none 0 0, .slice .none 0 0], .int .i64 2]) (by simp [results, Try.results78, go_sem, q0, q1, q2, f0, f1, f2, fl]) rfl (RetA.no HR.out (by (repeat (first | with_reducible exact Below.refl _ _ | assumption | with_reducible refine below_drewN ?_ _ | with_reducible refine Below.drew ?_ | with_reducible refine balloc ?_ _ | (with_reducible refine Below.setCell ?_ ?_ _; rotate_left; focus (first | (simp; done) | (simp; omega) | omega))))))
  ·have HR := Lib.hid (addAcc_e2 (p := p) (m := m) ea el)
   have e2 : (lagErr l != 0) = true := by rw [bne_iff_ne]; exact el
   rw [ea] at HCA
   clear ea el hno
   generalize lagErr l = E at *
   go_enter Try.func78, Try.ntmps78
   go_wp2_with fail
   refine (HCA _ (hx.keep hbX)).mono ?_
   rintro _ w1 ⟨rfl, hb1⟩
   have hB1 := bstep hbX hb1
   replace hk1 := hk1.keep hb1
   replace hk3 := hk3.keep hb1
   have qa0 : World.cell? w1 ⟨w.heap.size, 0, none⟩ = some (.slice S a.s.length c1) := hk1.cell 0
   have fa0 := hk1.frozen 0
   have qa1 : World.cell? w1 ⟨w.heap.size, 1, none⟩ = some (.slice N a.n.length c2) := hk1.cell 1
   have fa1 := hk1.frozen 1
   have qa2 : World.cell? w1 ⟨w.heap.size, 2, none⟩ = some (.slice G a.g.length c3) := hk1.cell 2
   have fa2 := hk1.frozen 2
   have fal := hk1.lt
   have q0 : World.cell? w1 ⟨(w.heap.size + 1), 0, none⟩ = some (.slice .none 0 0) := hk3.cell 0
   have f0 := hk3.frozen 0
   have q1 : World.cell? w1 ⟨(w.heap.size + 1), 1, none⟩ = some (.slice .none 0 0) := hk3.cell 1
   have f1 := hk3.frozen 1
   have q2 : World.cell? w1 ⟨(w.heap.size + 1), 2, none⟩ = some (.slice .none 0 0) := hk3.cell 2
   have f2 := hk3.frozen 2
   have fl := hk3.lt
   go_wp2_with fail
   refine (HCL _ (hL.keep hB1)).mono ?_
   rintro _ w2 ⟨rfl, hb2⟩
   have hB2 := bstep hB1 hb2
   clear qa0 qa1 qa2 q0 q1 q2 fa0 fa1 fa2 f0 f1 f2 fal fl
   replace hk1 := hk1.keep hb2
   replace hk3 := hk3.keep hb2
   have qa0 : World.cell? w2 ⟨w.heap.size, 0, none⟩ = some (.slice S a.s.length c1) := hk1.cell 0
   have fa0 := hk1.frozen 0
   have qa1 : World.cell? w2 ⟨w.heap.size, 1, none⟩ = some (.slice N a.n.length c2) := hk1.cell 1
   have fa1 := hk1.frozen 1
   have qa2 : World.cell? w2 ⟨w.heap.size, 2, none⟩ = some (.slice G a.g.length c3) := hk1.cell 2
   have fa2 := hk1.frozen 2
   have fal := hk1.lt
   have q0 : World.cell? w2 ⟨(w.heap.size + 1), 0, none⟩ = some (.slice .none 0 0) := hk3.cell 0
   have f0 := hk3.frozen 0
   have q1 : World.cell? w2 ⟨(w.heap.size + 1), 1, none⟩ = some (.slice .none 0 0) := hk3.cell 1
   have f1 := hk3.frozen 1
   have q2 : World.cell? w2 ⟨(w.heap.size + 1), 2, none⟩ = some (.slice .none 0 0) := hk3.cell 2
   have f2 := hk3.frozen 2
   have fl := hk3.lt
   go_wp2
   exact bodyPost_ret (v := .tuple #[.agg #[.slice .none 0 0, .slice .none 0 0, .slice .none 0 0], .int .i64 E]) (by simp [results, Try.results78, go_sem, q0, q1, q2, f0, f1, f2, fl]) rfl (RetA.no HR.out (by (repeat (first | with_reducible exact Below.refl _ _ | assumption | with_reducible refine below_drewN ?_ _ | with_reducible refine Below.drew ?_ | with_reducible refine balloc ?_ _ | (with_reducible refine Below.setCell ?_ ?_ _; rotate_left; focus (first | (simp; done) | (simp; omega) | omega))))))
 ·have HR := Lib.hid (addAcc_e1 (l := l) (p := p) (m := m) ea)
  have e2 : (accErr a != 0) = true := by rw [bne_iff_ne]; exact ea
  clear ea hno
  generalize accErr a = E at *
  go_enter Try.func78, Try.ntmps78
  go_wp2_with fail
  refine (HCA _ (hx.keep hbX)).mono ?_
  rintro _ w1 ⟨rfl, hb1⟩
  have hB1 := bstep hbX hb1
  replace hk1 := hk1.keep hb1
  replace hk3 := hk3.keep hb1
  have qa0 : World.cell? w1 ⟨w.heap.size, 0, none⟩ = some (.slice S a.s.length c1) := hk1.cell 0
  have fa0 := hk1.frozen 0
  have qa1 : World.cell? w1 ⟨w.heap.size, 1, none⟩ = some (.slice N a.n.length c2) := hk1.cell 1
  have fa1 := hk1.frozen 1
  have qa2 : World.cell? w1 ⟨w.heap.size, 2, none⟩ = some (.slice G a.g.length c3) := hk1.cell 2
  have fa2 := hk1.frozen 2
  have fal := hk1.lt
  have q0 : World.cell? w1 ⟨(w.heap.size + 1), 0, none⟩ = some (.slice .none 0 0) := hk3.cell 0
  have f0 := hk3.frozen 0
  have q1 : World.cell? w1 ⟨(w.heap.size + 1), 1, none⟩ = some (.slice .none 0 0) := hk3.cell 1
  have f1 := hk3.frozen 1
  have q2 : World.cell? w1 ⟨(w.heap.size + 1), 2, none⟩ = some (.slice .none 0 0) := hk3.cell 2
  have f2 := hk3.frozen 2
  have fl := hk3.lt
  go_wp2
  exact bodyPost_ret (v := .tuple #[.agg #[.slice .none 0 0, .slice .none 0 0, .slice .none 0 0], .int .i64 E]) (by simp [results, Try.results78, go_sem, q0, q1, q2, f0, f1, f2, fl]) rfl (RetA.no HR.out (by (repeat (first | with_reducible exact Below.refl _ _ | assumption | with_reducible refine below_drewN ?_ _ | with_reducible refine Below.drew ?_ | with_reducible refine balloc ?_ _ | (with_reducible refine Below.setCell ?_ ?_ _; rotate_left; focus (first | (simp; done) | (simp; omega) | omega))))))
end Go.Proofs.Ytdekbncpodjgnaa
