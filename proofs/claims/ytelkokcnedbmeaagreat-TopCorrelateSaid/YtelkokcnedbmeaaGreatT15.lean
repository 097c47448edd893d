/-
  Parts of the proof of TopCorrelate: TpF TaA Clone.
-/
import Derived.Test.YtelkokcnedbmeaaGreatT07
import Derived.Test.YtelkokcnedbmeaaGreatT13
import Derived.Test.YtelkokcnedbmeaaGreatT11
import Derived.Test.YtelkokcnedbmeaaGreatT14
import Derived.Deep.LoopGhost
import Derived.Test.YtelkokcnedbmeaaGreatT01
import Derived.Deep.QuietTactic
import Derived.BigQuiet
import Derived.Test.YtelkokcnedbmeaaGreatT04
import Derived.Test.YtelkokcnedbmeaaGreatT02
namespace Go.Proofs.YtelkokcnedbmeaaGreat
open Go.RowKit Runs Lagc
set_option maxRecDepth 20000
set_option linter.unusedVariables false
set_option linter.unusedSimpArgs false
namespace Tpm
open Lagw Wk
def RetN (w : World) (a : Acc) (n1 n2 n3 : Nat) (x : Int) (e : Ending) (w' : World) : Prop :=
 ∃ S N G c1 c2 c3, e = .returned (.tuple #[.agg #[.slice S n1 c1, .slice N n2 c2, .slice G n3 c3], .int .i64 x]) ∧ RA w' S N G a ∧ Below w.heap.size w w'
theorem toN {w w' : World} {r : Acc × Int} {e : Ending} (h : RetA w r e w') {a : Acc} {x : Int} {n1 n2 n3 : Nat} (hr : r = (a, x)) (h1 : a.s.length = n1) (h2 : a.n.length = n2) (h3 : a.g.length = n3) : RetN w a n1 n2 n3 x e w' := by
 subst hr; subst h1; subst h2; subst h3
 obtain ⟨S, N, G, c1, c2, c3, e1, e2, _, e4⟩ := h
 exact ⟨S, N, G, c1, c2, c3, e1, e2, e4⟩
theorem new_l {m : Int} {a : Acc} {x : Int} {n1 n2 n3 : Nat} (hr : newS m = (a, x)) (h1 : a.s.length = n1) (h2 : a.n.length = n2) (h3 : a.g.length = n3) (hm : -9223372036854775808 ≤ m ∧ m ≤ 9223372036854775807) (w : World) : Calls Tryz.prog 32 #[.int .i64 m] w (RetN w a n1 n2 n3 x) :=
 (accNew_any m w hm).mono fun _ _ h => toN h hr h1 h2 h3
theorem add_l {a b : Acc} {l : List (Int × Int)} {p m x : Int} {n1 n2 n3 nl k1 k2 k3 : Nat} (hr : addAcc a l p m = (b, x)) (h1 : a.s.length = n1) (h2 : a.n.length = n2) (h3 : a.g.length = n3) (hl : l.length = nl) (e1 : b.s.length = k1) (e2 : b.n.length = k2) (e3 : b.g.length = k3)
 (b1 : n1 ≤ 1000) (b2 : n2 ≤ 1000) (b3 : n3 ≤ 1000) (b4 : nl ≤ 1000) (hp : -9223372036854775808 ≤ p ∧ p ≤ 9223372036854775807) (hm : -9223372036854775808 ≤ m ∧ m ≤ 9223372036854775807) (S N G L : Option Addr) (c1 c2 c3 c4 : Nat) (w : World) (hx : RA w S N G a) (hL : RL w L l) :
 Calls Tryz.prog 33 #[.agg #[.slice S n1 c1, .slice N n2 c2, .slice G n3 c3], .slice L nl c4, .int .i64 p, .int .i64 m] w (RetN w b k1 k2 k3 x) := by
 subst h1; subst h2; subst h3; subst hl
 exact (accAdd_any S N G L c1 c2 c3 c4 a l p m w hx hL (by omega) (by omega) (by omega) (by omega) hp hm).mono fun _ _ h => toN h hr e1 e2 e3
theorem merge_l {a b r : Acc} {x : Int} {n1 n2 n3 m1 m2 m3 k1 k2 k3 : Nat} (hr : mergeS a b = (r, x)) (h1 : a.s.length = n1) (h2 : a.n.length = n2) (h3 : a.g.length = n3) (g1 : b.s.length = m1) (g2 : b.n.length = m2) (g3 : b.g.length = m3) (e1 : r.s.length = k1) (e2 : r.n.length = k2) (e3 : r.g.length = k3)
 (b1 : n1 ≤ 1000) (b2 : n2 ≤ 1000) (b3 : n3 ≤ 1000) (b4 : m1 ≤ 1000) (b5 : m2 ≤ 1000) (b6 : m3 ≤ 1000) (S N G S' N' G' : Option Addr) (c1 c2 c3 d1 d2 d3 : Nat) (w : World) (hx : RA w S N G a) (hy : RA w S' N' G' b) :
 Calls Tryz.prog 34 #[.agg #[.slice S n1 c1, .slice N n2 c2, .slice G n3 c3], .agg #[.slice S' m1 d1, .slice N' m2 d2, .slice G' m3 d3]] w (RetN w r k1 k2 k3 x) := by
 subst h1; subst h2; subst h3; subst g1; subst g2; subst g3
 exact (accMerge_any S N G S' N' G' c1 c2 c3 d1 d2 d3 a b w hx hy (by omega) (by omega) (by omega) (by omega) (by omega) (by omega)).mono fun _ _ h => toN h hr e1 e2 e3
theorem same_l {a : Acc} {n1 n2 n3 : Nat} (h1 : a.s.length = n1) (h2 : a.n.length = n2) (h3 : a.g.length = n3) (b1 : n1 ≤ 1000) (b2 : n2 ≤ 1000) (b3 : n3 ≤ 1000) (S N G S' N' G' : Option Addr) (c1 c2 c3 d1 d2 d3 : Nat) (w : World) (hx : RA w S N G a) (hy : RA w S' N' G' a) :
 Calls Tryz.prog 35 #[.agg #[.slice S n1 c1, .slice N n2 c2, .slice G n3 c3], .agg #[.slice S' n1 d1, .slice N' n2 d2, .slice G' n3 d3]] w fun e w' => e = .returned (.bool true) ∧ Below w.heap.size w w' := by
 subst h1; subst h2; subst h3
 have h := same18_any S N G S' N' G' c1 c2 c3 d1 d2 d3 a a w hx hy (by omega) (by omega) (by omega) (by omega) (by omega) (by omega)
 rw [show sameB a a = true from sameB_iff.2 rfl] at h
 exact h
theorem value_l {a : Acc} {lag s n x : Int} {n1 n2 n3 : Nat} (hr : valS a lag = ((s, n), x)) (h1 : a.s.length = n1) (h2 : a.n.length = n2) (h3 : a.g.length = n3) (b1 : n1 ≤ 1000) (b2 : n2 ≤ 1000) (b3 : n3 ≤ 1000) (hlag : -9223372036854775808 ≤ lag ∧ lag ≤ 9223372036854775807) (S N G : Option Addr) (c1 c2 c3 : Nat) (w : World) (hx : RA w S N G a) :
 Calls Tryz.prog 30 #[.agg #[.slice S n1 c1, .slice N n2 c2, .slice G n3 c3], .int .i64 lag] w fun e w' => e = .returned (.tuple #[.int .i64 s, .int .i64 n, .int .i64 x]) ∧ Below w.heap.size w w' := by
 subst h1; subst h2; subst h3
 have := accValue_any S N G c1 c2 c3 a lag w hx (by omega) (by omega) (by omega) hlag
 rw [hr] at this
 exact this
theorem of_l {A B : Option Addr} {c d n1 n2 T M : Nat} {xs ys : List Int} (ex : streamErr xs = 0) (ey : streamErr ys = 0) (hM : M ≤ 255) (hT : T = 2 * M + 1) (h1 : xs.length = n1) (h2 : ys.length = n2) (w : World) (hx : RI .i64 w A xs) (hy : RI .i64 w B ys) :
 Calls Tryz.prog 7 #[.slice A n1 c, .slice B n2 d, .int .i64 (M : Int)] w fun e w' => ∃ A' c', e = .returned (.tuple #[.slice A' T c', .int .i64 0]) ∧ RL w' A' (lagCells xs ys M) ∧ Below w.heap.size w w' := by
 subst h1; subst h2; subst hT
 have l1 := (streamErr_zero ex).1
 have l2 := (streamErr_zero ey).1
 refine (lagOf_any A B c d xs ys M w hx hy (by omega) (by omega)).mono ?_
 rintro e w' ⟨A', c', rfl, ho, hb⟩
 rw [ofSpec_ok ex ey hM] at ho ⊢
 exact ⟨A', c', by rw [lagCells_len], own_RL ho, hb⟩
theorem cut_l {A : Option Addr} {c n : Nat} {xs : List Int} (w : World) (ex : streamErr xs = 0) (hn : n ≤ xs.length) (hc : xs.length ≤ c) (hx : RI .i64 w A xs) :
 Calls Tryz.prog 31 #[.slice A xs.length c, .int .i64 (n : Int)] w fun e w' => ∃ A' c' B' d', e = .returned (.tuple #[.slice A' xs.length c', .slice B' xs.length d', .int .i64 0]) ∧ RI .i64 w' A' (cutA xs n) ∧ RI .i64 w' B' (cutB xs n) ∧ Below w.heap.size w w' := by
 have l1 := (streamErr_zero ex).1
 refine (lagCut_any A c xs n w hx (by omega) hc).mono ?_
 rintro e w' ⟨A', c', B', d', rfl, hA, hB, hb⟩
 rw [cut_ok ex hn] at hA hB ⊢
 simp only [cutA_len hn, cutB_len hn] at *
 exact ⟨A', c', B', d', rfl, hA, hB, hb⟩
set_option maxRecDepth 20000 in
set_option maxHeartbeats 8000000 in
theorem merged_any (X Y A : Option Addr) (cx cy ca : Nat) (xs ys : List Int) (M n T : Nat) (w : World) (hx : RI .i64 w X xs) (hy : RI .i64 w Y ys) (hA : RL w A (lagCells xs ys M)) (ex : streamErr xs = 0) (ey : streamErr ys = 0) (hM : M ≤ 255) (hT : T = 2 * M + 1) (h1 : 1 ≤ n) (h2 : n < xs.length) (hcx : xs.length ≤ cx) :
 Calls Tryz.prog 13 #[.slice X xs.length cx, .slice Y ys.length cy, .int .i64 (n : Int), .slice A T ca] w fun e w' => e = .returned (.bool true) ∧ Below w.heap.size w w' := by
 have l1 := (streamErr_zero ex).1
 have l2 := (streamErr_zero ey).1
 obtain ⟨z, c, d, m, ez, ec, ed, em, em2, hv, z1, z2, z3, c1, c2, c3, d1, d2, d3, m1, m2, m3⟩ := merged_law ex ey hM h1 h2
 rw [← hT] at z1 z2 c1 c2 d1 d2 m1 m2
 have EX := Lib.hid ex
 have EY := Lib.hid ey
 have SA := Lib.hid (cutA_stream ex (n := n) (by omega))
 have SB := Lib.hid (cutB_stream ex (n := n) (by omega))
 have LA := Lib.hid (cutA_len (xs := xs) (n := n) (by omega))
 have LB := Lib.hid (cutB_len (xs := xs) (n := n) (by omega))
 have LL := Lib.hid ((lagCells_len (cutA xs n) ys M).trans hT.symm)
 have LR := Lib.hid ((lagCells_len (cutB xs n) ys M).trans hT.symm)
 have LW := Lib.hid ((lagCells_len xs ys M).trans hT.symm)
 have hT1 : T ≤ 511 := by omega
 have hq : T / 2 = M := by omega
 have hq2 : (T : Int) / 2 = (M : Int) := by omega
 have HT := Lib.hid hT
 have EZ := Lib.hid ez
 have EC := Lib.hid ec
 have ED := Lib.hid ed
 have EM := Lib.hid em
 have EN := Lib.hid em2
 have HV := Lib.hid (show ∀ k, k < T → valS m ((k : Int) - M) = ((lagCells xs ys M).getD k (0, 0), 0) from fun k hk => hv k (by omega))
 have Z1 := Lib.hid (And.intro z1 (And.intro z2 z3))
 have C1 := Lib.hid (And.intro c1 (And.intro c2 c3))
 have D1 := Lib.hid (And.intro d1 (And.intro d2 d3))
 have M1 := Lib.hid (And.intro m1 (And.intro m2 m3))
 clear ex ey hT ez ec ed em em2 hv z1 z2 z3 c1 c2 c3 d1 d2 d3 m1 m2 m3
 have hB := Below.refl w.heap.size w
 go_enter Tryz.func13, Tryz.ntmps13
 go_wp2_with fail
 refine (cut_l _ EX.out (by omega) hcx hx).mono ?_
 rintro _ w1 ⟨A1, k1, B1, k2, rfl, rA, rB, hb1⟩
 replace hB := bstep hB hb1
 replace hy := hy.keep hb1
 replace hA := hA.keep hb1
 clear hb1
 go_wp2_with fail
 refine (of_l (M := M) SA.out EY.out hM HT.out LA.out rfl _ rA hy).mono ?_
 rintro _ w2 ⟨A2, k3, rfl, rl, hb2⟩
 replace hB := bstep hB hb2
 replace hy := hy.keep hb2
 replace hA := hA.keep hb2
 replace rB := rB.keep hb2
 clear hb2
 clear rA
 go_wp2_with fail
 refine (of_l (M := M) SB.out EY.out hM HT.out LB.out rfl _ rB hy).mono ?_
 rintro _ w3 ⟨A3, k4, rfl, rr, hb3⟩
 replace hB := bstep hB hb3
 replace hA := hA.keep hb3
 replace rl := rl.keep hb3
 clear hb3
 clear rB
 go_wp2_with fail
 refine (new_l EZ.out Z1.out.1 Z1.out.2.1 Z1.out.2.2 (by omega) _).mono ?_
 rintro _ w4 ⟨S4, N4, G4, x4, y4, v4, rfl, ra4, hb4⟩
 replace hB := bstep hB hb4
 replace hA := hA.keep hb4
 replace rl := rl.keep hb4
 replace rr := rr.keep hb4
 clear hb4
 go_wp2_with fail
 obtain ⟨u4, hu4⟩ : ∃ u4, u4 = w4.alloc (.cells #[.slice S4 T x4, .slice N4 T y4, .slice G4 0 v4] 37) := ⟨_, rfl⟩
 have b4 : Blk u4 w4.heap.size 37 #[.slice S4 T x4, .slice N4 T y4, .slice G4 0 v4] := by rw [hu4]; exact Blk.new _ _ _
 have hbu : Below w4.heap.size w4 u4 := by rw [hu4]; exact balloc (Below.refl _ _) _
 rw [← hu4]
 clear hu4
 replace hB := bstep hB hbu
 replace hA := hA.keep hbu
 replace rl := rl.keep hbu
 replace rr := rr.keep hbu
 replace ra4 := ra4.keep hbu
 clear hbu
 generalize w4.heap.size = g4 at *
 refine (add_l EC.out Z1.out.1 Z1.out.2.1 Z1.out.2.2 LL.out C1.out.1 C1.out.2.1 C1.out.2.2 (by omega) (by omega) (by omega) (by omega) (by omega) (by omega) S4 N4 G4 A2 x4 y4 v4 k3 _ ra4 rl).mono ?_
 rintro _ w5 ⟨S5, N5, G5, x5, y5, v5, rfl, ra5, hb5⟩
 replace hB := bstep hB hb5
 replace hA := hA.keep hb5
 replace rr := rr.keep hb5
 replace ra4 := ra4.keep hb5
 replace b4 := b4.keep hb5
 clear hb5
 clear rl
 have q0 : World.cell? w5 ⟨g4, 0, none⟩ = some (.slice S4 T x4) := b4.cell 0
 have f0 := b4.frozen 0
 have q1 : World.cell? w5 ⟨g4, 1, none⟩ = some (.slice N4 T y4) := b4.cell 1
 have f1 := b4.frozen 1
 have q2 : World.cell? w5 ⟨g4, 2, none⟩ = some (.slice G4 0 v4) := b4.cell 2
 have f2 := b4.frozen 2
 have fl := b4.lt
 go_wp2_with fail
 obtain ⟨u5, hu5⟩ : ∃ u5, u5 = w5.alloc (.cells #[.slice S5 T x5, .slice N5 T y5, .slice G5 1 v5] 37) := ⟨_, rfl⟩
 have b5 : Blk u5 w5.heap.size 37 #[.slice S5 T x5, .slice N5 T y5, .slice G5 1 v5] := by rw [hu5]; exact Blk.new _ _ _
 have hbu : Below w5.heap.size w5 u5 := by rw [hu5]; exact balloc (Below.refl _ _) _
 rw [← hu5]
 clear hu5
 replace hB := bstep hB hbu
 replace hA := hA.keep hbu
 replace rr := rr.keep hbu
 replace ra4 := ra4.keep hbu
 replace ra5 := ra5.keep hbu
 clear hbu
 clear q0 q1 q2 f0 f1 f2 fl b4
 generalize w5.heap.size = g5 at *
 refine (add_l ED.out Z1.out.1 Z1.out.2.1 Z1.out.2.2 LR.out D1.out.1 D1.out.2.1 D1.out.2.2 (by omega) (by omega) (by omega) (by omega) (by omega) (by omega) S4 N4 G4 A3 x4 y4 v4 k4 _ ra4 rr).mono ?_
 rintro _ w6 ⟨S6, N6, G6, x6, y6, v6, rfl, ra6, hb6⟩
 replace hB := bstep hB hb6
 replace hA := hA.keep hb6
 replace ra5 := ra5.keep hb6
 replace b5 := b5.keep hb6
 clear hb6
 clear ra4 rr
 have q0 : World.cell? w6 ⟨g5, 0, none⟩ = some (.slice S5 T x5) := b5.cell 0
 have f0 := b5.frozen 0
 have q1 : World.cell? w6 ⟨g5, 1, none⟩ = some (.slice N5 T y5) := b5.cell 1
 have f1 := b5.frozen 1
 have q2 : World.cell? w6 ⟨g5, 2, none⟩ = some (.slice G5 1 v5) := b5.cell 2
 have f2 := b5.frozen 2
 have fl := b5.lt
 go_wp2_with fail
 obtain ⟨u6, hu6⟩ : ∃ u6, u6 = w6.alloc (.cells #[.slice S6 T x6, .slice N6 T y6, .slice G6 1 v6] 37) := ⟨_, rfl⟩
 have b6 : Blk u6 w6.heap.size 37 #[.slice S6 T x6, .slice N6 T y6, .slice G6 1 v6] := by rw [hu6]; exact Blk.new _ _ _
 have hbu : Below w6.heap.size w6 u6 := by rw [hu6]; exact balloc (Below.refl _ _) _
 rw [← hu6]
 clear hu6
 replace hB := bstep hB hbu
 replace hA := hA.keep hbu
 replace ra5 := ra5.keep hbu
 replace ra6 := ra6.keep hbu
 replace b5 := b5.keep hbu
 clear hbu
 clear q0 q1 q2 f0 f1 f2 fl
 generalize w6.heap.size = g6 at *
 refine (merge_l EM.out C1.out.1 C1.out.2.1 C1.out.2.2 D1.out.1 D1.out.2.1 D1.out.2.2 M1.out.1 M1.out.2.1 M1.out.2.2 (by omega) (by omega) (by omega) (by omega) (by omega) (by omega) S5 N5 G5 S6 N6 G6 x5 y5 v5 x6 y6 v6 _ ra5 ra6).mono ?_
 rintro _ w7 ⟨S7, N7, G7, x7, y7, v7, rfl, ra7, hb7⟩
 replace hB := bstep hB hb7
 replace hA := hA.keep hb7
 replace ra5 := ra5.keep hb7
 replace ra6 := ra6.keep hb7
 replace b5 := b5.keep hb7
 replace b6 := b6.keep hb7
 clear hb7
 have q0 : World.cell? w7 ⟨g5, 0, none⟩ = some (.slice S5 T x5) := b5.cell 0
 have f0 := b5.frozen 0
 have q1 : World.cell? w7 ⟨g5, 1, none⟩ = some (.slice N5 T y5) := b5.cell 1
 have f1 := b5.frozen 1
 have q2 : World.cell? w7 ⟨g5, 2, none⟩ = some (.slice G5 1 v5) := b5.cell 2
 have f2 := b5.frozen 2
 have fl := b5.lt
 have p0 : World.cell? w7 ⟨g6, 0, none⟩ = some (.slice S6 T x6) := b6.cell 0
 have pf0 := b6.frozen 0
 have p1 : World.cell? w7 ⟨g6, 1, none⟩ = some (.slice N6 T y6) := b6.cell 1
 have pf1 := b6.frozen 1
 have p2 : World.cell? w7 ⟨g6, 2, none⟩ = some (.slice G6 1 v6) := b6.cell 2
 have pf2 := b6.frozen 2
 have pfl := b6.lt
 go_wp2_with fail
 obtain ⟨u7, hu7⟩ : ∃ u7, u7 = w7.alloc (.cells #[.slice S7 T x7, .slice N7 T y7, .slice G7 1 v7] 37) := ⟨_, rfl⟩
 have b7 : Blk u7 w7.heap.size 37 #[.slice S7 T x7, .slice N7 T y7, .slice G7 1 v7] := by rw [hu7]; exact Blk.new _ _ _
 have hbu : Below w7.heap.size w7 u7 := by rw [hu7]; exact balloc (Below.refl _ _) _
 rw [← hu7]
 clear hu7
 replace hB := bstep hB hbu
 replace hA := hA.keep hbu
 replace ra5 := ra5.keep hbu
 replace ra6 := ra6.keep hbu
 replace ra7 := ra7.keep hbu
 clear hbu
 clear q0 q1 q2 f0 f1 f2 fl p0 p1 p2 pf0 pf1 pf2 pfl b5 b6
 generalize w7.heap.size = g7 at *
 refine (merge_l EN.out D1.out.1 D1.out.2.1 D1.out.2.2 C1.out.1 C1.out.2.1 C1.out.2.2 M1.out.1 M1.out.2.1 M1.out.2.2 (by omega) (by omega) (by omega) (by omega) (by omega) (by omega) S6 N6 G6 S5 N5 G5 x6 y6 v6 x5 y5 v5 _ ra6 ra5).mono ?_
 rintro _ w8 ⟨S8, N8, G8, x8, y8, v8, rfl, ra8, hb8⟩
 replace hB := bstep hB hb8
 replace hA := hA.keep hb8
 replace ra7 := ra7.keep hb8
 replace b7 := b7.keep hb8
 clear hb8
 clear ra5 ra6
 have q0 : World.cell? w8 ⟨g7, 0, none⟩ = some (.slice S7 T x7) := b7.cell 0
 have f0 := b7.frozen 0
 have q1 : World.cell? w8 ⟨g7, 1, none⟩ = some (.slice N7 T y7) := b7.cell 1
 have f1 := b7.frozen 1
 have q2 : World.cell? w8 ⟨g7, 2, none⟩ = some (.slice G7 1 v7) := b7.cell 2
 have f2 := b7.frozen 2
 have fl := b7.lt
 go_wp2_with fail
 obtain ⟨u8, hu8⟩ : ∃ u8, u8 = w8.alloc (.cells #[.slice S8 T x8, .slice N8 T y8, .slice G8 1 v8] 37) := ⟨_, rfl⟩
 have b8 : Blk u8 w8.heap.size 37 #[.slice S8 T x8, .slice N8 T y8, .slice G8 1 v8] := by rw [hu8]; exact Blk.new _ _ _
 have hbu : Below w8.heap.size w8 u8 := by rw [hu8]; exact balloc (Below.refl _ _) _
 rw [← hu8]
 clear hu8
 replace hB := bstep hB hbu
 replace hA := hA.keep hbu
 replace ra7 := ra7.keep hbu
 replace ra8 := ra8.keep hbu
 replace b7 := b7.keep hbu
 clear hbu
 clear q0 q1 q2 f0 f1 f2 fl b8
 refine (same_l M1.out.1 M1.out.2.1 M1.out.2.2 (by omega) (by omega) (by omega) S7 N7 G7 S8 N8 G8 x7 y7 v7 x8 y8 v8 _ ra7 ra8).mono ?_
 rintro _ w9 ⟨rfl, hb9⟩
 replace hB := bstep hB hb9
 replace hA := hA.keep hb9
 replace ra7 := ra7.keep hb9
 replace b7 := b7.keep hb9
 clear hb9
 clear ra8
 go_wp2
 go_loopg [27, 28, 29, 30] T (fun gk i _ _ _ wr => ∃ k : Nat, k + gk = T ∧ i = .int .i64 ((k : Int) - M) ∧ Below w9.heap.size w9 wr)
 case atStart => exact ⟨0, by omega, by simp, Below.refl _ _⟩
 case round =>
  obtain ⟨k, hk, rfl, hb10⟩ := hrel
  have HK := Lib.hid hk
  have hk' : k ≤ T := by omega
  clear hk
  obtain ⟨wo, rfl⟩ : ∃ wo, wo = wr := ⟨_, rfl⟩
  by_cases hlt : k < T
  ·have hle : (k : Int) - M ≤ M := by have := HT.out; omega
   have hv := HV.out k hlt
   obtain ⟨b, off, rfl, hlw, hw1, hw2⟩ := hA.at_ (i := k) (by rw [LW.out]; exact hlt)
   have b9 := b7.keep hb10
   have ra9 := ra7.keep hb10
   generalize (lagCells xs ys M).getD k (0, 0) = C at *
   obtain ⟨s, o⟩ := C
   have q0 : World.cell? wo ⟨g7, 0, none⟩ = some (.slice S7 T x7) := b9.cell 0
   have f0 := b9.frozen 0
   have q1 : World.cell? wo ⟨g7, 1, none⟩ = some (.slice N7 T y7) := b9.cell 1
   have f1 := b9.frozen 1
   have q2 : World.cell? wo ⟨g7, 2, none⟩ = some (.slice G7 1 v7) := b9.cell 2
   have f2 := b9.frozen 2
   have fl := b9.lt
   go_wp2_with fail
   refine (value_l hv M1.out.1 M1.out.2.1 M1.out.2.2 (by omega) (by omega) (by omega) (by omega) S7 N7 G7 x7 y7 v7 _ ra9).mono ?_
   rintro _ w11 ⟨rfl, hb11⟩
   have hB11 := bstep hb10 hb11
   have c1 := (hB11.cell (p := ⟨b, _, none⟩) hlw).trans hw1
   have c2 := (hB11.cell (p := ⟨b, _, none⟩) hlw).trans hw2
   clear hw1 hw2 q0 q1 q2 f0 f1 f2 fl hv hle
   go_wp2
   go_roundg (gk - 1)
   case rel => exact ⟨k + 1, by have := HK.out; omega, by go_num, hB11⟩
   case measure => have := HK.out; omega
  ·have hle : ¬ ((k : Int) - M ≤ M) := by have := HT.out; omega
   have hle2 : (M : Int) < (k : Int) - M := by omega
   go_wp2
   go_ret
   exact ⟨rfl, bstep hB hb10⟩
end Tpm
end Go.Proofs.YtelkokcnedbmeaaGreat
namespace Go.Proofs.YtelkokcnedbmeaaGreat
open Go.RowKit
set_option maxRecDepth 20000
set_option linter.unusedVariables false
namespace Aln
theorem info_int : (Tryz.prog.info? 3).map (fun i => (i.zero, i.size, i.bytes)) = some (some (.int .i64 0), 1, 8) := by kernel_rfl
theorem streamErr_zero {xs : List Int} (h : streamErr xs = 0) : xs.length ≤ 256 ∧ ∀ x ∈ xs, 0 ≤ digitOf x := by
 unfold streamErr at h
 split at h
 ·omega
 ·split at h
  ·rename_i h1 h2
   exact ⟨by omega, by simpa using h2⟩
  ·omega
def extI (xs : List Int) (j : Int) : Int := if 0 ≤ j then xs.getD j.toNat 0 else 0
def delayed (xs : List Int) (d : Int) : List Int := (List.range xs.length).map (fun (k : Nat) => extI xs ((k : Int) - d))
def delaySpec (xs : List Int) (d : Int) : List Int × Int := if streamErr xs ≠ 0 then ([], streamErr xs) else if d < -64 ∨ 64 < d then ([], 2) else (delayed xs d, 0)
theorem delay_err {xs : List Int} {d : Int} (h : ¬ streamErr xs = 0) : delaySpec xs d = ([], streamErr xs) := by simp [delaySpec, h]
theorem delay_arg {xs : List Int} {d : Int} (h : streamErr xs = 0) (h2 : d < -64 ∨ 64 < d) : delaySpec xs d = ([], 2) := by simp [delaySpec, h, h2]
theorem delay_ok {xs : List Int} {d : Int} (h : streamErr xs = 0) (h2 : -64 ≤ d) (h3 : d ≤ 64) : delaySpec xs d = (delayed xs d, 0) := by
 unfold delaySpec
 rw [if_neg (by simp [h]), if_neg (by omega)]
theorem delayed_len (xs : List Int) (d : Int) : (delayed xs d).length = xs.length := by simp [delayed]
def delPart (xs : List Int) (d : Int) (lo hi : Int) : List Int := (List.range xs.length).map (fun (j : Nat) => if lo ≤ (j : Int) - d ∧ (j : Int) - d < hi then extI xs ((j : Int) - d) else 0)
theorem delPart_len (xs : List Int) (d lo hi : Int) : (delPart xs d lo hi).length = xs.length := by simp [delPart]
theorem delPart_start (xs : List Int) (d lo : Int) : delPart xs d lo lo = List.replicate xs.length 0 := by
 apply List.ext_getElem (by simp [delPart])
 intro i h1 h2
 simp only [delPart, List.getElem_map, List.getElem_range, List.getElem_replicate]
 rw [if_neg (by omega)]
theorem delPart_step {xs : List Int} {d lo hi : Int} {j : Nat} (hj : (j : Int) - d = hi) (hlo : lo ≤ hi) : (delPart xs d lo hi).set j (extI xs hi) = delPart xs d lo (hi + 1) := by
 apply List.ext_getElem (by simp [delPart])
 intro i h1 h2
 simp only [delPart, List.getElem_set, List.getElem_map, List.getElem_range]
 by_cases e : j = i
 ·subst e
  rw [if_pos rfl, if_pos (by omega), hj]
 ·rw [if_neg e]
  by_cases h3 : lo ≤ (i : Int) - d ∧ (i : Int) - d < hi
  ·rw [if_pos h3, if_pos (by omega)]
  ·rw [if_neg h3, if_neg (by omega)]
theorem delPart_skip {xs : List Int} {d lo hi : Int} (h : extI xs hi = 0 ∨ hi + d < 0 ∨ (xs.length : Int) ≤ hi + d) : delPart xs d lo hi = delPart xs d lo (hi + 1) := by
 apply List.ext_getElem (by simp [delPart])
 intro i h1 h2
 have h1' : i < xs.length := by simpa [delPart] using h1
 simp only [delPart, List.getElem_map, List.getElem_range]
 by_cases h3 : lo ≤ (i : Int) - d ∧ (i : Int) - d < hi
 ·rw [if_pos h3, if_pos (by omega)]
 ·rw [if_neg h3]
  by_cases h4 : lo ≤ (i : Int) - d ∧ (i : Int) - d < hi + 1
  ·have e : (i : Int) - d = hi := by omega
   rw [if_pos h4, e]
   rcases h with h | h
   ·exact h.symm
   ·omega
  ·rw [if_neg h4]
theorem extI_out {xs : List Int} {j : Int} (h : j < 0 ∨ (xs.length : Int) ≤ j) : extI xs j = 0 := by
 unfold extI
 split
 ·rw [List.getD_eq_getElem?_getD, List.getElem?_eq_none (by omega)]; rfl
 ·rfl
theorem delPart_end {xs : List Int} {d lo hi : Int} (h1 : lo ≤ 0 ∨ lo ≤ -d) (h2 : (xs.length : Int) ≤ hi ∨ (xs.length : Int) - d ≤ hi) : delPart xs d lo hi = delayed xs d := by
 apply List.ext_getElem (by simp [delPart, delayed])
 intro i h3 h4
 have h1' : i < xs.length := by simpa [delPart] using h3
 simp only [delPart, delayed, List.getElem_map, List.getElem_range]
 by_cases h5 : lo ≤ (i : Int) - d ∧ (i : Int) - d < hi
 ·rw [if_pos h5]
 ·rw [if_neg h5]
  exact (extI_out (by omega)).symm
theorem isDelay_any (d : Int) (w : World) : Calls Tryz.prog 43 #[.int .i64 d] w fun e w' => e = .returned (.bool (decide (-64 ≤ d) && decide (d ≤ 64))) ∧ w = w' := by
 by_cases h1 : -64 ≤ d
 ·have d1 : decide (-64 ≤ d) = true := by simpa using h1
  go_enter Tryz.func43, Tryz.ntmps43
  go_wp2
  go_ret
  exact ⟨ret_bool (by simp [h1]), rfl⟩
 ·have d1 : decide (-64 ≤ d) = false := by simpa using h1
  go_enter Tryz.func43, Tryz.ntmps43
  go_wp2
  go_ret
  exact ⟨ret_bool (by simp), rfl⟩
theorem alignDelay_any (A : Option Addr) (c : Nat) (xs : List Int) (d : Int) (w : World) (hx : RI .i64 w A xs) (hl : xs.length ≤ 140737488355328) :
 Calls Tryz.prog 18 #[.slice A xs.length c, .int .i64 d] w (RetI 3 w (delaySpec xs d)) := by
 rcases (Decidable.em (streamErr xs = 0)).symm with he | he
 ·have e1 : (streamErr xs != 0) = true := by simp [he]
  have HE := Lib.hid he
  clear he
  go_enter Tryz.func18, Tryz.ntmps18
  go_wp2_with (go_at_call 23; refine (sampleCheck_any _ _ _ _ hx hl).mono ?_; rintro e w' ⟨rfl, rfl⟩)
  go_ret2
  exact RetI.nil (delay_err HE.out) (Below.refl _ _)
 have e1 : (streamErr xs != 0) = false := by simp [he]
 have HE := Lib.hid he
 have hl5 := (streamErr_zero he).1
 clear he
 rcases (Decidable.em (-64 ≤ d ∧ d ≤ 64)).symm with hm | hm
 ·have hm' : d < -64 ∨ 64 < d := by omega
  have d1 : (decide (-64 ≤ d) && decide (d ≤ 64)) = false := by
   rcases hm' with h | h
   ·simp; omega
   ·simp; omega
  have HM := Lib.hid hm'
  clear hm hm'
  go_enter Tryz.func18, Tryz.ntmps18
  go_wp2_with fail
  refine (sampleCheck_any _ _ _ _ hx hl).mono ?_
  rintro e w' ⟨rfl, rfl⟩
  go_wp2_with fail
  have hc := isDelay_any d w
  rw [d1] at hc
  refine hc.mono ?_
  rintro e w' ⟨rfl, rfl⟩
  go_wp2
  go_ret2
  exact RetI.nil (delay_arg HE.out HM.out) (Below.refl _ _)
 obtain ⟨hd1, hd2⟩ := hm
 have d1 : (decide (-64 ≤ d) && decide (d ≤ 64)) = true := by simp; omega
 obtain ⟨i0, hi0, hz0, hz1, hz2⟩ := info_parts info_int
 have hmk := mk_row (P := Tryz.prog) 22 3 Tryz.underlying22 hi0 hz0 hz1 hz2 (encI .i64) (encI_len .i64) (by omega) 0 rfl xs.length (by omega) (by omega)
 have HD := Lib.hid d1
 clear d1
 go_enter Tryz.func18, Tryz.ntmps18
 go_wp2_with fail
 refine (sampleCheck_any _ _ _ _ hx hl).mono ?_
 rintro e w' ⟨rfl, rfl⟩
 go_wp2_with fail
 have hc := isDelay_any d w
 rw [HD.out] at hc
 refine hc.mono ?_
 rintro e w' ⟨rfl, rfl⟩
 clear hc
 go_wp2
 go_loopg [8, 9, 23] xs.length (fun gk _ _ i wr => ∃ k : Nat, k + gk = xs.length ∧ i = .int .i64 k ∧ Blk wr w.heap.size 3 ((delPart xs d (-d) ((k : Int) - d)).flatMap (encI .i64)).toArray ∧ Below w.heap.size w wr)
 case atStart => exact ⟨0, by omega, rfl, by rw [show ((0 : Nat) : Int) - d = -d by omega, delPart_start]; exact Blk.new w 3 _, balloc (Below.refl _ _) _⟩
 case round =>
  obtain ⟨k, hk, rfl, hO, hb⟩ := hrel
  have hk' : k ≤ xs.length := by omega
  have HK := Lib.hid hk
  clear hk
  by_cases hlt : k < xs.length
  ·by_cases hin : 0 ≤ (k : Int) - d ∧ (k : Int) - d < xs.length
   ·obtain ⟨h1, h2⟩ := hin
    have hj : ((k : Int) - d).toNat < xs.length := by omega
    obtain ⟨b, off, rfl, hc⟩ := (hx.keep hb).at_ hj
    have o0 := blkI_at hO (j := k) (by rw [delPart_len]; exact hlt)
    have p0 := hO.frozen k
    have hg := hO.lt
    rw [getD_lt _ _ hj] at hc
    have hst := delPart_step (xs := xs) (d := d) (lo := -d) (j := k) rfl (by omega)
    have hex : extI xs ((k : Int) - d) = xs[((k : Int) - d).toNat] := by unfold extI; rw [if_pos h1, getD_lt _ _ hj]
    rw [hex] at hst
    have HST := Lib.hid hst
    clear hst hex
    go_wp2
    go_roundg (gk - 1)
    case rel => exact ⟨k + 1, by have := HK.out; omega, by go_num, by rw [show ((k + 1 : Nat) : Int) - d = ((k : Int) - d) + 1 by omega, ← HST.out]; exact blkI_set hO (by rw [delPart_len]; exact hlt) _, hb.setCell (p := ⟨w.heap.size, k, none⟩) (Nat.le_refl _) _⟩
    case measure => have := HK.out; omega
   ·have hst := delPart_skip (xs := xs) (d := d) (lo := -d) (.inl (extI_out (j := (k : Int) - d) (by omega)))
    have HST := Lib.hid hst
    clear hst
    have hin' : (k : Int) - d < 0 ∨ (0 ≤ (k : Int) - d ∧ (xs.length : Int) ≤ (k : Int) - d) := by omega
    clear hin
    rcases hin' with hin | hin
    all_goals
     go_wp2
     go_roundg (gk - 1)
     case rel => exact ⟨k + 1, by have := HK.out; omega, by go_num, by rw [show ((k + 1 : Nat) : Int) - d = ((k : Int) - d) + 1 by omega, ← HST.out]; exact hO, hb⟩
     case measure => have := HK.out; omega
  ·go_wp2
   go_ret2
   rw [delPart_end (by omega) (by omega)] at hO
   exact RetI.blk (delay_ok HE.out hd1 hd2) (delayed_len _ _) (by unfold maxLen; omega) hO (Nat.le_refl _) hb
end Aln
end Go.Proofs.YtelkokcnedbmeaaGreat
namespace Go.Proofs.YtelkokcnedbmeaaGreat
open Go.RowKit
set_option maxRecDepth 20000
set_option linter.unusedVariables false
theorem wp_append_RI {P : Program} (w : World) {o : Oper} {a : Act} {K : Act → World → Prop} {Q : Exit → Act → World → Prop} (s x : Operand) (t : TypeId)
 (ho : o.op = .call { callee := .builtin .append, args := #[s, x], argTypes := #[t, t] })
 (base : Nat) (e : TypeId) (i : TypeInfo) (z : Value) (bytes : Nat) (ht : P.underlying t = some (.slice e)) (hi : P.info? e = some i) (hz : i.zero = some z)
 (hsize : i.size = 1) (hby : i.bytes = bytes) (hzs : z.cells.size = 1) (k : IntKind)
 (v : Value) (n : Nat) (l : List Int) (hs : a.eval s = v) (hown : w.ownsRow base e 1 v n (l.flatMap (encI k)))
 (A : Option Addr) (c : Nat) (xs : List Int) (hx : a.eval x = .slice A xs.length c) (hr : RI k w A xs)
 (h63 : n + xs.length ≤ maxLen) (hbytes : (n + xs.length) * bytes ≤ 140737488355328) (hbase : base ≤ w.heap.size)
 (h : ∀ v' w', w'.ownsRow base e 1 v' (n + xs.length) ((l ++ xs).flatMap (encI k)) → w.grownBy w' v.ownBlock → K (a.put o.dst v') w') : o.wp P a w K Q := by
 rcases A with _ | ad
 ·have h0 : xs = [] := by
   rcases xs with _ | ⟨y, ys⟩
   ·rfl
   ·obtain ⟨b, off, e1, _⟩ := hr (by simp)
    cases e1
  subst h0
  have hrun : (Builtin.append_ #[t, t] o.type #[v, .slice none 0 c]).run P w = .ok v w := by
   rcases hown.2 with ⟨rfl, _⟩ | ⟨g, cap, cur, rfl, _, _, hnc, _⟩
   ·simp [Builtin.append_, run_underlying ht, sizeOf, typeInfo, hi, Builtin.lenOf, Builtin.firstCells]
   ·simp [Builtin.append_, run_underlying ht, sizeOf, typeInfo, hi, Builtin.lenOf, Builtin.firstCells, hnc, storeCells]
  unfold Oper.wp
  simp [execOp, ho, resolve, invoke, builtin, hs, hx, hrun, Result.andThen]
  exact h v w (by simpa using hown) (World.grownBy.refl _ _)
 ·refine wp_append_own w s x t ho base e i z 1 bytes ht hi hz hsize hby hzs (by omega) v n (l.flatMap (encI k)) hs hown ad xs.length c (xs.flatMap (encI k)) hx (by rw [flat_len _ 1 (encI_len k)]) ?_ ?_ h63 hbytes hbase ?_
  ·intro j u hu
   have hj : j < xs.length := by
    have := (List.getElem?_eq_some_iff.1 hu).1
    rw [flat_len _ 1 (encI_len k)] at this
    omega
   obtain ⟨b, off, e1, _, hc⟩ := hr (by omega)
   injection e1 with e1
   subst e1
   have h1 := flat_get (encI k) 1 (encI_len k) xs j 0 (by omega) hj
   rw [Nat.mul_one, Nat.add_zero, hu] at h1
   have h2 := hc j hj
   have e2 : (⟨b, off, none⟩ : Addr).add j = ⟨b, off + j, none⟩ := by unfold Addr.add; split <;> simp_all
   rw [e2, h2, getD_lt _ _ hj]
   simpa [encI] using h1.symm
  ·intro u hu
   obtain ⟨y, _, hy⟩ := List.mem_flatMap.1 hu
   exact encI_one k y u hy
  ·intro v' w' h1 h2 _
   exact h v' w' (by rw [List.flatMap_append]; exact h1) h2
theorem step_clone_RI {P : Program} (w : World) {ops : Array Oper} {o : Oper} {a : Act} {K : Act → World → Prop} {Q : Exit → Act → World → Prop} {E : Prop} (hgd : o.guard = none) (s x : Operand) (t : TypeId)
 (ho : o.op = .call { callee := .builtin .append, args := #[s, x], argTypes := #[t, t] })
 (base : Nat) (e : TypeId) {i : TypeInfo} {z : Value} (bytes : Nat) (ht : P.underlying t = some (.slice e)) (hi : P.info? e = some i) (hz : i.zero = some z)
 (hsize : i.size = 1) (hby : i.bytes = bytes) (hzs : z.cells.size = 1) (k : IntKind)
 (v : Value) (hs : a.eval s = v) (hown : w.ownsRow base e 1 v 0 [])
 (A : Option Addr) (c : Nat) (xs : List Int) (hx : a.eval x = .slice A xs.length c) (hr : RI k w A xs)
 (h63 : xs.length ≤ maxLen) (hbytes : xs.length * bytes ≤ 140737488355328) (hbase : base ≤ w.heap.size)
 (h : ∀ A' c' w', xs.length ≤ c' → w'.ownsRow base e 1 (.slice A' xs.length c') xs.length (xs.flatMap (encI k)) → w.grownBy w' v.ownBlock → K (a.put o.dst (.slice A' xs.length c')) w') :
 if Region.wanted o (yielded ops a.tmps) = true then Oper.wp P o a w K Q else E := by
 have hw : Region.wanted o (yielded ops a.tmps) = true := by simp [Region.wanted, hgd]
 rw [if_pos hw]
 refine wp_append_RI w s x t ho base e i z bytes ht hi hz hsize hby hzs k v 0 [] hs (by simpa using hown) A c xs hx hr (by omega) (by rw [Nat.zero_add]; exact hbytes) hbase ?_
 intro v1 w1 hown1 hgrow1
 rw [Nat.zero_add, List.nil_append] at hown1
 obtain ⟨A1, c1, rfl, hc1⟩ := own_shape' hown1
 exact h A1 c1 w1 hc1 hown1 hgrow1
end Go.Proofs.YtelkokcnedbmeaaGreat
