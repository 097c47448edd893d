/-
  Parts of the proof of TopCorrelate: TpJ TpK TpA TpE TpG.
-/
import Derived.Test.YtelkokcnedbmeaaGreatT15
import Derived.Test.YtelkokcnedbmeaaGreatT20
import Derived.Test.YtelkokcnedbmeaaGreatT16
import Derived.Deep.RegionHeld3
import Derived.Deep.DeepCutAuto
import Derived.Test.YtelkokcnedbmeaaGreatT01
import Derived.Test.YtelkokcnedbmeaaGreatT02
import Derived.Deep.RegionLaw
import Derived.Deep.LoopGhost
import Derived.StillTailTactics
namespace Go.Proofs.YtelkokcnedbmeaaGreat
open Go.RowKit Runs Lagc
set_option maxRecDepth 20000
set_option linter.unusedVariables false
set_option linter.unusedSimpArgs false
namespace Tpm
open Lagw
theorem take_stream {xs : List Int} (h : streamErr xs = 0) (n : Nat) : streamErr (xs.take n) = 0 :=
 streamErr_ok (by rw [List.length_take]; have := (streamErr_zero h).1; omega) fun x hx => (streamErr_zero h).2 x (List.mem_of_mem_take hx)
theorem drop_stream {xs : List Int} (h : streamErr xs = 0) (n : Nat) : streamErr (xs.drop n) = 0 :=
 streamErr_ok (by rw [List.length_drop]; have := (streamErr_zero h).1; omega) fun x hx => (streamErr_zero h).2 x (List.mem_of_mem_drop hx)
theorem okb {b : Int × List Int} (h0 : 0 ≤ b.1) (h1 : b.1 ≤ 1000000) (h2 : 0 < b.2.length) (h3 : streamErr b.2 = 0) : Aln.okB b = true := by
 unfold Aln.okB
 rw [decide_eq_true_eq]
 exact ⟨h0, h1, h2, h3⟩
theorem rec_one {b : Int × List Int} (h : Aln.okB b = true) : Aln.recErr [b] = 0 := by
 refine Aln.recErr_ok (by simp) ?_
 show Aln.recOk [b] 1 = true
 exact Aln.recOk_zero (by simp) rfl h
theorem fullL_of {f : Nat → Int} {xs : List Int} {n : Nat} (hn : n = xs.length) (h : ∀ i, i < xs.length → f i = xs.getD i 0) : fullL f n = xs := by
 subst hn
 apply list_ext_getD (d := 0) (by simp [fullL])
 intro j hj
 have hj' : j < xs.length := by simpa [fullL] using hj
 rw [fullL_getD _ _ _ _ hj', h j hj']
theorem put_first {b : Int × List Int} (h : Aln.okB b = true) : Aln.putS [] b = ([b], 0) := by
 have hb := Aln.okB_bd h
 have e : Aln.putL [] b = [b] := by
  show [] ++ [(Aln.jFrom [] b, Aln.jS [] b)] ++ [] = [b]
  have e1 : Aln.jFrom [] b = b.1 := by unfold Aln.jFrom; rw [if_neg (by simp)]
  have e2 : Aln.jTo [] b = Aln.endB b := by unfold Aln.jTo; rw [if_neg (by simp)]
  have e3 : Aln.jS [] b = b.2 := by
   unfold Aln.jS
   rw [e1, e2]
   refine fullL_of (by unfold Aln.endB; omega) fun i hi => ?_
   unfold Aln.jAt Aln.sB Aln.endB
   by_cases h0 : b.2.getD i 0 = 0
   ·rw [if_neg (by rw [show (b.1 + (i : Int) - b.1).toNat = i by omega, h0]; simp), h0]; rfl
   ·rw [if_pos ⟨by omega, by omega, by rw [show (b.1 + (i : Int) - b.1).toNat = i by omega]; exact h0⟩, show (b.1 + (i : Int) - b.1).toNat = i by omega]
  rw [e1, e3]
  simp
 have := Aln.put_ok (l := []) (b := b) (Aln.recErr_ok (by simp) rfl) h (Aln.refAg_yes fun k hk => by unfold Aln.clash; simp [Aln.sampAt]) (by
  show Aln.jTo [] b - Aln.jFrom [] b ≤ 256
  unfold Aln.jFrom Aln.jTo Aln.endB
  rw [if_neg (by simp), if_neg (by simp)]
  omega) (by rw [e]; simp)
 rw [e] at this
 exact this
theorem put_second {p b : Int × List Int} {F : Int} {xs : List Int} (hp : Aln.okB p = true) (h : Aln.okB b = true) (hlo : b.1 ≤ Aln.endB p) (hhi : p.1 ≤ Aln.endB b) (hF : F = if p.1 < b.1 then p.1 else b.1) (hT : F + xs.length = if Aln.endB b < Aln.endB p then Aln.endB p else Aln.endB b) (hx : xs.length ≤ 256)
 (hap : ∀ t, b.1 ≤ t → t < Aln.endB b → ¬ (p.1 ≤ t ∧ t < Aln.endB p))
 (hb : ∀ i, i < xs.length → b.1 ≤ F + i → F + i < Aln.endB b → b.2.getD (F + i - b.1).toNat 0 = xs.getD i 0)
 (hq : ∀ i, i < xs.length → ¬ (b.1 ≤ F + i ∧ F + i < Aln.endB b) → p.1 ≤ F + i ∧ F + i < Aln.endB p ∧ p.2.getD (F + i - p.1).toNat 0 = xs.getD i 0) : Aln.putS [p] b = ([(F, xs)], 0) := by
 have e0 : Aln.loOf [p] b = 0 := by
  unfold Aln.loOf Aln.heads
  rw [List.takeWhile_cons, if_neg (by simp; omega)]
  rfl
 have e9 : Aln.hiOf [p] b = 1 := by
  unfold Aln.hiOf Aln.heads
  rw [e0, List.drop_zero, List.takeWhile_cons, if_pos (by simpa using hhi)]
  rfl
 have em : Aln.midOf [p] b = [p] := by unfold Aln.midOf; rw [e0, e9]; rfl
 have e1 : Aln.jFrom [p] b = F := by
  unfold Aln.jFrom
  rw [hF]
  show (if 0 < 1 ∧ p.1 < b.1 then p.1 else b.1) = _
  simp
 have e2 : Aln.jTo [p] b = F + xs.length := by
  unfold Aln.jTo
  rw [hT]
  show (if 0 < 1 ∧ Aln.endB b < Aln.endB p then Aln.endB p else Aln.endB b) = _
  simp
 have samp : ∀ t, Aln.sampAt [p] t = if p.1 ≤ t ∧ t < Aln.endB p then p.2.getD (t - p.1).toNat 0 else 0 := fun t => rfl
 have e3 : Aln.jS [p] b = xs := by
  unfold Aln.jS
  rw [e1, e2]
  refine fullL_of (by omega) fun i hi => ?_
  unfold Aln.jAt Aln.sB
  rw [samp]
  by_cases hc : b.1 ≤ F + i ∧ F + i < Aln.endB b
  ·have h1 := hb i hi hc.1 hc.2
   by_cases h0 : xs.getD i 0 = 0
   ·rw [if_neg (by rw [h1, h0]; simp), if_neg (hap _ hc.1 hc.2), h0]
   ·rw [if_pos ⟨hc.1, hc.2, by rw [h1]; exact h0⟩, h1]
  ·obtain ⟨h1, h2, h3⟩ := hq i hi hc
   rw [if_neg (by intro h4; exact hc ⟨h4.1, h4.2.1⟩), if_pos ⟨h1, h2⟩, h3]
 have e : Aln.putL [p] b = [(F, xs)] := by
  unfold Aln.putL
  rw [em, e1, e3, e0, e9]
  rfl
 have := Aln.put_ok (l := [p]) (b := b) (rec_one hp) h (Aln.refAg_yes fun k hk => by
  rw [samp, if_neg (hap _ (by omega) (by unfold Aln.endB; omega))]
  unfold Aln.clash; simp) (by rw [em, e1, e2]; omega) (by rw [e]; simp)
 rw [e] at this
 exact this
theorem put_lr {xs : List Int} {n : Nat} (hx : streamErr xs = 0) (h1 : 1 ≤ n) (h2 : n < xs.length) :
 Aln.putS [] (0, xs.take n) = ([(0, xs.take n)], 0) ∧ Aln.putS [(0, xs.take n)] ((n : Int), xs.drop n) = ([(0, xs)], 0) ∧ Aln.putS [] ((n : Int), xs.drop n) = ([((n : Int), xs.drop n)], 0) ∧ Aln.putS [((n : Int), xs.drop n)] (0, xs.take n) = ([(0, xs)], 0) := by
 have hl := (streamErr_zero hx).1
 have lt : (xs.take n).length = n := by rw [List.length_take]; omega
 have ld : (xs.drop n).length = xs.length - n := List.length_drop
 have o1 : Aln.okB (0, xs.take n) = true := okb (by simp) (by simp) (by rw [lt]; omega) (take_stream hx n)
 have o2 : Aln.okB ((n : Int), xs.drop n) = true := okb (by simp) (by simp only []; omega) (by rw [ld]; omega) (drop_stream hx n)
 have g1 : ∀ i, i < n → (xs.take n).getD i 0 = xs.getD i 0 := fun i hi => by
  rw [List.getD_eq_getElem?_getD, List.getD_eq_getElem?_getD, List.getElem?_take_of_lt hi]
 have g2 : ∀ i, n ≤ i → (xs.drop n).getD (i - n) 0 = xs.getD i 0 := fun i hi => by
  rw [List.getD_eq_getElem?_getD, List.getD_eq_getElem?_getD, List.getElem?_drop, show n + (i - n) = i by omega]
 refine ⟨put_first o1, put_second (F := 0) o1 o2 ?_ ?_ ?_ ?_ hl ?_ ?_ ?_, put_first o2, put_second (F := 0) o2 o1 ?_ ?_ ?_ ?_ hl ?_ ?_ ?_⟩
 all_goals simp only [Aln.endB, lt, ld]
 ·omega
 ·omega
 ·rw [if_pos (by omega)]
 ·rw [if_neg (by omega)]; omega
 ·intro t h3 h4; omega
 ·intro i hi h3 h4
  rw [show (0 + (i : Int) - (n : Int)).toNat = i - n by omega]
  exact g2 i (by omega)
 ·intro i hi h3
  refine ⟨by omega, by omega, ?_⟩
  rw [show (0 + (i : Int) - 0).toNat = i by omega]
  exact g1 i (by omega)
 ·omega
 ·omega
 ·rw [if_neg (by omega)]
 ·rw [if_pos (by omega)]; omega
 ·intro t h3 h4; omega
 ·intro i hi h3 h4
  rw [show (0 + (i : Int) - 0).toNat = i by omega]
  exact g1 i (by omega)
 ·intro i hi h3
  refine ⟨by omega, by omega, ?_⟩
  rw [show (0 + (i : Int) - (n : Int)).toNat = i - n by omega]
  exact g2 i (by omega)
theorem win_all {xs : List Int} (hx : streamErr xs = 0) (h1 : 0 < xs.length) : Aln.winSpec [(0, xs)] 0 (xs.length : Int) = (xs, 0) := by
 have hl := (streamErr_zero hx).1
 rw [Aln.win_ok (rec_one (okb (by simp) (by simp) h1 hx)) (Aln.winB_yes ⟨by omega, by omega, by omega, by omega⟩)]
 congr 1
 refine fullL_of rfl fun i hi => ?_
 show (if (0 : Int) ≤ 0 + i ∧ 0 + (i : Int) < 0 + xs.length then xs.getD (0 + (i : Int) - 0).toNat 0 else 0) = _
 rw [if_pos ⟨by omega, by omega⟩, show (0 + (i : Int) - 0).toNat = i by omega]
end Tpm
end Go.Proofs.YtelkokcnedbmeaaGreat
namespace Go.Proofs.YtelkokcnedbmeaaGreat
open Go.RowKit Runs Lagc
set_option maxRecDepth 20000
set_option linter.unusedVariables false
set_option linter.unusedSimpArgs false
namespace Tpm
open Lagw
theorem RI.part {k : IntKind} {w : World} {b off n : Nat} {xs : List Int} (h : RI k w (some ⟨b, off, none⟩) xs) (hn : n < xs.length) : RI k w (some ⟨b, off, none⟩) (xs.take n) ∧ RI k w (some ⟨b, off + n, none⟩) (xs.drop n) := by
 obtain ⟨b', off', e, hlt, hc⟩ := h (by omega)
 injection e with e
 injection e with e1 e2
 subst e1; subst e2
 refine ⟨fun _ => ⟨b, off, rfl, hlt, fun j hj => ?_⟩, fun _ => ⟨b, off + n, rfl, hlt, fun j hj => ?_⟩⟩
 ·rw [List.length_take] at hj
  rw [hc j (by omega), List.getD_eq_getElem?_getD, List.getD_eq_getElem?_getD, List.getElem?_take_of_lt (by omega)]
 ·rw [List.length_drop] at hj
  rw [Nat.add_assoc, hc (n + j) (by omega), List.getD_eq_getElem?_getD, List.getD_eq_getElem?_getD, List.getElem?_drop]
theorem put_l {l r : List (Int × List Int)} {b : Int × List Int} {k m n : Nat} {a : Int} (h : Aln.putS l b = (r, 0)) (hk : l.length = k) (hm : r.length = m) (ha : b.1 = a) (hn : b.2.length = n) (A : Option Addr) (c : Nat) (B : Option Addr) (d : Nat) (w : World) (hx : Aln.RB w A l) (hcap : k ≤ c) (hy : RI .i64 w B b.2) (hl : k ≤ 64) (hall : ∀ b ∈ l, b.2.length ≤ 140737488355328) (hlb : n ≤ 256) :
 Calls Tryz.prog 36 #[.slice A k c, .agg #[.int .i64 a, .slice B n d]] w fun e w' => ∃ A' c', e = .returned (.tuple #[.slice A' m c', .int .i64 0]) ∧ Aln.RB w' A' r ∧ m ≤ c' ∧ Below w.heap.size w w' := by
 subst hk; subst hm; subst ha; subst hn
 refine (Aln.alignPut_any A c l b B d w hx hcap hy (by omega) hall (by omega)).mono ?_
 rintro e w' ⟨A', c', rfl, hr, hc, hb⟩
 rw [h] at hr hc ⊢
 exact ⟨A', c', rfl, hr.rb, hc, hb⟩
theorem win_l {xs : List Int} (hx : streamErr xs = 0) (h1 : 0 < xs.length) (A : Option Addr) (c : Nat) (w : World) (hA : Aln.RB w A [(0, xs)]) :
 Calls Tryz.prog 37 #[.slice A 1 c, .int .i64 0, .int .i64 (xs.length : Int)] w fun e w' => ∃ A' c', e = .returned (.tuple #[.slice A' xs.length c', .int .i64 0]) ∧ RI .i64 w' A' xs ∧ Below w.heap.size w w' := by
 have hl := (streamErr_zero hx).1
 refine (Aln.alignWindow_any A c [(0, xs)] 0 (xs.length : Int) w hA (by simp) (by intro b hb; rw [List.mem_singleton] at hb; subst hb; simp only []; omega)).mono ?_
 rintro e w' ⟨A', c', rfl, ho, hb⟩
 rw [win_all hx h1] at ho ⊢
 exact ⟨A', c', rfl, own_RI ho, hb⟩
theorem same13_l {A B : Option Addr} {c d : Nat} {xs : List Int} (w : World) (hx : RI .i64 w A xs) (hy : RI .i64 w B xs) (hl : xs.length ≤ 256) :
 Calls Tryz.prog 21 #[.slice A xs.length c, .slice B xs.length d] w fun e w' => e = .returned (.bool true) ∧ Below w.heap.size w w' := by
 refine (same13_any A B c d xs xs w hx hy (by omega) (by omega)).mono ?_
 rintro e w' ⟨rfl, n, rfl⟩
 exact ⟨by simp, below_drewN (Below.refl _ _) n⟩
theorem same16_l {A B : Option Addr} {c d T : Nat} {xs : List (Int × Int)} (w : World) (hT : xs.length = T) (hx : RL w A xs) (hy : RL w B xs) (hl : T ≤ 511) :
 Calls Tryz.prog 10 #[.slice A T c, .slice B T d] w fun e w' => e = .returned (.bool true) ∧ Below w.heap.size w w' := by
 subst hT
 refine (same16_any A B c d xs xs w hx hy (by omega) (by omega)).mono ?_
 rintro e w' ⟨rfl, n, rfl⟩
 exact ⟨by simp, below_drewN (Below.refl _ _) n⟩
set_option maxRecDepth 20000 in
set_option maxHeartbeats 8000000 in
theorem recorded_any (X Y A : Option Addr) (cx cy ca : Nat) (xs ys : List Int) (M n T : Nat) (w : World) (hx : RI .i64 w X xs) (hy : RI .i64 w Y ys) (hA : RL w A (lagCells xs ys M)) (ex : streamErr xs = 0) (ey : streamErr ys = 0) (hM : M ≤ 255) (hT : T = 2 * M + 1) (h1 : 1 ≤ n) (h2 : n < xs.length) (hcx : xs.length ≤ cx) :
 Calls Tryz.prog 14 #[.slice X xs.length cx, .slice Y ys.length cy, .int .i64 (n : Int), .slice A T ca] w fun e w' => e = .returned (.bool true) ∧ Below w.heap.size w w' := by
 have l1 := (streamErr_zero ex).1
 obtain ⟨b, off, rfl, hlw, _⟩ := hx.at2 (i := 0) (by omega)
 obtain ⟨rA, rB⟩ := RI.part hx h2
 obtain ⟨p1, p2, p3, p4⟩ := put_lr ex h1 h2
 have P1 := Lib.hid p1
 have P2 := Lib.hid p2
 have P3 := Lib.hid p3
 have P4 := Lib.hid p4
 have lt : (xs.take n).length = n := by rw [List.length_take]; omega
 have ld : (xs.drop n).length = xs.length - n := List.length_drop
 have LT := Lib.hid lt
 have LD := Lib.hid ld
 have EX := Lib.hid ex
 have EY := Lib.hid ey
 have LW := Lib.hid ((lagCells_len xs ys M).trans hT.symm)
 have hT1 : T ≤ 511 := by omega
 have hq : T / 2 = M := by omega
 have hq2 : (T : Int) / 2 = (M : Int) := by omega
 have HT := Lib.hid hT
 have hn0 : (0 : Int) ≤ (n : Int) := by omega
 have hn1 : (n : Int) ≤ (cx : Int) := by omega
 have hn2 : (n : Int) ≤ (xs.length : Int) := by omega
 have hn3 : n < cx := by omega
 have hn4 : n ≤ xs.length := by omega
 have hne : ¬ cx = n := by omega
 clear ex ey hT p1 p2 p3 p4 lt ld
 go_enter Tryz.func14, Tryz.ntmps14
 go_wp2_with fail
 go_cut [9, 10] (fun sa sb wc => ∃ g1 g2 d1 d2, sa = .pointer (some ⟨g1, 0, none⟩) ∧ sb = .pointer (some ⟨g2, 0, none⟩) ∧ Blk wc g1 83 #[.int .i64 0, .slice (some ⟨b, off, none⟩) n d1] ∧ Blk wc g2 83 #[.int .i64 n, .slice (some ⟨b, off + n, none⟩) (xs.length - n) d2] ∧ Below w.heap.size w wc)
 case first =>
  go_region_held3 (fun W => True) (trivial) (fail)
  all_goals
   go_wp2_with fail
   go_meet
   first
    | exact ⟨_, _, _, _, rfl, rfl, (Blk.new w _ _).alloc _, Blk.newAt _ _ (by simp), Below.drew (balloc (balloc (Below.refl _ _) _) _)⟩
    | exact ⟨_, _, _, _, rfl, rfl, Blk.newAt _ _ (by simp), (Blk.new w _ _).alloc _, Below.drew (balloc (balloc (Below.refl _ _) _) _)⟩
 case rest =>
 obtain ⟨g1, g2, d1, d2, rfl, rfl, b1, b2, hb1⟩ := hcut
 obtain ⟨w1, rfl⟩ : ∃ w1, w1 = wc := ⟨_, rfl⟩
 have hB := hb1
 replace hx := hx.keep hb1
 replace hy := hy.keep hb1
 replace hA := hA.keep hb1
 replace rA := rA.keep hb1
 replace rB := rB.keep hb1
 clear hb1
 have q0 : World.cell? w1 ⟨g1, 0, none⟩ = some (.int .i64 0) := b1.cell 0
 have f0 := b1.frozen 0
 have q1 : World.cell? w1 ⟨g1, 1, none⟩ = some (.slice (some ⟨b, off, none⟩) n d1) := b1.cell 1
 have f1 := b1.frozen 1
 have fl := b1.lt
 go_wp2_with fail
 refine (put_l (k := 0) (m := 1) (n := n) P1.out rfl rfl rfl LT.out none 0 (some ⟨b, off, none⟩) d1 _ (Aln.RB.nil) (by omega) rA (by omega) (by intro x hx; cases hx) (by omega)).mono ?_
 rintro _ w2 ⟨A2, c2, rfl, r2, hc2, hb2⟩
 replace hB := bstep hB hb2
 replace hx := hx.keep hb2
 replace hy := hy.keep hb2
 replace hA := hA.keep hb2
 replace rA := rA.keep hb2
 replace rB := rB.keep hb2
 replace b1 := b1.keep hb2
 replace b2 := b2.keep hb2
 clear hb2
 clear q0 q1 f0 f1 fl
 have q0 : World.cell? w2 ⟨g2, 0, none⟩ = some (.int .i64 n) := b2.cell 0
 have f0 := b2.frozen 0
 have q1 : World.cell? w2 ⟨g2, 1, none⟩ = some (.slice (some ⟨b, off + n, none⟩) (xs.length - n) d2) := b2.cell 1
 have f1 := b2.frozen 1
 have fl := b2.lt
 go_wp2_with fail
 refine (put_l (k := 1) (m := 1) (n := xs.length - n) P2.out rfl rfl rfl LD.out A2 c2 (some ⟨b, off + n, none⟩) d2 _ r2 hc2 rB (by omega) (by intro x hx; rw [List.mem_singleton] at hx; subst hx; simp only [LT.out]; omega) (by omega)).mono ?_
 rintro _ w3 ⟨A3, c3, rfl, r3, hc3, hb3⟩
 replace hB := bstep hB hb3
 replace hx := hx.keep hb3
 replace hy := hy.keep hb3
 replace hA := hA.keep hb3
 replace rA := rA.keep hb3
 replace rB := rB.keep hb3
 replace b1 := b1.keep hb3
 replace b2 := b2.keep hb3
 clear hb3
 clear q0 q1 f0 f1 fl r2
 have q0 : World.cell? w3 ⟨g2, 0, none⟩ = some (.int .i64 n) := b2.cell 0
 have f0 := b2.frozen 0
 have q1 : World.cell? w3 ⟨g2, 1, none⟩ = some (.slice (some ⟨b, off + n, none⟩) (xs.length - n) d2) := b2.cell 1
 have f1 := b2.frozen 1
 have fl := b2.lt
 go_wp2_with fail
 refine (put_l (k := 0) (m := 1) (n := xs.length - n) P3.out rfl rfl rfl LD.out none 0 (some ⟨b, off + n, none⟩) d2 _ (Aln.RB.nil) (by omega) rB (by omega) (by intro x hx; cases hx) (by omega)).mono ?_
 rintro _ w4 ⟨A4, c4, rfl, r4, hc4, hb4⟩
 replace hB := bstep hB hb4
 replace hx := hx.keep hb4
 replace hy := hy.keep hb4
 replace hA := hA.keep hb4
 replace rA := rA.keep hb4
 replace b1 := b1.keep hb4
 replace r3 := r3.keep hb4
 clear hb4
 clear q0 q1 f0 f1 fl b2 rB
 have q0 : World.cell? w4 ⟨g1, 0, none⟩ = some (.int .i64 0) := b1.cell 0
 have f0 := b1.frozen 0
 have q1 : World.cell? w4 ⟨g1, 1, none⟩ = some (.slice (some ⟨b, off, none⟩) n d1) := b1.cell 1
 have f1 := b1.frozen 1
 have fl := b1.lt
 go_wp2_with fail
 refine (put_l (k := 1) (m := 1) (n := n) P4.out rfl rfl rfl LT.out A4 c4 (some ⟨b, off, none⟩) d1 _ r4 hc4 rA (by omega) (by intro x hx; rw [List.mem_singleton] at hx; subst hx; simp only [LD.out]; omega) (by omega)).mono ?_
 rintro _ w5 ⟨A5, c5, rfl, r5, hc5, hb5⟩
 replace hB := bstep hB hb5
 replace hx := hx.keep hb5
 replace hy := hy.keep hb5
 replace hA := hA.keep hb5
 replace r3 := r3.keep hb5
 clear hb5
 clear q0 q1 f0 f1 fl b1 rA r4
 go_wp2_with fail
 refine (win_l EX.out (by omega) A3 c3 _ r3).mono ?_
 rintro _ w6 ⟨A6, c6, rfl, r6, hb6⟩
 replace hB := bstep hB hb6
 replace hx := hx.keep hb6
 replace hy := hy.keep hb6
 replace hA := hA.keep hb6
 replace r5 := r5.keep hb6
 clear hb6
 clear r3
 go_wp2_with fail
 refine (win_l EX.out (by omega) A5 c5 _ r5).mono ?_
 rintro _ w7 ⟨A7, c7, rfl, r7, hb7⟩
 replace hB := bstep hB hb7
 replace hx := hx.keep hb7
 replace hy := hy.keep hb7
 replace hA := hA.keep hb7
 replace r6 := r6.keep hb7
 clear hb7
 clear r5
 go_wp2_with fail
 refine (of_l (M := M) EX.out EY.out hM HT.out rfl rfl _ r6 hy).mono ?_
 rintro _ w8 ⟨A8, c8, rfl, r8, hb8⟩
 replace hB := bstep hB hb8
 replace hx := hx.keep hb8
 replace hA := hA.keep hb8
 replace r6 := r6.keep hb8
 replace r7 := r7.keep hb8
 clear hb8
 go_wp2_with fail
 refine (same13_l _ r6 hx (by omega)).mono ?_
 rintro _ w9 ⟨rfl, hb9⟩
 replace hB := bstep hB hb9
 replace hx := hx.keep hb9
 replace hA := hA.keep hb9
 replace r7 := r7.keep hb9
 replace r8 := r8.keep hb9
 clear hb9
 go_wp2_with fail
 refine (same13_l _ r7 hx (by omega)).mono ?_
 rintro _ w10 ⟨rfl, hb10⟩
 replace hB := bstep hB hb10
 replace hA := hA.keep hb10
 replace r8 := r8.keep hb10
 clear hb10
 go_wp2_with fail
 refine (same16_l _ LW.out r8 hA hT1).mono ?_
 rintro _ w11 ⟨rfl, hb11⟩
 replace hB := bstep hB hb11
 go_wp2
 go_ret
 exact ⟨rfl, hB⟩
end Tpm
end Go.Proofs.YtelkokcnedbmeaaGreat
namespace Go.Proofs.YtelkokcnedbmeaaGreat
open Go.RowKit
set_option maxRecDepth 20000
set_option linter.unusedVariables false
set_option linter.unusedSimpArgs false
namespace Smp
def dig (xs : List Int) (i : Nat) : Nat := (digitOf (xs.getD i 0)).toNat
def hor (xs : List Int) : Nat → Nat → Nat
 | _, 0 => 0
 | a, m + 1 => dig xs a + 5 * hor xs (a + 1) m
theorem dig_lt (xs : List Int) (i : Nat) : dig xs i ≤ 4 := by
 unfold dig digitOf
 repeat' split
 all_goals decide
theorem dig_out {xs : List Int} {i : Nat} (h : xs.length ≤ i) : dig xs i = 0 := by
 unfold dig
 rw [List.getD_eq_getElem?_getD, List.getElem?_eq_none h]
 rfl
theorem hor_out {xs : List Int} (m : Nat) : ∀ a, xs.length ≤ a → hor xs a m = 0 := by
 induction m with
 | zero => intro a _; rfl
 | succ m ih => intro a h; rw [hor, dig_out h, ih (a + 1) (by omega)]
theorem hor_lt (xs : List Int) (m : Nat) : ∀ a, hor xs a m + 1 ≤ 5 ^ m := by
 induction m with
 | zero => intro a; simp [hor]
 | succ m ih =>
  intro a
  have h1 := dig_lt xs a
  have h2 := ih (a + 1)
  rw [hor, Nat.pow_succ]
  omega
theorem hor_3 (xs : List Int) {a m : Nat} (h : m ≤ 3) : hor xs a m ≤ 124 := by
 have h1 := hor_lt xs m a
 have h2 : 5 ^ m ≤ 5 ^ 3 := Nat.pow_le_pow_right (by omega) h
 omega
def pkN (xs : List Int) (k j : Nat) : Nat := hor xs (max k (3 * j)) (3 * j + 3 - max k (3 * j))
def pkF (xs : List Int) (k j : Nat) : Int := (pkN xs k j : Nat)
theorem pkN_2 (xs : List Int) (n : Nat) : pkN xs (n + 1) (n / 3) ≤ 24 := by
 unfold pkN
 have h1 := hor_lt xs (3 * (n / 3) + 3 - max (n + 1) (3 * (n / 3))) (max (n + 1) (3 * (n / 3)))
 have h2 : 5 ^ (3 * (n / 3) + 3 - max (n + 1) (3 * (n / 3))) ≤ 5 ^ 2 := Nat.pow_le_pow_right (by omega) (by omega)
 omega
theorem digit_le (x : Int) : digitOf x ≤ 4 := by
 unfold digitOf
 repeat' split
 all_goals decide
def pkLen (n : Nat) : Nat := (n + 2) / 3
def pkL (xs : List Int) : List Int := fullL (pkF xs 0) (pkLen xs.length)
theorem pkL_len (xs : List Int) : (pkL xs).length = pkLen xs.length := fullL_len _ _
theorem pk_start (xs : List Int) (L : Nat) : fullL (pkF xs xs.length) L = List.replicate L 0 := by
 apply List.ext_getElem (by simp [fullL])
 intro i h1 h2
 rw [fullL_get, List.getElem_replicate]
 unfold pkF pkN
 rw [hor_out _ _ (by omega)]
 rfl
theorem pk_same {xs : List Int} {k j : Nat} (h : j ≠ k / 3) : pkN xs k j = pkN xs (k + 1) j := by
 unfold pkN
 by_cases h1 : 3 * j ≤ k
 ·have h2 : 3 * j + 3 ≤ k := by omega
  rw [show 3 * j + 3 - max k (3 * j) = 0 by omega, show 3 * j + 3 - max (k + 1) (3 * j) = 0 by omega]
  rfl
 ·rw [show max k (3 * j) = 3 * j by omega, show max (k + 1) (3 * j) = 3 * j by omega]
theorem pk_here (xs : List Int) (k : Nat) : pkN xs k (k / 3) = dig xs k + 5 * pkN xs (k + 1) (k / 3) := by
 unfold pkN
 rw [show max k (3 * (k / 3)) = k by omega, show max (k + 1) (3 * (k / 3)) = k + 1 by omega, show 3 * (k / 3) + 3 - k = (3 * (k / 3) + 3 - (k + 1)) + 1 by omega]
 rfl
theorem pk_step {xs : List Int} {k L : Nat} (hk : k / 3 < L) : (fullL (pkF xs (k + 1)) L).set (k / 3) (pkF xs (k + 1) (k / 3) * 5 + dig xs k) = fullL (pkF xs k) L := by
 apply List.ext_getElem (by simp [fullL])
 intro i h1 h2
 rw [List.getElem_set, fullL_get]
 simp only [fullL_get]
 unfold pkF
 by_cases e : k / 3 = i
 ·subst e
  rw [if_pos rfl, pk_here]
  omega
 ·rw [if_neg e, pk_same (Ne.symm e)]
def valD (d : Nat) : Int := if d = 0 then 0 else if d = 1 then -3 else if d = 2 then -1 else if d = 3 then 1 else 3
theorem valD_dig {xs : List Int} (h : ∀ x ∈ xs, 0 ≤ digitOf x) {i : Nat} (hi : i < xs.length) : valD (dig xs i) = xs.getD i 0 := by
 have h1 := h _ (List.getElem_mem hi)
 unfold dig
 rw [getD_lt _ _ hi]
 generalize xs[i] = x at *
 unfold digitOf at *
 repeat' split at h1
 all_goals simp_all [valD]
theorem hor_mod (xs : List Int) (a m : Nat) : hor xs a (m + 1) % 5 = dig xs a := by
 have := dig_lt xs a
 rw [hor]; omega
theorem hor_div (xs : List Int) (a m : Nat) : hor xs a (m + 1) / 5 = hor xs (a + 1) m := by
 have := dig_lt xs a
 rw [hor]; omega
theorem pkF_at {xs : List Int} {j : Nat} : pkF xs 0 j = (hor xs (3 * j) 3 : Nat) := by
 unfold pkF pkN
 rw [show max 0 (3 * j) = 3 * j by omega, show 3 * j + 3 - 3 * j = 3 by omega]
def takeF (t x : Int) : Int := if x < 0 then -(if t ≤ max x (-x) then 3 else 1) else (if t ≤ max x (-x) then 3 else 1)
end Smp
end Go.Proofs.YtelkokcnedbmeaaGreat
namespace Go.Proofs.YtelkokcnedbmeaaGreat
open Go.RowKit
set_option maxRecDepth 20000
set_option linter.unusedVariables false
set_option linter.unusedSimpArgs false
namespace Smp
open Lagw
theorem info_byte : (Tryz.prog.info? 5).map (fun i => (i.zero, i.size, i.bytes)) = some (some (.int .u8 0), 1, 1) := by kernel_rfl
theorem length_any (n : Nat) (w : World) (hn : n ≤ 1000000) : Calls Tryz.prog 75 #[.int .i64 (n : Int)] w fun e w' => e = .returned (.int .i64 (pkLen n : Nat)) ∧ w = w' := by
 go_enter Tryz.func75, Tryz.ntmps75
 go_wp2
 go_ret
 exact ⟨ret_int (by unfold pkLen; omega), rfl⟩
set_option maxRecDepth 20000 in
set_option maxHeartbeats 4000000 in
theorem pack_any (A : Option Addr) (c : Nat) (xs : List Int) (w : World) (hx : RI .i64 w A xs) (he : streamErr xs = 0) :
 Calls Tryz.prog 38 #[.slice A xs.length c] w fun e w' => ∃ g, e = .returned (.tuple #[.slice (some ⟨g, 0, none⟩) (pkLen xs.length) (pkLen xs.length), .int .i64 0]) ∧ RI .u8 w' (some ⟨g, 0, none⟩) (pkL xs) ∧ Below w.heap.size w w' := by
 have e1 : (streamErr xs != 0) = false := by simp [he]
 have HE := Lib.hid he
 have hl5 := (streamErr_zero he).1
 clear he
 obtain ⟨i0, hi0, hz0, hz1, hz2⟩ := info_parts info_byte
 have hmk := mk_row (P := Tryz.prog) 88 5 Tryz.underlying88 hi0 hz0 hz1 hz2 (encI .u8) (encI_len .u8) (by omega) 0 rfl (pkLen xs.length) (by unfold pkLen; omega) (by unfold pkLen; omega)
 go_enter Tryz.func38, Tryz.ntmps38
 go_wp2_with fail
 refine (sampleCheck_any _ _ _ _ hx (by omega)).mono ?_
 rintro e w' ⟨rfl, rfl⟩
 go_wp2_with fail
 refine (length_any _ _ (by omega)).mono ?_
 rintro e w' ⟨rfl, rfl⟩
 go_wp2
 go_loopg [6] xs.length (fun gk i wr => ∃ (k : Nat) (z : Int), k = gk ∧ k ≤ xs.length ∧ z = (k : Int) - 1 ∧ i = .int .i64 z ∧ Blk wr w.heap.size 5 ((fullL (pkF xs k) (pkLen xs.length)).flatMap (encI .u8)).toArray ∧ Below w.heap.size w wr)
 case atStart => exact ⟨xs.length, _, rfl, Nat.le_refl _, rfl, rfl, by rw [pk_start]; exact Blk.new w _ _, balloc (Below.refl _ _) _⟩
 case round =>
  obtain ⟨k, z, hk, hk', hz, rfl, hO, hb⟩ := hrel
  have HK := Lib.hid hk
  clear hk
  obtain ⟨w5, rfl⟩ : ∃ w5, w5 = wr := ⟨_, rfl⟩
  rcases Nat.eq_zero_or_pos k with h0 | h0
  ·obtain rfl : z = -1 := by omega
   obtain rfl : k = 0 := h0
   clear hz hk'
   go_wp2
   go_ret2
   exact ⟨_, rfl, blk_RI hO, hb⟩
  ·obtain ⟨n, rfl⟩ : ∃ n, k = n + 1 := ⟨k - 1, by omega⟩
   obtain rfl : z = (n : Int) := by omega
   clear hz h0
   have hlt : n < xs.length := by omega
   have hj : n / 3 < pkLen xs.length := by unfold pkLen; omega
   obtain ⟨b, off, rfl, hlw, hcw⟩ := hx.at2 hlt
   have hc := (hb.cell (p := ⟨b, _, none⟩) hlw).trans hcw
   have o0 := blkI_at hO (j := n / 3) (by rw [fullL_len]; exact hj)
   have of0 := hO.frozen (n / 3)
   have hgl := hO.lt
   rw [fullL_getD _ _ _ _ hj] at o0
   have hv := pkN_2 xs n
   have hd := (streamErr_zero HE.out).2 _ (List.getElem_mem hlt)
   have hd2 := digit_le xs[n]
   have HS := Lib.hid (pk_step (xs := xs) hj)
   rw [getD_lt _ _ hlt] at hc
   have HD : Hid (((dig xs n : Nat) : Int) = digitOf xs[n]) := Lib.hid (by unfold dig; rw [getD_lt _ _ hlt]; omega)
   have HV : Hid (pkF xs (n + 1) (n / 3) = ((pkN xs (n + 1) (n / 3) : Nat) : Int)) := Lib.hid rfl
   rw [HV.out] at o0
   rw [HD.out, HV.out] at HS
   clear HD HV
   generalize pkN xs (n + 1) (n / 3) = V at *
   have hw3 : IntKind.i64.wrap ((n : Int) / 3) = ((n / 3 : Nat) : Int) := IntWalk.i64_in _ ⟨by omega, by omega⟩
   generalize n / 3 = j at *
   have hm1 : IntKind.u8.wrap ((V : Int) * 5) = (V : Int) * 5 := IntWalk.u8_in _ ⟨by omega, by omega⟩
   have hm2 : IntKind.u8.wrap (digitOf xs[n]) = digitOf xs[n] := IntWalk.u8_in _ ⟨by omega, by omega⟩
   have hm3 : IntKind.u8.wrap ((V : Int) * 5 + digitOf xs[n]) = (V : Int) * 5 + digitOf xs[n] := IntWalk.u8_in _ ⟨by omega, by omega⟩
   have hc' : w5.cell? ⟨b, off + n, none⟩ = some (.int .i64 xs[n]) := hc
   go_wp2_with fail
   go_region_law
    ((first
      |(go_simp; go_at_call 48; (with_reducible refine (digit_any _ _).mono ?_); rintro e w9 ⟨rfl, rfl⟩)
      | fail))
   all_goals
    go_wp2_with fail
    go_roundg (gk - 1)
    case rel => exact ⟨n, (n : Int) - 1, by have := HK.out; omega, by omega, rfl, by go_num, by rw [← HS.out]; exact blkI_set hO (by rw [fullL_len]; exact hj) _, Below.drew (hb.setCell (p := ⟨w.heap.size, j, none⟩) (Nat.le_refl _) _)⟩
    case measure => have := HK.out; omega
end Smp
end Go.Proofs.YtelkokcnedbmeaaGreat
namespace Go.Proofs.YtelkokcnedbmeaaGreat
open Go.RowKit
set_option maxRecDepth 20000
set_option linter.unusedVariables false
set_option linter.unusedSimpArgs false
namespace Smp
open Lagw
theorem info_intS : (Tryz.prog.info? 3).map (fun i => (i.zero, i.size, i.bytes)) = some (some (.int .i64 0), 1, 8) := by kernel_rfl
theorem vals_at {w : World} {g : Nat} {t : TypeId} (h : Blk w g t #[.int .i64 0, .int .i64 (-3), .int .i64 (-1), .int .i64 1, .int .i64 3]) {d : Nat} (hd : d ≤ 4) : w.cell? ⟨g, d, none⟩ = some (.int .i64 (valD d)) := by
 rw [h.cell]
 rcases (show d = 0 ∨ d = 1 ∨ d = 2 ∨ d = 3 ∨ d = 4 by omega) with rfl | rfl | rfl | rfl | rfl <;> rfl
def upF (xs : List Int) (i : Nat) : Int := xs.getD i 0
theorem up_next {xs : List Int} {k m : Nat} (h : m = 3 ∨ xs.length ≤ 3 * k + m) (hm : m ≤ 3) : partL (upF xs) 0 xs.length (3 * k + m) = partL (upF xs) 0 xs.length (3 * (k + 1)) := by
 rcases h with rfl | h
 ·rfl
 ·rw [partL_end _ _ _ _ h, partL_end _ _ _ _ (by omega)]
theorem hor_end {xs : List Int} {k m : Nat} (h : m = 3 ∨ xs.length ≤ 3 * k + m) : hor xs (3 * k + m) (3 - m) = 0 := by
 rcases h with rfl | h
 ·rfl
 ·exact hor_out _ _ h
set_option maxRecDepth 20000 in
set_option maxHeartbeats 4000000 in
theorem unpack_any (A : Option Addr) (c : Nat) (xs : List Int) (w : World) (hx : RI .u8 w A (pkL xs)) (he : streamErr xs = 0) :
 Calls Tryz.prog 39 #[.slice A (pkLen xs.length) c, .int .i64 (xs.length : Int)] w fun e w' => ∃ g, e = .returned (.tuple #[.slice (some ⟨g, 0, none⟩) xs.length xs.length, .int .i64 0]) ∧ RI .i64 w' (some ⟨g, 0, none⟩) xs ∧ Below w.heap.size w w' := by
 have HE := Lib.hid he
 have hl5 := (streamErr_zero he).1
 have dm1 : decide ((xs.length : Int) < 0) = false := by simp
 have dm2 : decide (256 < (xs.length : Int)) = false := by simp; omega
 clear he
 obtain ⟨i0, hi0, hz0, hz1, hz2⟩ := info_parts info_intS
 have hmk := mk_row (P := Tryz.prog) 22 3 Tryz.underlying22 hi0 hz0 hz1 hz2 (encI .i64) (encI_len .i64) (by omega) 0 rfl xs.length (by omega) (by omega)
 go_enter Tryz.func39, Tryz.ntmps39
 go_wp2_with fail
 refine (length_any _ _ (by omega)).mono ?_
 rintro e w' ⟨rfl, rfl⟩
 go_wp2
 go_loopg [8, 9, 10, 27] (pkLen xs.length) (fun gk _ _ _ i wr => ∃ k : Nat, k + gk = pkLen xs.length ∧ i = .int .i64 k ∧ Blk wr (w.heap.size + 1) 3 ((partL (upF xs) 0 xs.length (3 * k)).flatMap (encI .i64)).toArray ∧ Blk wr w.heap.size 135 #[.int .i64 0, .int .i64 (-3), .int .i64 (-1), .int .i64 1, .int .i64 3] ∧ Below w.heap.size w wr)
 case atStart => exact ⟨0, by omega, rfl, by rw [Nat.mul_zero, partL_start]; exact Blk.newAt _ _ (by simp), (Blk.new w _ _).alloc _, balloc (balloc (Below.refl _ _) _) _⟩
 case round =>
  obtain ⟨k, hk, rfl, hO, hV, hb⟩ := hrel
  have HK := Lib.hid hk
  have hk' : k ≤ pkLen xs.length := by omega
  clear hk
  obtain ⟨w5, rfl⟩ : ∃ w5, w5 = wr := ⟨_, rfl⟩
  obtain ⟨gu, rfl⟩ : ∃ gu : Nat, gu = gk := ⟨_, rfl⟩
  by_cases hlt : k < pkLen xs.length
  ·have hk3 : 3 * k < xs.length := by unfold pkLen at hlt; omega
   obtain ⟨b, off, rfl, hlw, hcw⟩ := hx.at2 (i := k) (by rw [pkL_len]; exact hlt)
   have hc := (hb.cell (p := ⟨b, _, none⟩) hlw).trans hcw
   rw [pkL, fullL_getD _ _ _ _ hlt, pkF_at] at hc
   have hO1 := hO
   have hb1 := hb
   have hV1 := hV
   go_wp2
   go_loopg [9, 10] 3 (fun ga c i wq => ∃ m : Nat, m + ga = 3 ∧ 3 * k + m ≤ xs.length ∧ c = .int .u8 (hor xs (3 * k + m) (3 - m) : Nat) ∧ i = .int .i64 ((3 * k + m : Nat) : Int) ∧ Blk wq (w.heap.size + 1) 3 ((partL (upF xs) 0 xs.length (3 * k + m)).flatMap (encI .i64)).toArray ∧ Blk wq w.heap.size 135 #[.int .i64 0, .int .i64 (-3), .int .i64 (-1), .int .i64 1, .int .i64 3] ∧ Below w.heap.size w wq)
   case atStart => exact ⟨0, by omega, by omega, rfl, by go_num, hO1, hV1, hb1⟩
   case round =>
    obtain ⟨m, hm, hmn, rfl, rfl, hO, hV, hb⟩ := hrel
    have HM := Lib.hid hm
    have hm' : m ≤ 3 := by omega
    clear hm hc
    obtain ⟨w6, rfl⟩ : ∃ w6, w6 = wr := ⟨_, rfl⟩
    by_cases hin : m < 3 ∧ 3 * k + m < xs.length
    ·obtain ⟨hm3, hmx⟩ := hin
     obtain ⟨q, hq⟩ : ∃ q, 3 - m = q + 1 := ⟨2 - m, by omega⟩
     have hmod := hor_mod xs (3 * k + m) q
     have hdiv := Lib.hid (hor_div xs (3 * k + m) q)
     have hH := hor_3 xs (a := 3 * k + m) (m := q + 1) (by omega)
     have hD := dig_lt xs (3 * k + m)
     have hval := valD_dig (streamErr_zero HE.out).2 hmx
     rw [hq]
     have HQ := Lib.hid hq
     clear hq
     generalize hor xs (3 * k + m) (q + 1) = H at *
     have vc := vals_at hV hD
     have vf := hV.frozen (dig xs (3 * k + m))
     have vl := hV.lt
     rw [hval] at vc
     have o1 := hO.frozen (3 * k + m)
     have o2 := blkI_at hO (j := 3 * k + m) (by rw [partL_len]; exact hmx)
     have o3 := hO.lt
     generalize dig xs (3 * k + m) = D at *
     go_wp2
     all_goals
      go_roundg (gk - 1)
      case rel => exact ⟨m + 1, by have := HM.out; omega, by omega, by rw [show 3 - (m + 1) = q by have := HQ.out; omega, ← Nat.add_assoc, ← hdiv.out]; rfl, by go_num, by rw [← Nat.add_assoc, ← partL_set (upF xs) 0 xs.length (3 * k + m) xs[3 * k + m] (by unfold upF; rw [getD_lt _ _ hmx])]; exact blkI_set hO (by rw [partL_len]; exact hmx) _, hV.far (p := ⟨w.heap.size + 1, _, none⟩) (by simp) _, hb.setCell (p := ⟨w.heap.size + 1, _, none⟩) (by simp) _⟩
      case measure => have := HM.out; omega
    ·have hor3 : m = 3 ∨ xs.length ≤ 3 * k + m := by omega
     have HN := Lib.hid (up_next hor3 hm')
     rw [hor_end hor3]
     clear hin
     rcases hor3 with hm3 | hm3
     all_goals
      go_wp2
      all_goals
       go_roundg (gu - 1)
       case rel => exact ⟨k + 1, by have := HK.out; omega, by go_num, by rw [← HN.out]; exact hO, hV, hb⟩
       case measure => have := HK.out; omega
  ·go_wp2
   go_ret2
   refine ⟨_, rfl, ?_, hb⟩
   rw [partL_end _ _ _ _ (by unfold pkLen at hlt; omega)] at hO
   have := blk_RI hO
   rwa [show fullL (upF xs) xs.length = xs from fullL_id xs] at this
end Smp
end Go.Proofs.YtelkokcnedbmeaaGreat
