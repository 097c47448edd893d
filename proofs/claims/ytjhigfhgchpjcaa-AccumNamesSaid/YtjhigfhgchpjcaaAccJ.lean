/-
  Contract: accum.Add, where nothing is wrong with its arguments.
-/
import Derived.Test.YtjhigfhgchpjcaaAccI
import Derived.Deep.DrawnRows
import Derived.Deep.RegionLaw
namespace Go.Proofs.Ytjhigfhgchpjcaa
open Go.RowKit Runs Lagc
set_option linter.unusedVariables false
set_option linter.unusedSimpArgs false
attribute [local go_sem ↓] Go.wp_at_zero Go.wp_at_succ

theorem blk_ne_own {wr : World} {base : Nat} {e : TypeId} {s n : Nat} {v : Value} {xs : List Value} (h : wr.ownsRow base e s v n xs) {g : Nat} (hg : g < base ∨ wr.heap.size ≤ g) : some g ≠ v.ownBlock := by
  intro e1
  have := h.lt g e1.symm
  omega
def sF (l : List (Int × Int)) (k : Nat) : Int × Int := cnt (l.getD k (0, 0)).1
def nF (l : List (Int × Int)) (k : Nat) : Int × Int := cnt (l.getD k (0, 0)).2
/-- What holds of the accumulator that is filled, in block g: its two rows lie apart. -/
structure Fill (wr : World) (g gG : Nat) (vS vN : Value) (k m : Nat) (l : List (Int × Int)) : Prop where
  blk : Blk wr g 25 #[vS, vN, .slice (some ⟨gG, 0, none⟩) 1 1]
  s : wr.ownsRow (g + 1) 60 2 vS k ((fullL (sF l) k).flatMap encP)
  n : wr.ownsRow (g + 1) 60 2 vN m ((fullL (nF l) m).flatMap encP)
  apart : ∀ h, vS.ownBlock = some h → vN.ownBlock ≠ some h

theorem grown_blk {w w' : World} {row : Option Nat} (hb : w.grownBy w' row) {g : Nat} {t : TypeId} {cs : Array Value} (h : Blk w g t cs) (hg : some g ≠ row) : Blk w' g t cs := h.grown hb hg
theorem own_heap {w w' : World} {base : Nat} {e : TypeId} {size : Nat} {v : Value} {n : Nat} {xs : List Value} (h : w.ownsRow base e size v n xs) (he : w'.heap = w.heap) : w'.ownsRow base e size v n xs := by
  refine ⟨h.1, ?_⟩
  rcases h.2 with h2 | ⟨g, cap, cur, rfl, h3, h4, h5⟩
  · exact .inl h2
  · exact .inr ⟨g, cap, cur, rfl, h3, by rw [he]; exact h4, h5⟩
theorem Blk.heap {w w' : World} {g : Nat} {t : TypeId} {cs : Array Value} (h : Blk w g t cs) (he : w'.heap = w.heap) : Blk w' g t cs := by unfold Blk at *; rw [he]; exact h
theorem step_below {w0 w9 W w4 : World} {g : Nat} {e : TypeId} {size n i : Nat} {v u : Value} {xs : List Value} {o : Obj} (h9 : Below g w0 w9) (hg : g < w9.heap.size) (h1 : W.os = w9.os) (h2 : W.tape = w9.tape) (h3 : W.output = w9.output) (h4 : W.heap = (w9.alloc o).heap) (hO : w9.ownsRow (g + 1) e size v n xs) (hgrow : W.grownBy w4 v.ownBlock) : Below g w0 (w4.setCell ⟨g, i, none⟩ u) := by
  have h5 := h9.alloc (Nat.le_of_lt hg) o
  have h6 : Below g w0 W := ⟨h1.trans h9.os, h2.trans h9.tape, h3.trans h9.output, by rw [h4]; exact h5.size, fun k hk => by rw [h4]; exact h5.block k hk⟩
  refine Below.setCell (own_below h6 (own_heap (hO.alloc o) h4) hgrow (by omega) ?_) (p := ⟨g, i, none⟩) (Nat.le_refl _) u
  rw [h4]
  have := (Below.refl g w9).alloc (Nat.le_of_lt hg) o
  have := this.size
  omega
theorem Fill.alloc {wr : World} {g gG : Nat} {vS vN : Value} {k m : Nat} {l : List (Int × Int)} (h : Fill wr g gG vS vN k m l) (o : Obj) : Fill (wr.alloc o) g gG vS vN k m l := ⟨h.blk.alloc o, h.s.alloc o, h.n.alloc o, h.apart⟩
theorem Fill.stepS {wE w9 w4 W : World} {g gG g4 c4 : Nat} {vS vN : Value} {k m : Nat} {l : List (Int × Int)} {y : Int × Int} {o : Obj} (hF : Fill wE g gG vS vN k m l) (hb9 : Below wE.heap.size wE w9)
    (hown4 : w4.ownsRow (g + 1) 60 2 (.slice (some ⟨g4, 0, none⟩) (k + 1) c4) (k + 1) ((fullL (sF l) k).flatMap encP ++ encP y)) (hy : sF l k = y) (hW : W.heap = (w9.alloc o).heap) (hgrow4 : W.grownBy w4 vS.ownBlock) (hat4 : vS.ownBlock = some g4 ∨ g4 = w9.heap.size + 1) :
    Fill (w4.setCell ⟨g, 0, none⟩ (.slice (some ⟨g4, 0, none⟩) (k + 1) c4)) g gG (.slice (some ⟨g4, 0, none⟩) (k + 1) c4) vN (k + 1) m l := by
  have hK4 := (((hF.blk.keep hb9).alloc o).heap hW).grown hgrow4 (blk_ne_own hF.s (.inl (by omega)))
  have hN9 := own_heap ((own_keep hF.n hb9).alloc o) hW
  refine ⟨hK4.put 0 _, ?_, ?_, ?_⟩
  · rw [fullL_succ, flat_snoc, hy]
    exact ownsRow_setCell_below hown4 (a := ⟨g, 0, none⟩) (by simp) _
  · exact ownsRow_setCell_below (kept_apart (e' := 0) (s' := 1) (m := 0) (ys := []) hN9 hgrow4 hF.apart) (a := ⟨g, 0, none⟩) (by simp) _
  · intro h h1
    simp only [Value.ownBlock, Option.some.injEq] at h1
    subst h1
    exact apart_one (H := w9.heap.size + 1) (own_keep hF.n hb9) hF.apart hat4 (by omega)
theorem Fill.stepN {wE w9 w4 W : World} {g gG g4 c4 : Nat} {vS vN : Value} {k m : Nat} {l : List (Int × Int)} {y : Int × Int} {o : Obj} (hF : Fill wE g gG vS vN k m l) (hb9 : Below wE.heap.size wE w9)
    (hown4 : w4.ownsRow (g + 1) 60 2 (.slice (some ⟨g4, 0, none⟩) (m + 1) c4) (m + 1) ((fullL (nF l) m).flatMap encP ++ encP y)) (hy : nF l m = y) (hW : W.heap = (w9.alloc o).heap) (hgrow4 : W.grownBy w4 vN.ownBlock) (hat4 : vN.ownBlock = some g4 ∨ g4 = w9.heap.size + 1) :
    Fill (w4.setCell ⟨g, 1, none⟩ (.slice (some ⟨g4, 0, none⟩) (m + 1) c4)) g gG vS (.slice (some ⟨g4, 0, none⟩) (m + 1) c4) k (m + 1) l := by
  have hK4 := (((hF.blk.keep hb9).alloc o).heap hW).grown hgrow4 (blk_ne_own hF.n (.inl (by omega)))
  have hS9 := own_heap ((own_keep hF.s hb9).alloc o) hW
  have hap : ∀ h, vN.ownBlock = some h → vS.ownBlock ≠ some h := fun h h1 h2 => hF.apart h h2 h1
  refine ⟨hK4.put 1 _, ?_, ?_, ?_⟩
  · exact ownsRow_setCell_below (kept_apart (e' := 0) (s' := 1) (m := 0) (ys := []) hS9 hgrow4 hap) (a := ⟨g, 1, none⟩) (by simp) _
  · rw [fullL_succ, flat_snoc, hy]
    exact ownsRow_setCell_below hown4 (a := ⟨g, 1, none⟩) (by simp) _
  · intro h h1 h2
    simp only [Value.ownBlock, Option.some.injEq] at h2
    subst h2
    exact apart_one (H := w9.heap.size + 1) (own_keep hF.s hb9) hap hat4 (by omega) h1

set_option maxRecDepth 20000 in
set_option maxHeartbeats 2000000 in
theorem accAdd_yes (S N G L : Option Addr) (c1 c2 c3 c4 : Nat) (a : Acc) (l : List (Int × Int)) (p m : Int) (w : World) (hx : RA w S N G a) (hL : RL w L l)
    (ea : accErr a = 0) (el : lagErr l = 0) (h3 : addArg a l p m = false) :
    Calls Try.prog 14 #[.agg #[.slice S a.s.length c1, .slice N a.n.length c2, .slice G a.g.length c3], .slice L l.length c4, .int .i64 p, .int .i64 m] w (RetA w (addAcc a l p m)) := by
  have hbX : Below w.heap.size w ((w.alloc (.cells #[.slice S a.s.length c1, .slice N a.n.length c2, .slice G a.g.length c3] 25)).alloc (.cells #[.slice .none 0 0, .slice .none 0 0, .slice .none 0 0] 25)) := balloc (balloc (Below.refl _ _) _) _
  have hk1 := (Blk.new w 25 #[.slice S a.s.length c1, .slice N a.n.length c2, .slice G a.g.length c3]).alloc (.cells #[.slice .none 0 0, .slice .none 0 0, .slice .none 0 0] 25)
  have hk3 := Blk.newAt (w := (w.alloc (.cells #[.slice S a.s.length c1, .slice N a.n.length c2, .slice G a.g.length c3] 25))) (g := w.heap.size + 1) 25 #[.slice .none 0 0, .slice .none 0 0, .slice .none 0 0] (by simp)
  have fa := acc_fine.1 ea
  have hls := fa.ls
  have hln := fa.ln
  have hlg := fa.lg
  obtain ⟨hll, _, hlok⟩ := lagErr_zero el
  obtain ⟨hlen, hm1, hm2, hp1, hp2⟩ := addArg_no h3
  have fb := lagAcc_fine el hm1 hp1 hp2
  have HR := Lib.hid (addAcc_e0 ea el h3)
  have HCA := fun w hx => accCheck_any S N G c1 c2 c3 a w hx (by omega) (by omega) (by omega)
  have HCL := fun w hx => lagCheck_any L c4 l w hx (by omega)
  rw [ea] at HCA
  rw [el] at HCL
  have HFA := Lib.hid fa
  have HFB := Lib.hid fb
  have HLK := Lib.hid hlok
  have e1 : ((l.length : Int) != a.s.length) = false := by rw [bne_eq_false_iff_eq]; omega
  have HLEN := Lib.hid hlen
  obtain ⟨i0, hi0, hz0, hz1, hz2⟩ := info_parts info_count
  clear ea el h3 fa fb hlok hlen hln
  go_enter Try.func14, Try.ntmps14
  go_wp2_with fail
  refine (HCA _ (hx.keep hbX)).mono ?_
  rintro _ w1 ⟨rfl, hb1⟩
  have hB1 := bstep hbX hb1
  replace hk1 := hk1.keep hb1
  replace hk3 := hk3.keep hb1
  have qa0 : World.cell? w1 ⟨w.heap.size, 0, none⟩ = some (.slice S a.s.length c1) := hk1.cell 0
  have fa0 := hk1.frozen 0
  have qa1 : World.cell? w1 ⟨w.heap.size, 1, none⟩ = some (.slice N a.n.length c2) := hk1.cell 1
  have fa1 := hk1.frozen 1
  have qa2 : World.cell? w1 ⟨w.heap.size, 2, none⟩ = some (.slice G a.g.length c3) := hk1.cell 2
  have fa2 := hk1.frozen 2
  have fal := hk1.lt
  have q0 : World.cell? w1 ⟨(w.heap.size + 1), 0, none⟩ = some (.slice .none 0 0) := hk3.cell 0
  have f0 := hk3.frozen 0
  have q1 : World.cell? w1 ⟨(w.heap.size + 1), 1, none⟩ = some (.slice .none 0 0) := hk3.cell 1
  have f1 := hk3.frozen 1
  have q2 : World.cell? w1 ⟨(w.heap.size + 1), 2, none⟩ = some (.slice .none 0 0) := hk3.cell 2
  have f2 := hk3.frozen 2
  have fl := hk3.lt
  go_wp2_with fail
  refine (HCL _ (hL.keep hB1)).mono ?_
  rintro _ w2 ⟨rfl, hb2⟩
  have hB2 := bstep hB1 hb2
  clear qa0 qa1 qa2 q0 q1 q2 fa0 fa1 fa2 f0 f1 f2 fal fl
  replace hk1 := hk1.keep hb2
  replace hk3 := hk3.keep hb2
  have qa0 : World.cell? w2 ⟨w.heap.size, 0, none⟩ = some (.slice S a.s.length c1) := hk1.cell 0
  have fa0 := hk1.frozen 0
  have qa1 : World.cell? w2 ⟨w.heap.size, 1, none⟩ = some (.slice N a.n.length c2) := hk1.cell 1
  have fa1 := hk1.frozen 1
  have qa2 : World.cell? w2 ⟨w.heap.size, 2, none⟩ = some (.slice G a.g.length c3) := hk1.cell 2
  have fa2 := hk1.frozen 2
  have fal := hk1.lt
  have q0 : World.cell? w2 ⟨(w.heap.size + 1), 0, none⟩ = some (.slice .none 0 0) := hk3.cell 0
  have f0 := hk3.frozen 0
  have q1 : World.cell? w2 ⟨(w.heap.size + 1), 1, none⟩ = some (.slice .none 0 0) := hk3.cell 1
  have f1 := hk3.frozen 1
  have q2 : World.cell? w2 ⟨(w.heap.size + 1), 2, none⟩ = some (.slice .none 0 0) := hk3.cell 2
  have f2 := hk3.frozen 2
  have fl := hk3.lt
  go_wp2
  obtain ⟨w3, hw3⟩ : ∃ w3, w3 = w2.alloc (.cells #[.int .i64 p, .int .i64 m] 62) := ⟨_, rfl⟩
  have hb3 : Below w2.heap.size w2 w3 := by rw [hw3]; exact balloc (Below.refl _ _) _
  have hG3 : Blk w3 w2.heap.size 62 #[.int .i64 p, .int .i64 m] := by rw [hw3]; exact Blk.new _ _ _
  have hs3 : w3.heap.size = w2.heap.size + 1 := by rw [hw3]; simp
  obtain ⟨g, hg⟩ : ∃ g, g = w2.heap.size + 1 := ⟨_, rfl⟩
  have hgs : w3.heap.size = g := by rw [hs3, hg]
  rw [← hw3, ← hg]
  have hF0 : Fill (w3.alloc (.cells #[.slice .none 0 0, .slice .none 0 0, .slice (some ⟨w2.heap.size, 0, none⟩) 1 1] 25)) g w2.heap.size (.slice .none 0 0) (.slice .none 0 0) 0 0 l := ⟨Blk.newAt _ _ hgs, World.ownsRow_nil _ _ _ _, World.ownsRow_nil _ _ _ _, by intro h h2; cases h2⟩
  have hB3 := bstep hB2 hb3
  have HGS := Lib.hid hgs
  clear hw3 hs3 hg hgs
  go_loopg [14, 59] l.length (fun gk _ i wr => ∃ k : Nat, ∃ vS vN : Value, k + gk = l.length ∧ i = .int .i64 k ∧ Fill wr g w2.heap.size vS vN k k l ∧ Below g w3 wr)
  case atStart => exact ⟨0, _, _, by omega, rfl, hF0, by rw [← HGS.out]; exact balloc (Below.refl _ _) _⟩
  case round =>
    obtain ⟨k, vS, vN, hk, rfl, hF, hb⟩ := hrel
    have hk' : k ≤ l.length := by omega
    have HK := Lib.hid hk
    clear hk
    have hbw : Below w.heap.size w wr := hB3.trans (by have := HGS.out; have := hB3.size; exact hb.mono (by omega))
    by_cases hlt : k < l.length
    · obtain ⟨b, off, rfl, _, hc1, hc2⟩ := (hL.keep hbw).at_ hlt
      have hbd := okLag_bd (HLK.out _ (getD_mem (d := (0, 0)) hlt))
      have HXS := Lib.hid (show sF l k = cnt (l.getD k (0, 0)).1 from rfl)
      have HXN := Lib.hid (show nF l k = cnt (l.getD k (0, 0)).2 from rfl)
      generalize l.getD k (0, 0) = x at *
      go_wp2
      have HRo := hF.s
      have HRn := hF.n
      obtain ⟨wE, hwE⟩ : ∃ wE, wE = wr.alloc (.cells #[.int .i64 x.1, .int .i64 x.2] 65) := ⟨_, rfl⟩
      have hX : Blk wE wr.heap.size 65 #[.int .i64 x.1, .int .i64 x.2] := by rw [hwE]; exact Blk.new _ _ _
      have hF1 : Fill wE g w2.heap.size vS vN k k l := by rw [hwE]; exact hF.alloc _
      have hbE : Below g w3 wE := by rw [hwE]; exact hb.alloc (by have := hF.blk.lt; omega) _
      rw [← hwE]
      have hglt : g < wr.heap.size := hF.blk.lt
      clear hwE hF
      have hF := hF1
      clear hF1
      have q0 : World.cell? wE ⟨g, 0, none⟩ = some (vS) := hF.blk.cell 0
      have f0 := hF.blk.frozen 0
      have q1 : World.cell? wE ⟨g, 1, none⟩ = some (vN) := hF.blk.cell 1
      have f1 := hF.blk.frozen 1
      have q2 : World.cell? wE ⟨g, 2, none⟩ = some (.slice (some ⟨w2.heap.size, 0, none⟩) 1 1) := hF.blk.cell 2
      have f2 := hF.blk.frozen 2
      have fl := hF.blk.lt
      have x0 : World.cell? wE ⟨wr.heap.size, 0, none⟩ = some (.int .i64 x.1) := hX.cell 0
      have xf0 := hX.frozen 0
      have x1 : World.cell? wE ⟨wr.heap.size, 1, none⟩ = some (.int .i64 x.2) := hX.cell 1
      have xf1 := hX.frozen 1
      have xfl := hX.lt
      have HH : Hid (∀ W, Below wE.heap.size wE W → W.cell? ⟨g, 0, none⟩ = some vS ∧ W.cell? ⟨wr.heap.size, 0, none⟩ = some (.int .i64 x.1)) := Lib.hid (fun W hW => ⟨(hW.cell (p := ⟨g, 0, none⟩) hF.blk.lt).trans (hF.blk.cell 0), (hW.cell (p := ⟨wr.heap.size, 0, none⟩) hX.lt).trans (hX.cell 0)⟩)
      go_region_law
        ((first
          | (refine step_append_lies _ (by rfl) (.tmp 64) (.tmp 68) _ (by rfl) (g + 1) 60 i0 _ 2 16 Try.underlying22 hi0 hz0 hz1 hz2 rfl (by omega) vS k _ (by rfl) (World.ownsRow.drew ((own_keep hF.s hb9).alloc (.cells #[.int .i64 (cnt x.1).1, .int .i64 (cnt x.1).2] 60))) ⟨w9.heap.size, 0, none⟩ 1 1 (encP (cnt x.1)) (by rfl) (by rfl) (encP_news w9 _ _) (encP_one _) (by omega) (by unfold maxLen; omega) (by omega) (by have := hb9.size; have := hF.blk.lt; simp [World.drew]; omega) (w9.heap.size + 1) (by simp [World.drew]) ?_; intro g4 c4 w4 hown4 hgrow4 hat4 hlt4; have hne4 : some g ≠ Value.ownBlock vS := blk_ne_own hF.s (.inl (Nat.lt_succ_self g)); have hne5 : some wr.heap.size ≠ Value.ownBlock vS := blk_ne_own HRo (.inr (Nat.le_refl _)); have hK4 := grown_blk hgrow4 ((hF.blk.keep hb9).alloc (.cells #[.int .i64 (cnt x.1).1, .int .i64 (cnt x.1).2] 60)) hne4; have hX4 := grown_blk hgrow4 ((hX.keep hb9).alloc (.cells #[.int .i64 (cnt x.1).1, .int .i64 (cnt x.1).2] 60)) hne5; have k0 : w4.cell? ⟨g, 0, none⟩ = some vS := hK4.cell 0; have k1 := hK4.frozen 0; have k2 := hK4.lt; have HH4 := Lib.hid (show w4.cell? ⟨wr.heap.size, 0, none⟩ = some (.int .i64 x.1) from hX4.cell 0); have HH5 := Lib.hid (fun u => (show (w4.setCell ⟨g, 0, none⟩ u).cell? ⟨wr.heap.size, 0, none⟩ = some (.int .i64 x.1) from (hX4.far (p := ⟨g, 0, none⟩) (Nat.ne_of_gt hglt) u).cell 0)))
          | (go_simp; go_at_call 34; (with_reducible refine (countOf_any x.1 wE.drew (by omega)).mono ?_); rintro e w9 ⟨rfl, hb9'⟩; have hb9 : Below wE.heap.size wE w9 := bstep (Below.drew (Below.refl _ _)) hb9'; have k9 := (HH.out _ hb9).1; have k8 : g < w9.heap.size := Nat.lt_of_lt_of_le hF.blk.lt hb9.size)))
      all_goals
        clear HH HH4 HH5 k0 k1 k2 k8 k9 q0 q1 q2 f0 f1 f2 x0 x1 xf0 xf1
        go_wp2
        obtain ⟨wF, hwF⟩ : ∃ wF, wF = w4.setCell ⟨g, 0, none⟩ (.slice (some ⟨g4, 0, none⟩) (k + 1) c4) := ⟨_, rfl⟩
        have hF2 : Fill wF g w2.heap.size (.slice (some ⟨g4, 0, none⟩) (k + 1) c4) vN (k + 1) k l := by rw [hwF]; exact hF.stepS hb9 hown4 HXS.out (by rfl) hgrow4 hat4
        have hX2 : Blk wF wr.heap.size 65 #[.int .i64 x.1, .int .i64 x.2] := by rw [hwF]; exact hX4.far (p := ⟨g, 0, none⟩) (Nat.ne_of_gt hglt) _
        have hbF : Below g w3 wF := by
          rw [hwF]
          exact step_below (hbE.trans (hb9.mono (Nat.le_of_lt hF.blk.lt))) (Nat.lt_of_lt_of_le hF.blk.lt hb9.size) (by rfl) (by rfl) (by rfl) (by rfl) (own_keep hF.s hb9) hgrow4
        rw [← hwF]
        clear hwF hown4 hgrow4 hat4 hK4 hX4 hbE hF hX hb9 hne4 hne5 HRo hlt4
        obtain ⟨wE, rfl⟩ : ∃ wE, wE = wF := ⟨_, rfl⟩
        obtain ⟨v1, hv1⟩ : ∃ v1, v1 = Value.slice (some ⟨g4, 0, none⟩) (k + 1) c4 := ⟨_, rfl⟩
        rw [← hv1] at hF2
        clear hv1
        have hF := hF2
        have hX := hX2
        clear hF2 hX2
        have q0 : World.cell? wE ⟨g, 0, none⟩ = some (v1) := hF.blk.cell 0
        have f0 := hF.blk.frozen 0
        have q1 : World.cell? wE ⟨g, 1, none⟩ = some (vN) := hF.blk.cell 1
        have f1 := hF.blk.frozen 1
        have q2 : World.cell? wE ⟨g, 2, none⟩ = some (.slice (some ⟨w2.heap.size, 0, none⟩) 1 1) := hF.blk.cell 2
        have f2 := hF.blk.frozen 2
        have fl := hF.blk.lt
        have x0 : World.cell? wE ⟨wr.heap.size, 0, none⟩ = some (.int .i64 x.1) := hX.cell 0
        have xf0 := hX.frozen 0
        have x1 : World.cell? wE ⟨wr.heap.size, 1, none⟩ = some (.int .i64 x.2) := hX.cell 1
        have xf1 := hX.frozen 1
        have xfl := hX.lt
        have HH : Hid (∀ W, Below wE.heap.size wE W → W.cell? ⟨g, 1, none⟩ = some vN ∧ W.cell? ⟨wr.heap.size, 1, none⟩ = some (.int .i64 x.2)) := Lib.hid (fun W hW => ⟨(hW.cell (p := ⟨g, 1, none⟩) hF.blk.lt).trans (hF.blk.cell 1), (hW.cell (p := ⟨wr.heap.size, 1, none⟩) hX.lt).trans (hX.cell 1)⟩)
        go_region_law
          ((first
            | (refine step_append_lies _ (by rfl) (.tmp 72) (.tmp 76) _ (by rfl) (g + 1) 60 i0 _ 2 16 Try.underlying22 hi0 hz0 hz1 hz2 rfl (by omega) vN k _ (by rfl) (World.ownsRow.drew ((own_keep hF.n hb9).alloc (.cells #[.int .i64 (cnt x.2).1, .int .i64 (cnt x.2).2] 60))) ⟨w9.heap.size, 0, none⟩ 1 1 (encP (cnt x.2)) (by rfl) (by rfl) (encP_news w9 _ _) (encP_one _) (by omega) (by unfold maxLen; omega) (by omega) (by have := hb9.size; have := hF.blk.lt; simp [World.drew]; omega) (w9.heap.size + 1) (by simp [World.drew]) ?_; intro g4 c4 w4 hown4 hgrow4 hat4 hlt4; have hne4 : some g ≠ Value.ownBlock vN := blk_ne_own hF.n (.inl (Nat.lt_succ_self g)); have hne5 : some wr.heap.size ≠ Value.ownBlock vN := blk_ne_own HRn (.inr (Nat.le_refl _)); have hK4 := grown_blk hgrow4 ((hF.blk.keep hb9).alloc (.cells #[.int .i64 (cnt x.2).1, .int .i64 (cnt x.2).2] 60)) hne4; have hX4 := grown_blk hgrow4 ((hX.keep hb9).alloc (.cells #[.int .i64 (cnt x.2).1, .int .i64 (cnt x.2).2] 60)) hne5; have k0 : w4.cell? ⟨g, 1, none⟩ = some vN := hK4.cell 1; have k1 := hK4.frozen 1; have k2 := hK4.lt; have HH4 := Lib.hid (show w4.cell? ⟨wr.heap.size, 1, none⟩ = some (.int .i64 x.2) from hX4.cell 1); have HH5 := Lib.hid (fun u => (show (w4.setCell ⟨g, 1, none⟩ u).cell? ⟨wr.heap.size, 1, none⟩ = some (.int .i64 x.2) from (hX4.far (p := ⟨g, 1, none⟩) (Nat.ne_of_gt hglt) u).cell 1)))
            | (go_simp; go_at_call 34; (with_reducible refine (countOf_any x.2 wE.drew (by omega)).mono ?_); rintro e w9 ⟨rfl, hb9'⟩; have hb9 : Below wE.heap.size wE w9 := bstep (Below.drew (Below.refl _ _)) hb9'; have k9 := (HH.out _ hb9).1; have k8 : g < w9.heap.size := Nat.lt_of_lt_of_le hF.blk.lt hb9.size)))
        all_goals
          go_wp2
          go_roundg (gk - 1)
          case rel => exact ⟨k + 1, v1, .slice (some ⟨g4, 0, none⟩) (k + 1) c4, by have := HK.out; omega, by go_num, hF.stepN hb9 hown4 HXN.out (by rfl) hgrow4 hat4, step_below (hbF.trans (hb9.mono (Nat.le_of_lt hF.blk.lt))) (Nat.lt_of_lt_of_le hF.blk.lt hb9.size) (by rfl) (by rfl) (by rfl) (by rfl) (own_keep hF.n hb9) hgrow4⟩
          case measure => have := HK.out; omega
    · obtain rfl : k = l.length := by omega
      obtain ⟨A1, x1, rfl⟩ := own_shape hF.s
      obtain ⟨A2, x2, rfl⟩ := own_shape hF.n
      have hgl := hF.blk.lt
      have hb23 : Below w2.heap.size w2 wr := hb3.trans (hb.mono (by have := HGS.out; have := hb3.size; omega))
      have e1 : (lagAcc l p m).s.length = l.length := fullL_len _ _
      have e2 : (lagAcc l p m).n.length = l.length := fullL_len _ _
      have hr : RA wr A1 A2 (some ⟨w2.heap.size, 0, none⟩) (lagAcc l p m) := ⟨own_RL_at (fullL_len _ _) hF.s, own_RL_at (fullL_len _ _) hF.n, RL_lit [(p, m)] _ (hG3.below hb (by have := HGS.out; have := hG3.lt; omega)) rfl⟩
      have HM := fun w hx hy => merge_any S N G A1 A2 (some ⟨w2.heap.size, 0, none⟩) c1 c2 c3 x1 x2 1 a (lagAcc l p m) w hx hy HFA.out HFB.out (by rw [e1]; exact HLEN.out.symm)
      rw [e1, e2, show (lagAcc l p m).g.length = 1 from rfl, ← HR.out] at HM
      have HMH := Lib.hid HM
      clear HM e1 e2
      clear qa0 qa1 qa2 q0 q1 q2 fa0 fa1 fa2 f0 f1 f2 fal fl
      replace hk1 := hk1.keep hb23
      replace hk3 := hk3.keep hb23
      have qa0 : World.cell? wr ⟨w.heap.size, 0, none⟩ = some (.slice S a.s.length c1) := hk1.cell 0
      have fa0 := hk1.frozen 0
      have qa1 : World.cell? wr ⟨w.heap.size, 1, none⟩ = some (.slice N a.n.length c2) := hk1.cell 1
      have fa1 := hk1.frozen 1
      have qa2 : World.cell? wr ⟨w.heap.size, 2, none⟩ = some (.slice G a.g.length c3) := hk1.cell 2
      have fa2 := hk1.frozen 2
      have fal := hk1.lt
      have q0 : World.cell? wr ⟨(w.heap.size + 1), 0, none⟩ = some (.slice .none 0 0) := hk3.cell 0
      have f0 := hk3.frozen 0
      have q1 : World.cell? wr ⟨(w.heap.size + 1), 1, none⟩ = some (.slice .none 0 0) := hk3.cell 1
      have f1 := hk3.frozen 1
      have q2 : World.cell? wr ⟨(w.heap.size + 1), 2, none⟩ = some (.slice .none 0 0) := hk3.cell 2
      have f2 := hk3.frozen 2
      have fl := hk3.lt
      have p0 : World.cell? wr ⟨g, 0, none⟩ = some (.slice A1 l.length x1) := hF.blk.cell 0
      have pf0 := hF.blk.frozen 0
      have p1 : World.cell? wr ⟨g, 1, none⟩ = some (.slice A2 l.length x2) := hF.blk.cell 1
      have pf1 := hF.blk.frozen 1
      have p2 : World.cell? wr ⟨g, 2, none⟩ = some (.slice (some ⟨w2.heap.size, 0, none⟩) 1 1) := hF.blk.cell 2
      have pf2 := hF.blk.frozen 2
      have pfl := hF.blk.lt
      go_wp2_with fail
      refine (HMH.out _ (hx.keep hbw) hr).mono ?_
      rintro _ w5 ⟨S9, N9, G9, y1, y2, y3, rfl, r5, g5, hb5⟩
      have hB5 := bstep hbw hb5
      clear qa0 qa1 qa2 q0 q1 q2 fa0 fa1 fa2 f0 f1 f2 fal fl
      replace hk1 := hk1.keep hb5
      replace hk3 := hk3.keep hb5
      have qa0 : World.cell? w5 ⟨w.heap.size, 0, none⟩ = some (.slice S a.s.length c1) := hk1.cell 0
      have fa0 := hk1.frozen 0
      have qa1 : World.cell? w5 ⟨w.heap.size, 1, none⟩ = some (.slice N a.n.length c2) := hk1.cell 1
      have fa1 := hk1.frozen 1
      have qa2 : World.cell? w5 ⟨w.heap.size, 2, none⟩ = some (.slice G a.g.length c3) := hk1.cell 2
      have fa2 := hk1.frozen 2
      have fal := hk1.lt
      have q0 : World.cell? w5 ⟨(w.heap.size + 1), 0, none⟩ = some (.slice .none 0 0) := hk3.cell 0
      have f0 := hk3.frozen 0
      have q1 : World.cell? w5 ⟨(w.heap.size + 1), 1, none⟩ = some (.slice .none 0 0) := hk3.cell 1
      have f1 := hk3.frozen 1
      have q2 : World.cell? w5 ⟨(w.heap.size + 1), 2, none⟩ = some (.slice .none 0 0) := hk3.cell 2
      have f2 := hk3.frozen 2
      have fl := hk3.lt
      have z1 : w.heap.size + 2 ≤ wr.heap.size := by have := hb1.size; have := hb2.size; have := hb23.size; simp at *; omega
      clear HR
      generalize addAcc a l p m = R at *
      go_wp2
      refine bodyPost_ret (v := .tuple #[.agg #[.slice S9 R.1.s.length y1, .slice N9 R.1.n.length y2, .slice G9 R.1.g.length y3], .int .i64 R.2]) (by simp [results, Try.results14, go_sem, q0, q1, q2, f0, f1, f2, fl]) rfl (RetA.all rfl ?_ (g5.mono (by omega)) (by (repeat (first | with_reducible exact Below.refl _ _ | assumption | with_reducible refine below_drewN ?_ _ | with_reducible refine Below.drew ?_ | with_reducible refine balloc ?_ _ | (with_reducible refine Below.setCell ?_ ?_ _; rotate_left; focus (first | (simp; done) | (simp; omega) | omega))))))
      have g5' := g5.mono z1
      repeat (first | exact r5 | (refine RA.far ?_ g5' (by first | (simp; done) | (simp; omega) | omega) _) | (refine RA.keep ?_ (balloc (Below.refl _ _) _)))
theorem accAdd_any (S N G L : Option Addr) (c1 c2 c3 c4 : Nat) (a : Acc) (l : List (Int × Int)) (p m : Int) (w : World) (hx : RA w S N G a) (hL : RL w L l) (l1 : a.s.length ≤ 140737488355328) (l2 : a.n.length ≤ 140737488355328) (l3 : a.g.length ≤ 140737488355328) (l4 : l.length ≤ 140737488355328) (hp : -9223372036854775808 ≤ p ∧ p ≤ 9223372036854775807) (hm : -9223372036854775808 ≤ m ∧ m ≤ 9223372036854775807) :
    Calls Try.prog 14 #[.agg #[.slice S a.s.length c1, .slice N a.n.length c2, .slice G a.g.length c3], .slice L l.length c4, .int .i64 p, .int .i64 m] w (RetA w (addAcc a l p m)) := by
  by_cases h : accErr a = 0 ∧ lagErr l = 0 ∧ addArg a l p m = false
  · exact accAdd_yes S N G L c1 c2 c3 c4 a l p m w hx hL h.1 h.2.1 h.2.2
  · exact accAdd_no S N G L c1 c2 c3 c4 a l p m w hx hL l1 l2 l3 l4 hp hm h
end Go.Proofs.Ytjhigfhgchpjcaa
