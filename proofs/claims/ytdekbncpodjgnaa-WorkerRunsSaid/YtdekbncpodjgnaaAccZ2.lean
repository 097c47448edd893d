/-
  Contract of the reference's Merge, where nothing is wrong with its arguments.
-/
import Derived.Test.YtdekbncpodjgnaaAccZ
namespace Go.Proofs.Ytdekbncpodjgnaa
open Go.RowKit Runs Lagc Reg
set_option linter.unusedVariables false
set_option linter.unusedSimpArgs false

set_option maxRecDepth 30000 in
set_option maxHeartbeats 8000000 in
theorem refMerge_yes (S N G S' N' G' : Option Addr) (c1 c2 c3 d1 d2 d3 : Nat) (a b : Acc) (w : World) (hx : RA w S N G a) (hy : RA w S' N' G' b) (fa : Fine a) (fb : Fine b) (hl : a.s.length = b.s.length) :
    Calls Try.prog 72 #[.agg #[.slice S a.s.length c1, .slice N a.n.length c2, .slice G a.g.length c3], .agg #[.slice S' b.s.length d1, .slice N' b.n.length d2, .slice G' b.g.length d3]] w (RetA w (mergeS a b)) := by
  rw [mergeS_fine fa fb hl]
  have hbX : Below w.heap.size w (((w.alloc (.cells #[.slice S a.s.length c1, .slice N a.n.length c2, .slice G a.g.length c3] 39)).alloc (.cells #[.slice S' b.s.length d1, .slice N' b.n.length d2, .slice G' b.g.length d3] 39)).alloc (.cells #[.slice .none 0 0, .slice .none 0 0, .slice .none 0 0] 39)) := balloc (balloc (balloc (Below.refl _ _) _) _) _
  have hk1 := ((Blk.new w 39 #[.slice S a.s.length c1, .slice N a.n.length c2, .slice G a.g.length c3]).alloc (.cells #[.slice S' b.s.length d1, .slice N' b.n.length d2, .slice G' b.g.length d3] 39)).alloc (.cells #[.slice .none 0 0, .slice .none 0 0, .slice .none 0 0] 39)
  have hk2 := (Blk.newAt (w := w.alloc (.cells #[.slice S a.s.length c1, .slice N a.n.length c2, .slice G a.g.length c3] 39)) (g := w.heap.size + 1) 39 #[.slice S' b.s.length d1, .slice N' b.n.length d2, .slice G' b.g.length d3] (by simp)).alloc (.cells #[.slice .none 0 0, .slice .none 0 0, .slice .none 0 0] 39)
  have hk3 := Blk.newAt (w := (w.alloc (.cells #[.slice S a.s.length c1, .slice N a.n.length c2, .slice G a.g.length c3] 39)).alloc (.cells #[.slice S' b.s.length d1, .slice N' b.n.length d2, .slice G' b.g.length d3] 39)) (g := w.heap.size + 2) 39 #[.slice .none 0 0, .slice .none 0 0, .slice .none 0 0] (by simp)
  have l1 := fa.ls
  have l2 : a.n.length ≤ 511 := by rw [fa.ln]; exact fa.ls
  have l3 := fa.lg
  have l4 := fb.ls
  have l5 : b.n.length ≤ 511 := by rw [fb.ln]; exact fb.ls
  have l6 := fb.lg
  have HCA := fun w hx => refCheck_any S N G c1 c2 c3 a w hx (by omega) (by omega) (by omega) (fine_rg2 fa)
  have HCB := fun w hx => refCheck_any S' N' G' d1 d2 d3 b w hx (by omega) (by omega) (by omega) (fine_rg2 fb)
  rw [acc_fine.2 fa] at HCA
  rw [acc_fine.2 fb] at HCB
  have e1 : ((a.s.length : Int) != b.s.length) = false := by rw [bne_eq_false_iff_eq]; omega
  have HFA := Lib.hid fa
  have HFB := Lib.hid fb
  have HL := Lib.hid hl
  have hlsb : a.s.length ≤ b.s.length := by omega
  have hlsn : a.s.length ≤ a.n.length := by rw [fa.ln]; exact Nat.le_refl _
  have hlsnb : a.s.length ≤ b.n.length := by rw [fb.ln]; omega
  obtain ⟨i0, hi0, hz0, hz1, hz2⟩ := info_parts info_count
  obtain ⟨i1, hi1, hy0, hy1, hy2⟩ := info_parts info_gap
  clear fa fb hl
  go_enter Try.func72, Try.ntmps72
  go_wp2_with fail
  refine (HCA _ (hx.keep hbX)).mono ?_
  rintro _ w1 ⟨rfl, hb1⟩
  have hB1 := bstep hbX hb1
  replace hk1 := hk1.keep hb1
  replace hk2 := hk2.keep hb1
  replace hk3 := hk3.keep hb1
  have qa0 : World.cell? w1 ⟨w.heap.size, 0, none⟩ = some (.slice S a.s.length c1) := hk1.cell 0
  have fa0 := hk1.frozen 0
  have qa1 : World.cell? w1 ⟨w.heap.size, 1, none⟩ = some (.slice N a.n.length c2) := hk1.cell 1
  have fa1 := hk1.frozen 1
  have qa2 : World.cell? w1 ⟨w.heap.size, 2, none⟩ = some (.slice G a.g.length c3) := hk1.cell 2
  have fa2 := hk1.frozen 2
  have fal := hk1.lt
  have qb0 : World.cell? w1 ⟨(w.heap.size + 1), 0, none⟩ = some (.slice S' b.s.length d1) := hk2.cell 0
  have fb0 := hk2.frozen 0
  have qb1 : World.cell? w1 ⟨(w.heap.size + 1), 1, none⟩ = some (.slice N' b.n.length d2) := hk2.cell 1
  have fb1 := hk2.frozen 1
  have qb2 : World.cell? w1 ⟨(w.heap.size + 1), 2, none⟩ = some (.slice G' b.g.length d3) := hk2.cell 2
  have fb2 := hk2.frozen 2
  have fbl := hk2.lt
  have q0 : World.cell? w1 ⟨(w.heap.size + 2), 0, none⟩ = some (.slice .none 0 0) := hk3.cell 0
  have f0 := hk3.frozen 0
  have q1 : World.cell? w1 ⟨(w.heap.size + 2), 1, none⟩ = some (.slice .none 0 0) := hk3.cell 1
  have f1 := hk3.frozen 1
  have q2 : World.cell? w1 ⟨(w.heap.size + 2), 2, none⟩ = some (.slice .none 0 0) := hk3.cell 2
  have f2 := hk3.frozen 2
  have fl := hk3.lt
  go_wp2_with fail
  refine (HCB _ (hy.keep hB1)).mono ?_
  rintro _ w2 ⟨rfl, hb2⟩
  have hB2 := bstep hB1 hb2
  clear qa0 qa1 qa2 qb0 qb1 qb2 q0 q1 q2 fa0 fa1 fa2 fb0 fb1 fb2 f0 f1 f2 fal fbl fl
  replace hk1 := hk1.keep hb2
  replace hk2 := hk2.keep hb2
  replace hk3 := hk3.keep hb2
  have qa0 : World.cell? w2 ⟨w.heap.size, 0, none⟩ = some (.slice S a.s.length c1) := hk1.cell 0
  have fa0 := hk1.frozen 0
  have qa1 : World.cell? w2 ⟨w.heap.size, 1, none⟩ = some (.slice N a.n.length c2) := hk1.cell 1
  have fa1 := hk1.frozen 1
  have qa2 : World.cell? w2 ⟨w.heap.size, 2, none⟩ = some (.slice G a.g.length c3) := hk1.cell 2
  have fa2 := hk1.frozen 2
  have fal := hk1.lt
  have qb0 : World.cell? w2 ⟨(w.heap.size + 1), 0, none⟩ = some (.slice S' b.s.length d1) := hk2.cell 0
  have fb0 := hk2.frozen 0
  have qb1 : World.cell? w2 ⟨(w.heap.size + 1), 1, none⟩ = some (.slice N' b.n.length d2) := hk2.cell 1
  have fb1 := hk2.frozen 1
  have qb2 : World.cell? w2 ⟨(w.heap.size + 1), 2, none⟩ = some (.slice G' b.g.length d3) := hk2.cell 2
  have fb2 := hk2.frozen 2
  have fbl := hk2.lt
  have q0 : World.cell? w2 ⟨(w.heap.size + 2), 0, none⟩ = some (.slice .none 0 0) := hk3.cell 0
  have f0 := hk3.frozen 0
  have q1 : World.cell? w2 ⟨(w.heap.size + 2), 1, none⟩ = some (.slice .none 0 0) := hk3.cell 1
  have f1 := hk3.frozen 1
  have q2 : World.cell? w2 ⟨(w.heap.size + 2), 2, none⟩ = some (.slice .none 0 0) := hk3.cell 2
  have f2 := hk3.frozen 2
  have fl := hk3.lt
  have hzw : w.heap.size + 3 ≤ w2.heap.size := by have := hb1.size; have := hb2.size; simp at *; omega
  go_wp2_with (at_builtin; refine wpList_clone_RL _ rfl (.tmp 35) (.tmp 37) 37 rfl 99 16 Try.underlying37 hi1 hy0 hy1 hy2 rfl w2.heap.size w2.heap.size rfl (Nat.le_refl _) (by simp) G c3 a.g rfl (hx.g.keep (balloc hB2 _)) (by unfold maxLen; omega) (by omega) ?_; intro A6 c6 w3 r6 f6 hb3')
  have hb3 : Below w2.heap.size w2 w3 := bstep (balloc (Below.refl _ _) _) hb3'
  have hB3 := bstep hB2 hb3
  have hz3 := hb3.size
  obtain ⟨gB, hgB⟩ : ∃ gB, gB = w3.heap.size := ⟨_, rfl⟩
  rw [← hgB]
  have HGB := Lib.hid hgB
  have hgl : w.heap.size + 3 ≤ gB := by omega
  have hS0 : SpanR w w3 (w3.alloc (.cells #[.slice .none 0 0, .slice .none 0 0, .slice A6 a.g.length c6] 39)) gB A6 c6 a.g := ⟨Blk.newAt _ _ hgB.symm, r6.keep (balloc (Below.refl _ _) _), r6.new_off (by omega), f6.off (by omega), f6.mono (by omega), by rw [hgB]; exact balloc (Below.refl _ _) _⟩
  clear hgB
  clear qa0 qa1 qa2 qb0 qb1 qb2 q0 q1 q2 fa0 fa1 fa2 fb0 fb1 fb2 f0 f1 f2 fal fbl fl
  go_loopg [7, 8, 9] b.g.length (fun gk i _ _ wr => ∃ k : Nat, ∃ A : Option Addr, ∃ c : Nat, ∃ l : List (Int × Int), k + gk = b.g.length ∧ i = .int .i64 k ∧ SpanR w w3 wr gB A c l ∧ Hid (Runs.Good a.g (b.g.take k) l))
  case atStart => exact ⟨0, A6, c6, a.g, by omega, rfl, hS0, Lib.hid (by simpa using good_nil HFA.out.rn)⟩
  case round =>
    obtain ⟨k, A, c, l, hk, rfl, hS, HG⟩ := hrel
    have hk' : k ≤ b.g.length := by omega
    have HK := Lib.hid hk
    clear hk
    have hbw : Below w.heap.size w wr := hB3.trans (hS.bel.mono (by omega))
    have hb2r : Below w2.heap.size w2 wr := hb3.trans (hS.bel.mono (by have := HGB.out; omega))
    have hll : l.length ≤ 200 := by have := HG.out.len; rw [List.length_take] at this; omega
    have hBb := hk2.keep hb2r
    have qb0 : World.cell? wr ⟨(w.heap.size + 1), 0, none⟩ = some (.slice S' b.s.length d1) := hBb.cell 0
    have fb0 := hBb.frozen 0
    have qb1 : World.cell? wr ⟨(w.heap.size + 1), 1, none⟩ = some (.slice N' b.n.length d2) := hBb.cell 1
    have fb1 := hBb.frozen 1
    have qb2 : World.cell? wr ⟨(w.heap.size + 1), 2, none⟩ = some (.slice G' b.g.length d3) := hBb.cell 2
    have fb2 := hBb.frozen 2
    have fbl := hBb.lt
    have hgw := hS.blk.lt
    by_cases hlt : k < b.g.length
    · obtain ⟨b1, off1, rfl, hl1, hc1, hd1⟩ := (hy.g.keep hbw).at_ hlt
      rw [getD_lt _ _ hlt] at hc1 hd1
      have hxo := HFB.out.rn.1 _ (List.getElem_mem hlt)
      have HTG := fun w hr => together_any A c l b.g[k] w hr hll HG.out.rn hxo
      have HNX := Lib.hid (fun h => good_next HG.out HFB.out.rn hlt h)
      have HNO := Lib.hid (fun h => meet_false HG.out HFB.out.rn hlt h)
      have HTS := Lib.hid (show togS l b.g[k] = if (uni l [b.g[k]]).2 then ((uni l [b.g[k]]).1, 0) else ([], 14) from rfl)
      generalize b.g[k] = x at *
      have HH : Hid (∀ W, Below wr.heap.size wr W → W.cell? ⟨gB, 2, none⟩ = some (.slice A l.length c) ∧ W.cell? ⟨w.heap.size + 1, 2, none⟩ = some (.slice (some ⟨b1, off1, none⟩) b.g.length d3) ∧ (W.cell? ⟨b1, off1 + k * 2, none⟩ = some (.int .i64 x.1) ∧ W.cell? ⟨b1, off1 + k * 2 + 1, none⟩ = some (.int .i64 x.2))) := Lib.hid (fun W hW => ⟨(hS.blk.keep hW).cell 2, (hBb.keep hW).cell 2, (hW.cell (p := ⟨b1, _, none⟩) hl1).trans hc1, (hW.cell (p := ⟨b1, _, none⟩) hl1).trans hd1⟩)
      have kI : (k : Int) < (b.g.length : Int) := by omega
      have hrd : RL wr.drew A l := hS.rl
      have HTG2 := HTG wr.drew hrd
      go_wp2
      go_region_held3 (fun W => W.cell? ⟨gB, 2, none⟩ = some (.slice A l.length c) ∧ W.cell? ⟨w.heap.size + 1, 2, none⟩ = some (.slice (some ⟨b1, off1, none⟩) b.g.length d3) ∧ (W.cell? ⟨b1, off1 + k * 2, none⟩ = some (.int .i64 x.1) ∧ W.cell? ⟨b1, off1 + k * 2 + 1, none⟩ = some (.int .i64 x.2)))
        (first | exact HH.out _ (Below.refl _ _) | exact HH.out _ (Below.drew (Below.refl _ _)) | exact HH.out _ hb9 | fail)
        ((first
          | (go_at_call 85; (with_reducible refine HTG2.mono ?_); rintro e w9 ⟨A9, c9, rfl, ho9, hb9'⟩; have hb9 : Below wr.heap.size wr w9 := bstep (Below.drew (Below.refl _ _)) hb9')
          | fail))
      clear HH hc1 hd1
      have hS9b := hS.blk.keep hb9
      have hbw9 := bstep hbw hb9
      have hR9 := (hk3.keep hb2r).keep hb9
      have q0 : World.cell? w9 ⟨(w.heap.size + 2), 0, none⟩ = some (.slice .none 0 0) := hR9.cell 0
      have f0 := hR9.frozen 0
      have q1 : World.cell? w9 ⟨(w.heap.size + 2), 1, none⟩ = some (.slice .none 0 0) := hR9.cell 1
      have f1 := hR9.frozen 1
      have q2 : World.cell? w9 ⟨(w.heap.size + 2), 2, none⟩ = some (.slice .none 0 0) := hR9.cell 2
      have f2 := hR9.frozen 2
      have fl := hR9.lt
      have p0 : World.cell? w9 ⟨gB, 0, none⟩ = some (.slice .none 0 0) := hS9b.cell 0
      have pf0 := hS9b.frozen 0
      have p1 : World.cell? w9 ⟨gB, 1, none⟩ = some (.slice .none 0 0) := hS9b.cell 1
      have pf1 := hS9b.frozen 1
      have p2 : World.cell? w9 ⟨gB, 2, none⟩ = some (.slice A l.length c) := hS9b.cell 2
      have pf2 := hS9b.frozen 2
      have pfl := hS9b.lt
      by_cases hu : (uni l [x]).2 = true
      · have eT : togS l x = ((uni l [x]).1, 0) := by rw [HTS.out, hu]; rfl
        have HG2 := Lib.hid (HNX.out hu)
        rw [eT] at ho9 ⊢
        have hr9 := own_RL ho9
        have hf9 : Fresh wr.heap.size A9 := own_fresh ho9
        clear hu eT
        generalize (uni l [x]).1 = l' at *
        simp only at ho9 hr9 hf9 ⊢
        have hoff := hf9.off (g := gB) hgw
        go_wp2
        go_roundg (gk - 1)
        case rel => exact ⟨k + 1, A9, c9, l', by have := HK.out; omega, by go_num, ⟨hS9b.put 2 _, hr9.off (fun _ => hoff) 2 _, fun _ => hoff, hf9.off (by omega), hf9.mono (by omega), (hS.bel.trans (hb9.mono (by omega))).setCell (p := ⟨gB, 2, none⟩) (Nat.le_refl _) _⟩, HG2⟩
        case measure => have := HK.out; omega
      · have hu' : (uni l [x]).2 = false := by simpa using hu
        have eT : togS l x = ([], 14) := by rw [HTS.out, hu']; rfl
        have HR := Lib.hid (mrg_e14 (HNO.out hu'))
        rw [eT]
        clear hu hu' eT
        simp only
        go_wp2
        exact bodyPost_ret (v := .tuple #[.agg #[.slice .none 0 0, .slice .none 0 0, .slice .none 0 0], .int .i64 14]) (by simp [results, Try.results72, go_sem, q0, q1, q2, f0, f1, f2, fl]) rfl (RetA.no HR.out (by (repeat (first | with_reducible exact Below.refl _ _ | assumption | with_reducible refine below_drewN ?_ _ | with_reducible refine Below.drew ?_ | with_reducible refine balloc ?_ _ | (with_reducible refine Below.setCell ?_ ?_ _; rotate_left; focus (first | (simp; done) | (simp; omega) | omega))))))
    · obtain rfl : k = b.g.length := by omega
      have hgd := HG.out
      rw [List.take_length] at hgd
      have HU := Lib.hid (uni_yes hgd)
      clear hgd
      obtain ⟨wo, rfl⟩ : ∃ wo, wo = wr := ⟨_, rfl⟩
      obtain ⟨BB, hBB⟩ : ∃ BB, BB = wo.heap.size := ⟨_, rfl⟩
      have hBg : gB < BB := by omega
      have HBB := Lib.hid hBB
      have hF0 : FillG wo gB BB (.slice A l.length c) (addF a.s b.s) (addF a.n b.n) (.slice .none 0 0) (.slice .none 0 0) 0 0 := ⟨hS.blk, World.ownsRow_nil _ _ _ _, World.ownsRow_nil _ _ _ _, (by intro h h2; cases h2), hBg⟩
      have hAoff : 0 < l.length → ∀ x : Addr, A = some x → x.block < BB ∧ x.block ≠ gB := by
        intro h0 x hx'
        obtain ⟨b9, off9, e9, hlt9, _⟩ := hS.rl h0
        rw [hx'] at e9
        cases e9
        exact ⟨by simp only; omega, hS.o1 h0 _ hx'⟩
      have HAO := Lib.hid hAoff
      have hBa := hk1.keep hb2r
      have qa0 : World.cell? wo ⟨w.heap.size, 0, none⟩ = some (.slice S a.s.length c1) := hBa.cell 0
      have fa0 := hBa.frozen 0
      have qa1 : World.cell? wo ⟨w.heap.size, 1, none⟩ = some (.slice N a.n.length c2) := hBa.cell 1
      have fa1 := hBa.frozen 1
      have qa2 : World.cell? wo ⟨w.heap.size, 2, none⟩ = some (.slice G a.g.length c3) := hBa.cell 2
      have fa2 := hBa.frozen 2
      have fal := hBa.lt
      clear hBB hAoff
      go_wp2
      clear qa0 qa1 qa2 fa0 fa1 fa2 fal qb0 qb1 qb2 fb0 fb1 fb2 fbl
      go_loopg [10, 11, 12, 13, 14] a.s.length (fun gk i _ _ _ _ wr => ∃ k : Nat, ∃ vS vN : Value, k + gk = a.s.length ∧ i = .int .i64 k ∧ FillG wr gB BB (.slice A l.length c) (addF a.s b.s) (addF a.n b.n) vS vN k k ∧ Kept BB gB wo wr ∧ Hid (∀ j, j < k → inR (addF a.s b.s j) = true) ∧ Hid (∀ j, j < k → inR (addF a.n b.n j) = true))
      case atStart => exact ⟨0, _, _, by omega, rfl, hF0, Kept.refl _ _ _, Lib.hid (by intro j hj; omega), Lib.hid (by intro j hj; omega)⟩
      case round =>
        obtain ⟨k, vS, vN, hk, rfl, hF, hKp, hRS, hRN⟩ := hrel
        have hk' : k ≤ a.s.length := by omega
        have HK := Lib.hid hk
        clear hk
        have hb2k : Below w2.heap.size w2 wr := hb2r.trans (hKp.below (by have := HGB.out; omega) (by have := HGB.out; omega))
        have hbk : Below w.heap.size w wr := hB2.trans (hb2k.mono (by omega))
        have hBa := hk1.keep hb2k
        have hBb := hk2.keep hb2k
        have hBr := hk3.keep hb2k
        have hgk := hF.blk.lt
        by_cases hlt : k < a.s.length
        · have hlt2 : k < b.s.length := by omega
          have hlt3 : k < a.n.length := by omega
          have hlt4 : k < b.n.length := by omega
          obtain ⟨b1, off1, rfl, hl1, hc1, hd1⟩ := hx.s.at_ hlt
          obtain ⟨b2, off2, rfl, hl2, hc2, hd2⟩ := hy.s.at_ hlt2
          obtain ⟨b3, off3, rfl, hl3, hc3, hd3⟩ := hx.n.at_ hlt3
          obtain ⟨b4, off4, rfl, hl4, hc4, hd4⟩ := hy.n.at_ hlt4
          have ok1 := fine_okS HFA.out _ (getD_mem (d := (0, 0)) hlt)
          have ok2 := fine_okS HFB.out _ (getD_mem (d := (0, 0)) hlt2)
          have ok3 := fine_okN HFA.out _ (getD_mem (d := (0, 0)) hlt3)
          have ok4 := fine_okN HFB.out _ (getD_mem (d := (0, 0)) hlt4)
          have HXS := Lib.hid (show addF a.s b.s k = cnt (val (a.s.getD k (0, 0)) + val (b.s.getD k (0, 0))) from rfl)
          have HXN := Lib.hid (show addF a.n b.n k = cnt (val (a.n.getD k (0, 0)) + val (b.n.getD k (0, 0))) from rfl)
          generalize a.s.getD k (0, 0) = p1 at *
          generalize b.s.getD k (0, 0) = p2 at *
          generalize a.n.getD k (0, 0) = p3 at *
          generalize b.n.getD k (0, 0) = p4 at *
          have v1 := val_bd2 ok1
          have v2 := val_bd2 ok2
          have v3 := val_bd2 ok3
          have v4 := val_bd2 ok4
          obtain ⟨V, hV⟩ : ∃ V, V = val p1 + val p2 := ⟨_, rfl⟩
          obtain ⟨U, hU⟩ : ∃ U, U = val p3 + val p4 := ⟨_, rfl⟩
          have hwV : IntKind.i64.wrap (val p1 + val p2) = V := by rw [IntWalk.i64_in _ (by omega), hV]
          have hwU : IntKind.i64.wrap (val p3 + val p4) = U := by rw [IntWalk.i64_in _ (by omega), hU]
          have hbV : -2000000000000000000 ≤ V ∧ V ≤ 2000000000000000000 := by omega
          have hbU : -2000000000000000000 ≤ U ∧ U ≤ 2000000000000000000 := by omega
          rw [← hV] at HXS
          rw [← hU] at HXN
          clear hV hU v1 v2 v3 v4
          have kI1 : (k : Int) < (a.s.length : Int) := by omega
          have kI2 : (k : Int) < (b.s.length : Int) := by omega
          have kI3 : (k : Int) < (a.n.length : Int) := by omega
          have kI4 : (k : Int) < (b.n.length : Int) := by omega
          have qa0 : World.cell? wr ⟨w.heap.size, 0, none⟩ = some (.slice (some ⟨b1, off1, none⟩) a.s.length c1) := hBa.cell 0
          have fa0 := hBa.frozen 0
          have qa1 : World.cell? wr ⟨w.heap.size, 1, none⟩ = some (.slice (some ⟨b3, off3, none⟩) a.n.length c2) := hBa.cell 1
          have fa1 := hBa.frozen 1
          have qa2 : World.cell? wr ⟨w.heap.size, 2, none⟩ = some (.slice G a.g.length c3) := hBa.cell 2
          have fa2 := hBa.frozen 2
          have fal := hBa.lt
          go_upto_region 18 with (fail)
          clear qa0 qa1 qa2 fa0 fa1 fa2 fal
          go_cut [11, 12] (fun s11 s12 wc => ∃ gx : Nat, s11 = .pointer (some ⟨gx, 0, none⟩) ∧ s12 = .bool (validB (cnt V)) ∧ Blk wc gx 97 #[.int .i64 (cnt V).1, .int .i64 (cnt V).2] ∧ Below wr.heap.size wr wc ∧ wr.heap.size ≤ gx)
          case first =>
            have HH : Hid (∀ W, Below wr.heap.size wr W → (W.cell? ⟨w.heap.size, 0, none⟩ = some (.slice (some ⟨b1, off1, none⟩) a.s.length c1) ∧ W.cell? ⟨w.heap.size + 1, 0, none⟩ = some (.slice (some ⟨b2, off2, none⟩) b.s.length d1)) ∧ (W.cell? ⟨b1, off1 + k * 2, none⟩ = some (.int .i64 (p1).1) ∧ W.cell? ⟨b1, off1 + k * 2 + 1, none⟩ = some (.int .i64 (p1).2)) ∧ (W.cell? ⟨b2, off2 + k * 2, none⟩ = some (.int .i64 (p2).1) ∧ W.cell? ⟨b2, off2 + k * 2 + 1, none⟩ = some (.int .i64 (p2).2))) := Lib.hid (fun W hW => by
              have hBW := bstep hbk hW
              have h1 := hBa.keep hW
              have h2 := hBb.keep hW
              exact ⟨⟨h1.cell 0, h2.cell 0⟩, ⟨(hBW.cell (p := ⟨b1, _, none⟩) hl1).trans hc1, (hBW.cell (p := ⟨b1, _, none⟩) hl1).trans hd1⟩, (hBW.cell (p := ⟨b2, _, none⟩) hl2).trans hc2, (hBW.cell (p := ⟨b2, _, none⟩) hl2).trans hd2⟩)
            go_region_held3 (fun W => (W.cell? ⟨w.heap.size, 0, none⟩ = some (.slice (some ⟨b1, off1, none⟩) a.s.length c1) ∧ W.cell? ⟨w.heap.size + 1, 0, none⟩ = some (.slice (some ⟨b2, off2, none⟩) b.s.length d1)) ∧ (W.cell? ⟨b1, off1 + k * 2, none⟩ = some (.int .i64 (p1).1) ∧ W.cell? ⟨b1, off1 + k * 2 + 1, none⟩ = some (.int .i64 (p1).2)) ∧ (W.cell? ⟨b2, off2 + k * 2, none⟩ = some (.int .i64 (p2).1) ∧ W.cell? ⟨b2, off2 + k * 2 + 1, none⟩ = some (.int .i64 (p2).2)))
              (first | exact HH.out _ (Below.refl _ _) | exact HH.out _ (Below.drew (Below.refl _ _)) | exact HH.out _ (balloc (Below.refl _ _) _) | exact HH.out _ (Below.drew (balloc (Below.refl _ _) _)) | exact HH.out _ hb9 | exact HH.out _ (balloc hb9 _) | exact HH.out _ hb8 | exact HH.out _ (balloc hb8 _) | exact HH.out _ hb7 | exact HH.out _ (balloc hb7 _) | exact HH.out _ (by (repeat (first | with_reducible exact Below.refl _ _ | assumption | with_reducible refine below_drewN ?_ _ | with_reducible refine Below.drew ?_ | with_reducible refine balloc ?_ _ | (with_reducible refine Below.setCell ?_ ?_ _; rotate_left; focus (first | (simp; done) | (simp; omega) | omega))))) | fail)
              ((first
                | (go_at_call 54; (with_reducible refine (worth_any p1 wr.drew ok1).mono ?_); rintro e w9 ⟨rfl, hb9'⟩; have hb9 : Below wr.heap.size wr w9 := bstep (Below.drew (Below.refl _ _)) hb9'; have hs9 := hb9.size)
                | (go_at_call 54; (with_reducible refine (worth_any p1 (World.alloc wr _).drew ok1).mono ?_); rintro e w9 ⟨rfl, hb9'⟩; have hb9 : Below wr.heap.size wr w9 := bstep (Below.drew (balloc (Below.refl _ _) _)) hb9'; have hs9 := hb9.size; have hZ : Blk w9 wr.heap.size 97 #[.int .i64 0, .int .i64 0] := ((Blk.new wr _ _).drew).keep hb9')
                | (go_at_call 54; (with_reducible refine (worth_any p2 w9 ok2).mono ?_); rintro e w8 ⟨rfl, hb8'⟩; have hb8 : Below wr.heap.size wr w8 := bstep hb9 hb8'; have hs8 := hb8.size; try (replace hZ := hZ.keep hb8'))
                | (go_at_call 54; (with_reducible refine (worth_any p2 (World.alloc w9 _) ok2).mono ?_); rintro e w8 ⟨rfl, hb8'⟩; have hb8 : Below wr.heap.size wr w8 := bstep (balloc hb9 _) hb8'; have hs8 := hb8.size; have hZ : Blk w8 w9.heap.size 97 #[.int .i64 0, .int .i64 0] := (Blk.new w9 _ _).keep hb8')
                | (go_at_call 71; (with_reducible refine (counted_any V w8 hbV).mono ?_); rintro e w7 ⟨rfl, hb7'⟩; have hb7 : Below wr.heap.size wr w7 := bstep hb8 hb7'; have hs7 := hb7.size; try (replace hZ := hZ.keep hb7'; have z0 : World.cell? w7 ⟨_, 0, none⟩ = some (.int .i64 0) := hZ.cell 0; have z1 : World.cell? w7 ⟨_, 1, none⟩ = some (.int .i64 0) := hZ.cell 1; have zf0 := hZ.frozen 0; have zf1 := hZ.frozen 1; have zl := hZ.lt))
                | (go_at_call 71; (with_reducible refine (counted_any V (World.alloc w8 _) hbV).mono ?_); rintro e w7 ⟨rfl, hb7'⟩; have hb7 : Below wr.heap.size wr w7 := bstep (balloc hb8 _) hb7'; have hs7 := hb7.size; have hZ : Blk w7 w8.heap.size 97 #[.int .i64 0, .int .i64 0] := (Blk.new w8 _ _).keep hb7'; have z0 : World.cell? w7 ⟨_, 0, none⟩ = some (.int .i64 0) := hZ.cell 0; have z1 : World.cell? w7 ⟨_, 1, none⟩ = some (.int .i64 0) := hZ.cell 1; have zf0 := hZ.frozen 0; have zf1 := hZ.frozen 1; have zl := hZ.lt)
                | fail))
            all_goals
              go_wp2_with fail
              go_meet
              first
                | exact ⟨w7.heap.size, rfl, rfl, Blk.new _ _ _, balloc hb7 _, hs7⟩
                | exact ⟨_, rfl, rfl, (hZ.put 0 _).put 1 _, by (repeat (first | with_reducible exact Below.refl _ _ | assumption | with_reducible refine below_drewN ?_ _ | with_reducible refine Below.drew ?_ | with_reducible refine balloc ?_ _ | (with_reducible refine Below.setCell ?_ ?_ _; rotate_left; focus (first | (simp; done) | (simp; omega) | omega)))), by omega⟩
          case rest =>
            obtain ⟨gx, rfl, rfl, hX, hbc, hgx⟩ := hcut
            obtain ⟨wx, rfl⟩ : ∃ wx, wx = wc := ⟨_, rfl⟩
            have hBa2 := hBa.keep hbc
            have hBb2 := hBb.keep hbc
            have hbk2 := bstep hbk hbc
            go_upto_region 19 with (fail)
            go_cut [13, 14] (fun s13 s14 wc => ∃ gy : Nat, s13 = .pointer (some ⟨gy, 0, none⟩) ∧ s14 = .bool (validB (cnt U)) ∧ Blk wc gy 97 #[.int .i64 (cnt U).1, .int .i64 (cnt U).2] ∧ Below wx.heap.size wx wc ∧ wx.heap.size ≤ gy)
            case first =>
              have HH : Hid (∀ W, Below wx.heap.size wx W → (W.cell? ⟨w.heap.size, 1, none⟩ = some (.slice (some ⟨b3, off3, none⟩) a.n.length c2) ∧ W.cell? ⟨w.heap.size + 1, 1, none⟩ = some (.slice (some ⟨b4, off4, none⟩) b.n.length d2)) ∧ (W.cell? ⟨b3, off3 + k * 2, none⟩ = some (.int .i64 (p3).1) ∧ W.cell? ⟨b3, off3 + k * 2 + 1, none⟩ = some (.int .i64 (p3).2)) ∧ (W.cell? ⟨b4, off4 + k * 2, none⟩ = some (.int .i64 (p4).1) ∧ W.cell? ⟨b4, off4 + k * 2 + 1, none⟩ = some (.int .i64 (p4).2))) := Lib.hid (fun W hW => by
                have hBW := bstep hbk2 hW
                have h1 := hBa2.keep hW
                have h2 := hBb2.keep hW
                exact ⟨⟨h1.cell 1, h2.cell 1⟩, ⟨(hBW.cell (p := ⟨b3, _, none⟩) hl3).trans hc3, (hBW.cell (p := ⟨b3, _, none⟩) hl3).trans hd3⟩, (hBW.cell (p := ⟨b4, _, none⟩) hl4).trans hc4, (hBW.cell (p := ⟨b4, _, none⟩) hl4).trans hd4⟩)
              go_region_held3 (fun W => (W.cell? ⟨w.heap.size, 1, none⟩ = some (.slice (some ⟨b3, off3, none⟩) a.n.length c2) ∧ W.cell? ⟨w.heap.size + 1, 1, none⟩ = some (.slice (some ⟨b4, off4, none⟩) b.n.length d2)) ∧ (W.cell? ⟨b3, off3 + k * 2, none⟩ = some (.int .i64 (p3).1) ∧ W.cell? ⟨b3, off3 + k * 2 + 1, none⟩ = some (.int .i64 (p3).2)) ∧ (W.cell? ⟨b4, off4 + k * 2, none⟩ = some (.int .i64 (p4).1) ∧ W.cell? ⟨b4, off4 + k * 2 + 1, none⟩ = some (.int .i64 (p4).2)))
                (first | exact HH.out _ (Below.refl _ _) | exact HH.out _ (Below.drew (Below.refl _ _)) | exact HH.out _ (balloc (Below.refl _ _) _) | exact HH.out _ (Below.drew (balloc (Below.refl _ _) _)) | exact HH.out _ hb9 | exact HH.out _ (balloc hb9 _) | exact HH.out _ hb8 | exact HH.out _ (balloc hb8 _) | exact HH.out _ hb7 | exact HH.out _ (balloc hb7 _) | exact HH.out _ (by (repeat (first | with_reducible exact Below.refl _ _ | assumption | with_reducible refine below_drewN ?_ _ | with_reducible refine Below.drew ?_ | with_reducible refine balloc ?_ _ | (with_reducible refine Below.setCell ?_ ?_ _; rotate_left; focus (first | (simp; done) | (simp; omega) | omega))))) | fail)
                ((first
                  | (go_at_call 54; (with_reducible refine (worth_any p3 wx.drew ok3).mono ?_); rintro e w9 ⟨rfl, hb9'⟩; have hb9 : Below wx.heap.size wx w9 := bstep (Below.drew (Below.refl _ _)) hb9'; have hs9 := hb9.size)
                  | (go_at_call 54; (with_reducible refine (worth_any p3 (World.alloc wx _).drew ok3).mono ?_); rintro e w9 ⟨rfl, hb9'⟩; have hb9 : Below wx.heap.size wx w9 := bstep (Below.drew (balloc (Below.refl _ _) _)) hb9'; have hs9 := hb9.size; have hZ : Blk w9 wx.heap.size 97 #[.int .i64 0, .int .i64 0] := ((Blk.new wx _ _).drew).keep hb9')
                  | (go_at_call 54; (with_reducible refine (worth_any p4 w9 ok4).mono ?_); rintro e w8 ⟨rfl, hb8'⟩; have hb8 : Below wx.heap.size wx w8 := bstep hb9 hb8'; have hs8 := hb8.size; try (replace hZ := hZ.keep hb8'))
                  | (go_at_call 54; (with_reducible refine (worth_any p4 (World.alloc w9 _) ok4).mono ?_); rintro e w8 ⟨rfl, hb8'⟩; have hb8 : Below wx.heap.size wx w8 := bstep (balloc hb9 _) hb8'; have hs8 := hb8.size; have hZ : Blk w8 w9.heap.size 97 #[.int .i64 0, .int .i64 0] := (Blk.new w9 _ _).keep hb8')
                  | (go_at_call 71; (with_reducible refine (counted_any U w8 hbU).mono ?_); rintro e w7 ⟨rfl, hb7'⟩; have hb7 : Below wx.heap.size wx w7 := bstep hb8 hb7'; have hs7 := hb7.size; try (replace hZ := hZ.keep hb7'; have z0 : World.cell? w7 ⟨_, 0, none⟩ = some (.int .i64 0) := hZ.cell 0; have z1 : World.cell? w7 ⟨_, 1, none⟩ = some (.int .i64 0) := hZ.cell 1; have zf0 := hZ.frozen 0; have zf1 := hZ.frozen 1; have zl := hZ.lt))
                  | (go_at_call 71; (with_reducible refine (counted_any U (World.alloc w8 _) hbU).mono ?_); rintro e w7 ⟨rfl, hb7'⟩; have hb7 : Below wx.heap.size wx w7 := bstep (balloc hb8 _) hb7'; have hs7 := hb7.size; have hZ : Blk w7 w8.heap.size 97 #[.int .i64 0, .int .i64 0] := (Blk.new w8 _ _).keep hb7'; have z0 : World.cell? w7 ⟨_, 0, none⟩ = some (.int .i64 0) := hZ.cell 0; have z1 : World.cell? w7 ⟨_, 1, none⟩ = some (.int .i64 0) := hZ.cell 1; have zf0 := hZ.frozen 0; have zf1 := hZ.frozen 1; have zl := hZ.lt)
                  | fail))
              all_goals
                go_wp2_with fail
                go_meet
                first
                  | exact ⟨w7.heap.size, rfl, rfl, Blk.new _ _ _, balloc hb7 _, hs7⟩
                  | exact ⟨_, rfl, rfl, (hZ.put 0 _).put 1 _, by (repeat (first | with_reducible exact Below.refl _ _ | assumption | with_reducible refine below_drewN ?_ _ | with_reducible refine Below.drew ?_ | with_reducible refine balloc ?_ _ | (with_reducible refine Below.setCell ?_ ?_ _; rotate_left; focus (first | (simp; done) | (simp; omega) | omega)))), by omega⟩
            case rest =>
              obtain ⟨gy, rfl, rfl, hY, hbd, hgy⟩ := hcut
              have hbwd := bstep hbc hbd
              have hF2 := hF.keep hbwd
              have hX2 := hX.keep hbd
              have hBr2 := hBr.keep hbwd
              have hbk3 := bstep hbk2 hbd
              have hwsz : BB ≤ wr.heap.size := by have := hKp.size; have := HBB.out; omega
              have hKp2 : Kept BB gB wo wc := hKp.trans (Kept.of_below (hbwd.mono hwsz))
              have hxs : vS.ownBlock ≠ some gx ∧ vN.ownBlock ≠ some gx := ⟨own_old hF.s hgx, own_old hF.n hgx⟩
              have hys : vS.ownBlock ≠ some gy ∧ vN.ownBlock ≠ some gy := ⟨own_old hF.s (by have := hbc.size; omega), own_old hF.n (by have := hbc.size; omega)⟩
              have hBc : BB ≤ wc.heap.size := Nat.le_trans hwsz hbwd.size
              clear hc1 hd1 hc2 hd2 hc3 hd3 hc4 hd4 hBa hBb hBa2 hBb2
              rw [valid_inR, valid_inR]
              generalize cnt V = x at *
              generalize cnt U = y at *
              have q0 : World.cell? wc ⟨(w.heap.size + 2), 0, none⟩ = some (.slice .none 0 0) := hBr2.cell 0
              have f0 := hBr2.frozen 0
              have q1 : World.cell? wc ⟨(w.heap.size + 2), 1, none⟩ = some (.slice .none 0 0) := hBr2.cell 1
              have f1 := hBr2.frozen 1
              have q2 : World.cell? wc ⟨(w.heap.size + 2), 2, none⟩ = some (.slice .none 0 0) := hBr2.cell 2
              have f2 := hBr2.frozen 2
              have fl := hBr2.lt
              by_cases hvx : inR x = true
              · by_cases hvy : inR y = true
                · rw [hvx, hvy]
                  have HVX : Hid (inR (addF a.s b.s k) = true) := Lib.hid (by rw [HXS.out]; exact hvx)
                  have HVY : Hid (inR (addF a.n b.n k) = true) := Lib.hid (by rw [HXN.out]; exact hvy)
                  have hJ0 := TwoI.start (n := 14) hF2 hBc hX2 hY hxs hys (fun _ => undef)
                  clear hvx hvy q0 q1 q2 f0 f1 f2 fl
                  go_wp2
                  refine wp_region_val (by kernel_rfl) (by kernel_rfl) (by kernel_rfl) (TwoI ⟨wc, gB, BB, .slice A l.length c, vS, vN, k, addF a.s b.s, addF a.n b.n, gx, gy, x, y⟩) hJ0 ⟨?_, ?_, ?_, ?_, ?_, ?_, ?_, ?_, ?_, ?_, ?_, ?_, ?_, ?_, trivial⟩ ?_
                  · intro L val a wr hsz hJ hu hdep hE K hK
                    obtain ⟨rS, rN, c0, c1, kS, kN, h⟩ := hJ
                    have e1 : a.tmps[6]?.getD undef = .pointer (some ⟨gB, 0, none⟩) := ev_tmps (hE.old 6 (by rfl))
                    go_simp
                    exact hK _ _ (h.yield rfl (lt_of_un hu))
                  · intro L val a wr hsz hJ hu hdep hE K hK
                    obtain ⟨rS, rN, c0, c1, kS, kN, h⟩ := hJ
                    obtain ⟨e0, o0⟩ := hE.arg hdep 0 112 rfl rfl rfl
                    have e1 : a.tmps[112]?.getD undef = .pointer (some ⟨gB, 0, none⟩) := ev_tmps (e0.trans (h.pure 0 _ rfl o0))
                    have q0 : wr.cell? ⟨gB, 0, none⟩ = some vS := by
                      have hc : c0 = vS := (h.b11.resolve_right (fun h1 => on_not hu (h.cl.1 h1.1).1)).2
                      rw [← hc]
                      exact h.box.cell 0
                    have ql := h.box.lt
                    clear e0 o0
                    go_simp
                    exact hK _ _ (h.yield rfl (lt_of_un hu))
                  · intro L val a wr hsz hJ hu hdep hE K hK
                    obtain ⟨rS, rN, c0, c1, kS, kN, h⟩ := hJ
                    have e1 : a.tmps[11]?.getD undef = .pointer (some ⟨gx, 0, none⟩) := ev_tmps (hE.old 11 (by rfl))
                    have q0 := h.xb.cell 0
                    have q1 := h.xb.cell 1
                    have ql := h.xb.lt
                    simp only [List.getElem?_toArray, List.getElem?_cons_zero, List.getElem?_cons_succ] at q0 q1
                    go_simp
                    exact hK _ _ (h.yield rfl (lt_of_un hu))
                  · intro L val a wr hsz hJ hu hdep hE K hK
                    obtain ⟨rS, rN, c0, c1, kS, kN, h⟩ := hJ
                    obtain ⟨e0, o0⟩ := hE.arg hdep 2 114 rfl rfl rfl
                    have e1 : a.tmps[114]?.getD undef = .agg #[.int .i64 (x).1, .int .i64 (x).2] := ev_tmps (e0.trans (h.pure 2 _ rfl o0))
                    clear e0 o0
                    go_simp
                    exact hK _ _ (h.build3 (lt_of_un hu))
                  · intro L val a wr hsz hJ hu hdep hE K hK
                    obtain ⟨rS, rN, c0, c1, kS, kN, h⟩ := hJ
                    obtain ⟨e0, o0⟩ := hE.arg hdep 1 113 rfl rfl rfl
                    obtain ⟨e9, o9⟩ := hE.arg hdep 3 115 rfl rfl rfl
                    obtain ⟨hb, e8, hb8, _⟩ := h.t3 o9
                    have hst := ((h.s4.resolve_right (fun h1 => on_not hu h1.1)).2)
                    have e1 := (e0.trans (h.pure 1 _ rfl o0)).trans hst.1.symm
                    refine step_append_lies _ rfl (.tmp 113) (.tmp 115) 36 rfl BB 97 i0 _ 2 16 Try.underlying36 hi0 hz0 hz1 hz2 rfl (by omega) rS kS _ e1 h.s ⟨hb, 0, none⟩ 1 1 (encP (x)) (e9.trans e8) rfl (World.news_of_block (cs := (encP (x)).toArray) (t := 97) (fr := (0, 0)) hb8) (encP_one _) (by omega) (by have := hst.2; unfold maxLen; simp only at this; omega) (by have := hst.2; simp only at this; omega) h.hB.2 wr.heap.size rfl ?_
                    intro g4 c4 w4 hown hgr hat hlt
                    exact hK _ _ (h.app4 hu HXS.out hown hgr hat)
                  · intro L val a wr hsz hJ hu hdep hE K hK
                    obtain ⟨rS, rN, c0, c1, kS, kN, h⟩ := hJ
                    have e1 : a.tmps[6]?.getD undef = .pointer (some ⟨gB, 0, none⟩) := ev_tmps (hE.old 6 (by rfl))
                    go_simp
                    exact hK _ _ (h.yield rfl (lt_of_un hu))
                  · intro L val a wr hsz hJ hu hdep hE K hK
                    obtain ⟨rS, rN, c0, c1, kS, kN, h⟩ := hJ
                    obtain ⟨e0, o0⟩ := hE.arg hdep 5 117 rfl rfl rfl
                    have e1 : a.tmps[117]?.getD undef = .pointer (some ⟨gB, 1, none⟩) := ev_tmps (e0.trans (h.pure 5 _ rfl o0))
                    have q0 : wr.cell? ⟨gB, 1, none⟩ = some vN := by
                      have hc : c1 = vN := (h.b13.resolve_right (fun h1 => on_not hu (h.cl.2 h1.1).1)).2
                      rw [← hc]
                      exact h.box.cell 1
                    have ql := h.box.lt
                    clear e0 o0
                    go_simp
                    exact hK _ _ (h.yield rfl (lt_of_un hu))
                  · intro L val a wr hsz hJ hu hdep hE K hK
                    obtain ⟨rS, rN, c0, c1, kS, kN, h⟩ := hJ
                    have e1 : a.tmps[13]?.getD undef = .pointer (some ⟨gy, 0, none⟩) := ev_tmps (hE.old 13 (by rfl))
                    have q0 := h.yb.cell 0
                    have q1 := h.yb.cell 1
                    have ql := h.yb.lt
                    simp only [List.getElem?_toArray, List.getElem?_cons_zero, List.getElem?_cons_succ] at q0 q1
                    go_simp
                    exact hK _ _ (h.yield rfl (lt_of_un hu))
                  · intro L val a wr hsz hJ hu hdep hE K hK
                    obtain ⟨rS, rN, c0, c1, kS, kN, h⟩ := hJ
                    obtain ⟨e0, o0⟩ := hE.arg hdep 7 119 rfl rfl rfl
                    have e1 : a.tmps[119]?.getD undef = .agg #[.int .i64 (y).1, .int .i64 (y).2] := ev_tmps (e0.trans (h.pure 7 _ rfl o0))
                    clear e0 o0
                    go_simp
                    exact hK _ _ (h.build8 (lt_of_un hu))
                  · intro L val a wr hsz hJ hu hdep hE K hK
                    obtain ⟨rS, rN, c0, c1, kS, kN, h⟩ := hJ
                    obtain ⟨e0, o0⟩ := hE.arg hdep 6 118 rfl rfl rfl
                    obtain ⟨e9, o9⟩ := hE.arg hdep 8 120 rfl rfl rfl
                    obtain ⟨hb, e8, hb8, _⟩ := h.t8 o9
                    have hst := ((h.n9.resolve_right (fun h1 => on_not hu h1.1)).2)
                    have e1 := (e0.trans (h.pure 6 _ rfl o0)).trans hst.1.symm
                    refine step_append_lies _ rfl (.tmp 118) (.tmp 120) 36 rfl BB 97 i0 _ 2 16 Try.underlying36 hi0 hz0 hz1 hz2 rfl (by omega) rN kN _ e1 h.n ⟨hb, 0, none⟩ 1 1 (encP (y)) (e9.trans e8) rfl (World.news_of_block (cs := (encP (y)).toArray) (t := 97) (fr := (0, 0)) hb8) (encP_one _) (by omega) (by have := hst.2; unfold maxLen; simp only at this; omega) (by have := hst.2; simp only at this; omega) h.hB.2 wr.heap.size rfl ?_
                    intro g4 c4 w4 hown hgr hat hlt
                    exact hK _ _ (h.app9 hu HXN.out hown hgr hat)
                  · intro L val a wr hsz hJ hu hdep hE K hK
                    obtain ⟨rS, rN, c0, c1, kS, kN, h⟩ := hJ
                    have e1 : a.tmps[6]?.getD undef = .pointer (some ⟨gB, 0, none⟩) := ev_tmps (hE.old 6 (by rfl))
                    go_simp
                    exact hK _ _ (h.yield rfl (lt_of_un hu))
                  · intro L val a wr hsz hJ hu hdep hE K hK
                    obtain ⟨rS, rN, c0, c1, kS, kN, h⟩ := hJ
                    obtain ⟨e0, o0⟩ := hE.arg hdep 10 122 rfl rfl rfl
                    have e1 : a.tmps[122]?.getD undef = .pointer (some ⟨gB, 0, none⟩) := ev_tmps (e0.trans (h.pure 10 _ rfl o0))
                    obtain ⟨As, cs, hsh⟩ := own_shape h.s
                    have hv := (h.s4.resolve_left (fun h1 => h1.1 (dep_on hdep 4 rfl))).2.1.trans hsh
                    have e2 := ev_tmps ((hE.arg hdep 4 116 rfl rfl rfl).1.trans hv)
                    have hres := h.st11 hu (by first | exact ⟨dep_on hdep 1 rfl, dep_on hdep 4 rfl, dep_on hdep 6 rfl, dep_on hdep 9 rfl⟩ | exact ⟨dep_on hdep 6 rfl, dep_on hdep 9 rfl, dep_on hdep 11 rfl⟩) undef
                    rw [hv] at hres
                    have HRES := Lib.hid hres
                    have q0 := h.box.cell 0
                    have q1 := h.box.frozen 0
                    have ql := h.box.lt
                    simp only [List.getElem?_toArray, List.getElem?_cons_zero, List.getElem?_cons_succ] at q0
                    clear e0 o0 hv hsh hres
                    go_simp
                    exact hK undef _ HRES.out
                  · intro L val a wr hsz hJ hu hdep hE K hK
                    obtain ⟨rS, rN, c0, c1, kS, kN, h⟩ := hJ
                    have e1 : a.tmps[6]?.getD undef = .pointer (some ⟨gB, 0, none⟩) := ev_tmps (hE.old 6 (by rfl))
                    go_simp
                    exact hK _ _ (h.yield rfl (lt_of_un hu))
                  · intro L val a wr hsz hJ hu hdep hE K hK
                    obtain ⟨rS, rN, c0, c1, kS, kN, h⟩ := hJ
                    obtain ⟨e0, o0⟩ := hE.arg hdep 12 123 rfl rfl rfl
                    have e1 : a.tmps[123]?.getD undef = .pointer (some ⟨gB, 1, none⟩) := ev_tmps (e0.trans (h.pure 12 _ rfl o0))
                    obtain ⟨As, cs, hsh⟩ := own_shape h.n
                    have hv := (h.n9.resolve_left (fun h1 => h1.1 (dep_on hdep 9 rfl))).2.1.trans hsh
                    have e2 := ev_tmps ((hE.arg hdep 9 121 rfl rfl rfl).1.trans hv)
                    have hres := h.st13 hu (by first | exact ⟨dep_on hdep 1 rfl, dep_on hdep 4 rfl, dep_on hdep 6 rfl, dep_on hdep 9 rfl⟩ | exact ⟨dep_on hdep 6 rfl, dep_on hdep 9 rfl, dep_on hdep 11 rfl⟩) undef
                    rw [hv] at hres
                    have HRES := Lib.hid hres
                    have q0 := h.box.cell 1
                    have q1 := h.box.frozen 1
                    have ql := h.box.lt
                    simp only [List.getElem?_toArray, List.getElem?_cons_zero, List.getElem?_cons_succ] at q0
                    clear e0 o0 hv hsh hres
                    go_simp
                    exact hK undef _ HRES.out
                  intro L9 val w9 hall hJ9
                  obtain ⟨hF9, hK9⟩ := hJ9.done (fun i hi => hall i (by simpa using hi))
                  clear hall hJ9 hJ0
                  simp only [putL]
                  go_wp2
                  go_roundg (gk - 1)
                  case rel => exact ⟨k + 1, _, _, by have := HK.out; omega, by go_num, hF9, hKp2.trans hK9, Lib.hid (all_lt_succ hRS.out HVX.out), Lib.hid (all_lt_succ hRN.out HVY.out)⟩
                  case measure => have := HK.out; omega
                · have hvy' : inR y = false := by simpa using hvy
                  have HR := Lib.hid (mrg_e16 (a := a) (b := b) (by rw [HU.out]) (.inr (rngB_no hlt3 (by rw [HXN.out]; exact hvy'))))
                  rw [hvx, hvy']
                  clear hvx hvy hvy'
                  go_wp2
                  exact bodyPost_ret (v := .tuple #[.agg #[.slice .none 0 0, .slice .none 0 0, .slice .none 0 0], .int .i64 16]) (by simp [results, Try.results72, go_sem, q0, q1, q2, f0, f1, f2, fl]) rfl (RetA.no HR.out (by (repeat (first | with_reducible exact Below.refl _ _ | assumption | with_reducible refine below_drewN ?_ _ | with_reducible refine Below.drew ?_ | with_reducible refine balloc ?_ _ | (with_reducible refine Below.setCell ?_ ?_ _; rotate_left; focus (first | (simp; done) | (simp; omega) | omega))))))
              · have hvx' : inR x = false := by simpa using hvx
                have HR := Lib.hid (mrg_e16 (a := a) (b := b) (by rw [HU.out]) (.inl (rngB_no hlt (by rw [HXS.out]; exact hvx'))))
                rw [hvx']
                clear hvx hvx'
                go_wp2
                exact bodyPost_ret (v := .tuple #[.agg #[.slice .none 0 0, .slice .none 0 0, .slice .none 0 0], .int .i64 16]) (by simp [results, Try.results72, go_sem, q0, q1, q2, f0, f1, f2, fl]) rfl (RetA.no HR.out (by (repeat (first | with_reducible exact Below.refl _ _ | assumption | with_reducible refine below_drewN ?_ _ | with_reducible refine Below.drew ?_ | with_reducible refine balloc ?_ _ | (with_reducible refine Below.setCell ?_ ?_ _; rotate_left; focus (first | (simp; done) | (simp; omega) | omega))))))
        · obtain rfl : k = a.s.length := by omega
          obtain ⟨A1, x1, rfl⟩ := own_shape hF.s
          obtain ⟨A2, x2, rfl⟩ := own_shape hF.n
          have hr1 : RL wr A1 (addL a.s b.s) := own_RL_at (fullL_len _ _) hF.s
          have hr2 : RL wr A2 (addL a.n b.n) := by
            have h9 : addL a.n b.n = fullL (addF a.n b.n) a.s.length := by unfold addL; rw [HFA.out.ln]
            rw [h9]
            exact own_RL_at (fullL_len _ _) hF.n
          have hr3 : RL wr A l := hKp.rl hS.rl HAO.out
          have hf1 := own_fresh hF.s
          have hf2 := own_fresh hF.n
          have ho2 := hS.o2
          have hfr := hS.fr
          have HRG1 := Lib.hid (rngB_yes (a := a.s) (b := b.s) hRS.out)
          have HRG2 := Lib.hid (rngB_yes (a := a.n) (b := b.n) (by rw [HFA.out.ln]; exact hRN.out))
          have p0 : World.cell? wr ⟨gB, 0, none⟩ = some (.slice A1 a.s.length x1) := hF.blk.cell 0
          have pf0 := hF.blk.frozen 0
          have p1 : World.cell? wr ⟨gB, 1, none⟩ = some (.slice A2 a.s.length x2) := hF.blk.cell 1
          have pf1 := hF.blk.frozen 1
          have p2 : World.cell? wr ⟨gB, 2, none⟩ = some (.slice A l.length c) := hF.blk.cell 2
          have pf2 := hF.blk.frozen 2
          have pfl := hF.blk.lt
          have q0 : World.cell? wr ⟨(w.heap.size + 2), 0, none⟩ = some (.slice .none 0 0) := hBr.cell 0
          have f0 := hBr.frozen 0
          have q1 : World.cell? wr ⟨(w.heap.size + 2), 1, none⟩ = some (.slice .none 0 0) := hBr.cell 1
          have f1 := hBr.frozen 1
          have q2 : World.cell? wr ⟨(w.heap.size + 2), 2, none⟩ = some (.slice .none 0 0) := hBr.cell 2
          have f2 := hBr.frozen 2
          have fl := hBr.lt
          have qa0 : World.cell? wr ⟨w.heap.size, 0, none⟩ = some (.slice S a.s.length c1) := hBa.cell 0
          have fa0 := hBa.frozen 0
          have qa1 : World.cell? wr ⟨w.heap.size, 1, none⟩ = some (.slice N a.n.length c2) := hBa.cell 1
          have fa1 := hBa.frozen 1
          have qa2 : World.cell? wr ⟨w.heap.size, 2, none⟩ = some (.slice G a.g.length c3) := hBa.cell 2
          have fa2 := hBa.frozen 2
          have fal := hBa.lt
          have hne : ¬ gB = w.heap.size + 2 := by omega
          by_cases hm : 64 < l.length
          · have HR := Lib.hid (mrg_e4 (a := a) (b := b) (by rw [HU.out]) HRG1.out HRG2.out (by rw [HU.out]; exact hm))
            go_wp2
            exact bodyPost_ret (v := .tuple #[.agg #[.slice .none 0 0, .slice .none 0 0, .slice .none 0 0], .int .i64 4]) (by simp [results, Try.results72, go_sem, q0, q1, q2, f0, f1, f2, fl]) rfl (RetA.no HR.out (by (repeat (first | with_reducible exact Below.refl _ _ | assumption | with_reducible refine below_drewN ?_ _ | with_reducible refine Below.drew ?_ | with_reducible refine balloc ?_ _ | (with_reducible refine Below.setCell ?_ ?_ _; rotate_left; focus (first | (simp; done) | (simp; omega) | omega))))))
          · have HR := Lib.hid (mrg_e0 (a := a) (b := b) (by rw [HU.out]) HRG1.out HRG2.out (by rw [HU.out]; exact hm))
            rw [HU.out] at HR
            have HLN := Lib.hid HFA.out.ln
            go_wp2
            refine bodyPost_ret (v := .tuple #[.agg #[.slice A1 a.s.length x1, .slice A2 a.s.length x2, .slice A l.length c], .int .i64 0]) (by simp [results, Try.results72, go_sem, q0, q1, q2, f0, f1, f2, fl]) rfl (RetA.yes HR.out (fullL_len _ _) (by rw [addL, fullL_len, HLN.out]) rfl ⟨?_, hf1.mono (by omega)⟩ ⟨?_, hf2.mono (by omega)⟩ ⟨?_, hfr⟩ (by (repeat (first | with_reducible exact Below.refl _ _ | assumption | with_reducible refine below_drewN ?_ _ | with_reducible refine Below.drew ?_ | with_reducible refine balloc ?_ _ | (with_reducible refine Below.setCell ?_ ?_ _; rotate_left; focus (first | (simp; done) | (simp; omega) | omega))))))
            · repeat (first | exact hr1 | (refine RL.far ?_ hf1 (by simp; omega) _))
            · repeat (first | exact hr2 | (refine RL.far ?_ hf2 (by simp; omega) _))
            · repeat (first | exact hr3 | (refine RL.off ?_ (fun _ => ho2) _ _))
theorem refMerge_any (S N G S' N' G' : Option Addr) (c1 c2 c3 d1 d2 d3 : Nat) (a b : Acc) (w : World) (hx : RA w S N G a) (hy : RA w S' N' G' b) (l1 : a.s.length ≤ 140737488355328) (l2 : a.n.length ≤ 140737488355328) (l3 : a.g.length ≤ 140737488355328) (k1 : b.s.length ≤ 140737488355328) (k2 : b.n.length ≤ 140737488355328) (k3 : b.g.length ≤ 140737488355328) (ga : ∀ x ∈ a.g, -9223372036854775808 ≤ x.1 ∧ x.1 ≤ 9223372036854775807) (gb : ∀ x ∈ b.g, -9223372036854775808 ≤ x.1 ∧ x.1 ≤ 9223372036854775807) :
    Calls Try.prog 72 #[.agg #[.slice S a.s.length c1, .slice N a.n.length c2, .slice G a.g.length c3], .agg #[.slice S' b.s.length d1, .slice N' b.n.length d2, .slice G' b.g.length d3]] w (RetA w (mergeS a b)) := by
  by_cases h : accErr a = 0 ∧ accErr b = 0 ∧ a.s.length = b.s.length
  · exact refMerge_yes S N G S' N' G' c1 c2 c3 d1 d2 d3 a b w hx hy (acc_fine.1 h.1) (acc_fine.1 h.2.1) h.2.2
  · exact refMerge_no S N G S' N' G' c1 c2 c3 d1 d2 d3 a b w hx hy l1 l2 l3 k1 k2 k3 ga gb h
end Go.Proofs.Ytdekbncpodjgnaa
