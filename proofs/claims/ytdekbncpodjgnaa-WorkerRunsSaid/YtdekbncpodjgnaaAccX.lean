/-
  Contract of the reference's together: one run more.
-/
import Derived.Test.YtdekbncpodjgnaaAppendP
namespace Go.Proofs.Ytdekbncpodjgnaa
open Go.RowKit Runs Lagc
set_option linter.unusedVariables false
set_option linter.unusedSimpArgs false

theorem own_lower {w : World} {base base' : Nat} {e : TypeId} {size : Nat} {v : Value} {n : Nat} {xs : List Value} (h : w.ownsRow base e size v n xs) (hb : base' ≤ base) : w.ownsRow base' e size v n xs := by
  refine ⟨h.1, ?_⟩
  rcases h.2 with h2 | ⟨g, cap, cur, rfl, h3, h4⟩
  · exact .inl h2
  · exact .inr ⟨g, cap, cur, rfl, Nat.le_trans hb h3, h4⟩
noncomputable def togS (l : List (Int × Int)) (g : Int × Int) : List (Int × Int) × Int := if (uni l [g]).2 then ((uni l [g]).1, 0) else ([], 14)
theorem togS_yes {l : List G} {g : G} {s : St} (h : Runs.Inv l g s) : togS l g = (s.list, 0) := by unfold togS; rw [uni_yes (good_tog h)]; rfl
theorem togS_no {l : List G} {g : G} {t : Int} (h1 : mem l t) (h2 : inG g t) : togS l g = ([], 14) := by unfold togS; rw [uni_no h1 ((mem_one _ _).2 h2)]; rfl
theorem stepT1 {s : St} {x : G} (h : x.1 + x.2 = s.g.1) : Runs.stepT s x = { s with g := (x.1, x.2 + s.g.2) } := by unfold Runs.stepT; rw [if_pos h]
theorem stepT2 {s : St} {x : G} (h : ¬ x.1 + x.2 = s.g.1) (h2 : s.g.1 + s.g.2 = x.1) : Runs.stepT s x = { s with g := (s.g.1, s.g.2 + x.2) } := by unfold Runs.stepT; rw [if_neg h, if_pos h2]
theorem stepT3 {s : St} {x : G} (h : ¬ x.1 + x.2 = s.g.1) (h2 : ¬ s.g.1 + s.g.2 = x.1) (h3 : x.1 < s.g.1) : Runs.stepT s x = { s with bef := s.bef ++ [x] } := by unfold Runs.stepT; rw [if_neg h, if_neg h2, if_pos h3]
theorem stepT4 {s : St} {x : G} (h : ¬ x.1 + x.2 = s.g.1) (h2 : ¬ s.g.1 + s.g.2 = x.1) (h3 : ¬ x.1 < s.g.1) : Runs.stepT s x = { s with beh := s.beh ++ [x] } := by unfold Runs.stepT; rw [if_neg h, if_neg h2, if_neg h3]
structure TogR (w wr : World) (vb ve : Value) (s : St) : Prop where
  blk : Blk wr w.heap.size 99 #[.int .i64 s.g.1, .int .i64 s.g.2]
  b : wr.ownsRow (w.heap.size + 1) 99 2 vb s.bef.length (s.bef.flatMap encP)
  e : wr.ownsRow (w.heap.size + 1) 99 2 ve s.beh.length (s.beh.flatMap encP)
  apart : ∀ h, vb.ownBlock = some h → ve.ownBlock ≠ some h
  bel : Below w.heap.size w wr
theorem TogR.keep {w wr w' : World} {vb ve : Value} {s : St} (h : TogR w wr vb ve s) (hb : Below wr.heap.size wr w') : TogR w w' vb ve s := ⟨h.blk.keep hb, own_keep h.b hb, own_keep h.e hb, h.apart, bstep h.bel hb⟩
theorem inv_len_le {d : List G} {g0 : G} {s : St} (h : Runs.Inv d g0 s) : s.bef.length + s.beh.length ≤ d.length := by have := h.len2; rw [list_len] at this; omega
theorem TogR.setG {w wr : World} {vb ve : Value} {s : St} (h : TogR w wr vb ve s) (y : Int × Int) : TogR w ((wr.setCell ⟨w.heap.size, 0, none⟩ (.int .i64 y.1)).setCell ⟨w.heap.size, 1, none⟩ (.int .i64 y.2)) vb ve { s with g := y } :=
  ⟨(h.blk.put 0 (.int .i64 y.1)).put 1 (.int .i64 y.2), ownsRow_setCell_below (ownsRow_setCell_below h.b (a := ⟨w.heap.size, 0, none⟩) (by simp) _) (a := ⟨w.heap.size, 1, none⟩) (by simp) _, ownsRow_setCell_below (ownsRow_setCell_below h.e (a := ⟨w.heap.size, 0, none⟩) (by simp) _) (a := ⟨w.heap.size, 1, none⟩) (by simp) _, h.apart, (h.bel.setCell (p := ⟨w.heap.size, 0, none⟩) (Nat.le_refl _) _).setCell (p := ⟨w.heap.size, 1, none⟩) (Nat.le_refl _) _⟩
theorem TogR.setG1 {w wr : World} {vb ve : Value} {s : St} (h : TogR w wr vb ve s) (y : Int) : TogR w (wr.setCell ⟨w.heap.size, 1, none⟩ (.int .i64 y)) vb ve { s with g := (s.g.1, y) } :=
  ⟨h.blk.put 1 (.int .i64 y), ownsRow_setCell_below h.b (a := ⟨w.heap.size, 1, none⟩) (by simp) _, ownsRow_setCell_below h.e (a := ⟨w.heap.size, 1, none⟩) (by simp) _, h.apart, h.bel.setCell (p := ⟨w.heap.size, 1, none⟩) (Nat.le_refl _) _⟩
theorem TogR.bef {w wr w4 : World} {vb ve : Value} {s : St} {x : Int × Int} {g4 c4 : Nat} {o : Obj} (h : TogR w wr vb ve s) (hown : w4.ownsRow (w.heap.size + 1) 99 2 (.slice (some ⟨g4, 0, none⟩) (s.bef.length + 1) c4) (s.bef.length + 1) (s.bef.flatMap encP ++ encP x)) (hgr : (wr.alloc o).grownBy w4 vb.ownBlock) (hat : vb.ownBlock = some g4 ∨ g4 = wr.heap.size + 1) :
    TogR w w4 (.slice (some ⟨g4, 0, none⟩) (s.bef.length + 1) c4) ve { s with bef := s.bef ++ [x] } := by
  refine ⟨(h.blk.alloc o).grown hgr (blk_ne_own h.b (.inl (by omega))), ?_, ?_, ?_, ?_⟩
  · simp only [List.length_append, List.length_singleton]
    rw [flat_snoc]
    exact hown
  · exact kept_apart (e' := 0) (s' := 1) (m := 0) (ys := []) (h.e.alloc o) hgr h.apart
  · intro b hb
    simp only [Value.ownBlock, Option.some.injEq] at hb
    subst hb
    exact apart_one (H := wr.heap.size + 1) h.e h.apart hat (by omega)
  · exact own_below (h.bel.alloc (by have := h.blk.lt; omega) o) (h.b.alloc o) hgr (by omega) (by have := h.blk.lt; simp; omega)
theorem TogR.beh {w wr w4 : World} {vb ve : Value} {s : St} {x : Int × Int} {g4 c4 : Nat} {o : Obj} (h : TogR w wr vb ve s) (hown : w4.ownsRow (w.heap.size + 1) 99 2 (.slice (some ⟨g4, 0, none⟩) (s.beh.length + 1) c4) (s.beh.length + 1) (s.beh.flatMap encP ++ encP x)) (hgr : (wr.alloc o).grownBy w4 ve.ownBlock) (hat : ve.ownBlock = some g4 ∨ g4 = wr.heap.size + 1) :
    TogR w w4 vb (.slice (some ⟨g4, 0, none⟩) (s.beh.length + 1) c4) { s with beh := s.beh ++ [x] } := by
  have hap : ∀ b, ve.ownBlock = some b → vb.ownBlock ≠ some b := fun b h1 h2 => h.apart b h2 h1
  refine ⟨(h.blk.alloc o).grown hgr (blk_ne_own h.e (.inl (by omega))), ?_, ?_, ?_, ?_⟩
  · exact kept_apart (e' := 0) (s' := 1) (m := 0) (ys := []) (h.b.alloc o) hgr hap
  · simp only [List.length_append, List.length_singleton]
    rw [flat_snoc]
    exact hown
  · intro b hb hb2
    simp only [Value.ownBlock, Option.some.injEq] at hb2
    subst hb2
    exact apart_one (H := wr.heap.size + 1) h.b hap hat (by omega) hb
  · exact own_below (h.bel.alloc (by have := h.blk.lt; omega) o) (h.e.alloc o) hgr (by omega) (by have := h.blk.lt; simp; omega)
set_option maxRecDepth 20000 in
set_option maxHeartbeats 2000000 in
theorem together_any (A : Option Addr) (c : Nat) (l : List (Int × Int)) (g : Int × Int) (w : World) (hx : RL w A l) (hl : l.length ≤ 200) (hR : Rn l) (hg : okG g) :
    Calls Try.prog 85 #[.slice A l.length c, .agg #[.int .i64 g.1, .int .i64 g.2]] w (RetQ 99 w (togS l g)) := by
  obtain ⟨i0, hi0, hz0, hz1, hz2⟩ := info_parts info_gap
  have HR := Lib.hid hR
  have HG := Lib.hid hg
  clear hR hg
  go_enter Try.func85, Try.ntmps85
  go_wp2
  go_loopg [6, 7, 8, 9, 24, 28, 45, 60] l.length (fun gk vb ve i _ _ _ _ _ wr => ∃ k : Nat, ∃ s : St, k + gk = l.length ∧ i = .int .i64 k ∧ TogR w wr vb ve s ∧ Hid (Runs.Inv (l.take k) g s))
  case atStart => exact ⟨0, ⟨[], g, []⟩, by omega, rfl, ⟨Blk.new _ _ _, World.ownsRow_nil _ _ _ _, World.ownsRow_nil _ _ _ _, (by intro h h2; cases h2), balloc (Below.refl _ _) _⟩, Lib.hid (by simpa using inv_start HG.out)⟩
  case round =>
    obtain ⟨k, s, hk, rfl, hT, HI⟩ := hrel
    have hk' : k ≤ l.length := by omega
    have HK := Lib.hid hk
    clear hk
    have hb := hT.bel
    have hsl : s.bef.length + s.beh.length ≤ 200 := by have := inv_len_le HI.out; rw [List.length_take] at this; omega
    have hsg : okG s.g := (inv_split.1 HI.out.rn).2.1
    by_cases hlt : k < l.length
    · obtain ⟨b, off, rfl, _, hc1, hc2⟩ := (hx.keep hb).at_ hlt
      rw [getD_lt _ _ hlt] at hc1 hc2
      have hxo : okG l[k] := HR.out.1 _ (List.getElem_mem hlt)
      have hRt : Rn (l.take k ++ [l[k]]) := by
        rw [← List.take_succ_eq_append_getElem hlt]
        exact (Rn_split.1 (show Rn (l.take (k + 1) ++ l.drop (k + 1)) by rw [List.take_append_drop]; exact HR.out)).1
      have HM := fun w => meet_any l[k] s.g w hxo hsg
      have HST : Hid (meetB l[k] s.g = false → Runs.Inv (l.take (k + 1)) g (Runs.stepT s l[k])) := Lib.hid (fun h => by rw [List.take_succ_eq_append_getElem hlt]; exact inv_step HI.out hRt h HG.out)
      have HNO : Hid (meetB l[k] s.g = true → togS l g = ([], 14)) := Lib.hid (fun h => by
        obtain ⟨t, h1, h2⟩ := inv_meet HI.out hRt h
        exact togS_no ⟨l[k], List.getElem_mem _, h1⟩ h2)
      clear hRt
      generalize l[k] = x at *
      unfold okG at hxo hsg
      have q0 : World.cell? wr ⟨w.heap.size, 0, none⟩ = some (.int .i64 s.g.1) := hT.blk.cell 0
      have f0 := hT.blk.frozen 0
      have q1 : World.cell? wr ⟨w.heap.size, 1, none⟩ = some (.int .i64 s.g.2) := hT.blk.cell 1
      have f1 := hT.blk.frozen 1
      have fl := hT.blk.lt
      by_cases hm : meetB x s.g = true
      · rw [hm] at HM
        have HN := Lib.hid (HNO.out hm)
        clear hm
        go_wp2_with fail
        refine (HM _).mono ?_
        rintro _ w1 ⟨rfl, hb1⟩
        go_wp2
        go_ret2
        exact RetQ.nil HN.out (bstep (balloc hb _) hb1)
      · have hm' : meetB x s.g = false := by simpa using hm
        rw [hm'] at HM
        have HI2 := Lib.hid (HST.out hm')
        clear hm hm' HST HNO
        go_wp2_with fail
        refine (HM _).mono ?_
        rintro _ w1 ⟨rfl, hb1⟩
        have hX := (Blk.new wr 99 #[.int .i64 x.1, .int .i64 x.2]).keep hb1
        have hT1 := (hT.keep (balloc (Below.refl _ _) (.cells #[.int .i64 x.1, .int .i64 x.2] 99))).keep hb1
        have hsz1 : wr.heap.size < w1.heap.size := hX.lt
        have hne : ¬ wr.heap.size = w.heap.size := by have := hT.blk.lt; omega
        clear hT q0 q1 f0 f1 fl
        have q0 : World.cell? w1 ⟨w.heap.size, 0, none⟩ = some (.int .i64 s.g.1) := hT1.blk.cell 0
        have f0 := hT1.blk.frozen 0
        have q1 : World.cell? w1 ⟨w.heap.size, 1, none⟩ = some (.int .i64 s.g.2) := hT1.blk.cell 1
        have f1 := hT1.blk.frozen 1
        have fl := hT1.blk.lt
        have p0 : World.cell? w1 ⟨wr.heap.size, 0, none⟩ = some (.int .i64 x.1) := hX.cell 0
        have pf0 := hX.frozen 0
        have p1 : World.cell? w1 ⟨wr.heap.size, 1, none⟩ = some (.int .i64 x.2) := hX.cell 1
        have pf1 := hX.frozen 1
        have pfl := hX.lt
        by_cases c1 : x.1 + x.2 = s.g.1
        · have e1 : (x.1 + x.2 == s.g.1) = true := by rw [beq_iff_eq]; exact c1
          have HI3 := HI2.out
          rw [stepT1 c1] at HI3
          have HI4 := Lib.hid HI3
          clear c1 HI3
          go_wp2
          go_roundg (gk - 1)
          case rel => exact ⟨k + 1, _, by have := HK.out; omega, by go_num, hT1.setG (x.1, x.2 + s.g.2), HI4⟩
          case measure => have := HK.out; omega
        have e1 : (x.1 + x.2 == s.g.1) = false := by rw [beq_eq_false_iff_ne]; exact c1
        by_cases c2 : s.g.1 + s.g.2 = x.1
        · have e2 : (s.g.1 + s.g.2 == x.1) = true := by rw [beq_iff_eq]; exact c2
          have HI3 := HI2.out
          rw [stepT2 c1 c2] at HI3
          have HI4 := Lib.hid HI3
          clear c1 c2 HI3
          go_wp2
          go_roundg (gk - 1)
          case rel => exact ⟨k + 1, _, by have := HK.out; omega, by go_num, hT1.setG1 (s.g.2 + x.2), HI4⟩
          case measure => have := HK.out; omega
        have e2 : (s.g.1 + s.g.2 == x.1) = false := by rw [beq_eq_false_iff_ne]; exact c2
        by_cases c3 : x.1 < s.g.1
        · have HI3 := HI2.out
          rw [stepT3 c1 c2 c3] at HI3
          have HI4 := Lib.hid HI3
          clear c1 c2 HI3
          go_wp2_with (at_builtin; refine wpList_append_lies _ rfl _ _ 37 rfl (w.heap.size + 1) 99 i0 _ 2 16 Try.underlying37 hi0 hz0 hz1 hz2 rfl (by decide) _ s.bef.length _ rfl (hT1.b.alloc _) ⟨w1.heap.size, 0, none⟩ 1 1 (encP x) rfl rfl (encP_news _ _ _) (encP_one _) (by omega) (by unfold maxLen; omega) (by omega) (by simp; omega) (w1.heap.size + 1) (by simp) ?_; intro g4 c4 w4 hown4 hgrow4 hat4 hlt4)
          go_roundg (gk - 1)
          case rel => exact ⟨k + 1, _, by have := HK.out; omega, by go_num, hT1.bef hown4 hgrow4 hat4, HI4⟩
          case measure => have := HK.out; omega
        · have HI3 := HI2.out
          rw [stepT4 c1 c2 c3] at HI3
          have HI4 := Lib.hid HI3
          clear c1 c2 HI3
          go_wp2_with (at_builtin; refine wpList_append_lies _ rfl _ _ 37 rfl (w.heap.size + 1) 99 i0 _ 2 16 Try.underlying37 hi0 hz0 hz1 hz2 rfl (by decide) _ s.beh.length _ rfl (hT1.e.alloc _) ⟨w1.heap.size, 0, none⟩ 1 1 (encP x) rfl rfl (encP_news _ _ _) (encP_one _) (by omega) (by unfold maxLen; omega) (by omega) (by simp; omega) (w1.heap.size + 1) (by simp) ?_; intro g4 c4 w4 hown4 hgrow4 hat4 hlt4)
          go_roundg (gk - 1)
          case rel => exact ⟨k + 1, _, by have := HK.out; omega, by go_num, hT1.beh hown4 hgrow4 hat4, HI4⟩
          case measure => have := HK.out; omega
    · obtain rfl : k = l.length := by omega
      have HI5 : Hid (togS l g = (s.list, 0)) := Lib.hid (togS_yes (by have := HI.out; rwa [List.take_length] at this))
      obtain ⟨A7, c7, hve⟩ := own_shape hT.e
      have hrl : RL wr A7 s.beh := by have := hT.e; rw [hve] at this; exact own_RL this
      have hTe := hT.e
      have hap := hT.apart
      subst hve
      have q0 : World.cell? wr ⟨w.heap.size, 0, none⟩ = some (.int .i64 s.g.1) := hT.blk.cell 0
      have f0 := hT.blk.frozen 0
      have q1 : World.cell? wr ⟨w.heap.size, 1, none⟩ = some (.int .i64 s.g.2) := hT.blk.cell 1
      have f1 := hT.blk.frozen 1
      have fl := hT.blk.lt
      go_wp2_with (first
        | (at_builtin; refine wpList_append_lies _ rfl (.tmp 70) (.tmp 72) 37 rfl (w.heap.size + 1) 99 i0 _ 2 16 Try.underlying37 hi0 hz0 hz1 hz2 rfl (by decide) _ s.bef.length _ rfl (hT.b.alloc _) ⟨wr.heap.size, 0, none⟩ 1 1 (encP s.g) rfl rfl (encP_news _ _ _) (encP_one _) (by omega) (by unfold maxLen; omega) (by omega) (by simp; omega) (wr.heap.size + 1) (by simp) ?_; intro g4 c4 w4 hown4 hgrow4 hat4 hlt4; have hTB := hT.bef hown4 hgrow4 hat4; have hrl4 := own_RL hTB.e)
        | (at_builtin; refine wpList_append_RL _ rfl (.tmp 73) (.tmp 74) 37 rfl (w.heap.size + 1) 99 i0 _ 16 Try.underlying37 hi0 hz0 hz1 hz2 rfl _ (s.bef.length + 1) (s.bef ++ [s.g]) rfl (by have h9 := hTB.b; simp only [List.length_append, List.length_singleton] at h9; exact h9) A7 c7 s.beh rfl hrl4 (by unfold maxLen; omega) (by omega) (by have := hTB.blk.lt; omega) ?_; intro v5 w5 hown5 hgrow5)
        | fail)
      go_ret2
      refine RetQ.own HI5.out (by rw [list_len]) (own_lower hown5 (by omega)) (own_below hTB.bel hTB.b hgrow5 (by omega) (by have := hTB.blk.lt; omega))
end Go.Proofs.Ytdekbncpodjgnaa
