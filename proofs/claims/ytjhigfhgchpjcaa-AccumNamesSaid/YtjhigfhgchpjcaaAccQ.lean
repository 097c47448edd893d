/-
  Contracts: accum.Mean; of the reference: Value, Mean, Times.
-/
import Derived.Test.YtjhigfhgchpjcaaAccP
import Derived.Test.YtjhigfhgchpjcaaFracR
namespace Go.Proofs.Ytjhigfhgchpjcaa
open Go.RowKit Runs Lagc Frac
set_option linter.unusedVariables false
set_option linter.unusedSimpArgs false

def meanS (a : Acc) (lag : Int) : (Int × Int) × Int :=
  if (valS a lag).2 ≠ 0 then ((0, 0), (valS a lag).2) else if (valS a lag).1.2 = 0 then ((0, 0), 18) else (frcS (valS a lag).1.1 (valS a lag).1.2, 0)
theorem val_bd {c : Int × Int} (h : okC c) : -1000000000000000000 ≤ val c ∧ val c ≤ 1000000000000000000 := by
  obtain ⟨⟨h1, h2⟩, h3, h4⟩ := h
  unfold val
  omega
theorem valS_ok {a : Acc} {lag : Int} (h : (valS a lag).2 = 0) : accErr a = 0 ∧ ∃ I : Nat, I < a.s.length ∧ I < a.n.length ∧ lag + ((a.s.length / 2 : Nat) : Int) = (I : Int) ∧ valS a lag = ((val (a.s.getD I (0, 0)), val (a.n.getD I (0, 0))), 0) := by
  by_cases ea : accErr a = 0
  · refine ⟨ea, ?_⟩
    have fa := acc_fine.1 ea
    by_cases h2 : lag < -((a.s.length / 2 : Nat) : Int) ∨ ((a.s.length / 2 : Nat) : Int) < lag
    · rw [valS_2 ea h2] at h; cases h
    · obtain ⟨I, hI⟩ : ∃ I : Nat, lag + ((a.s.length / 2 : Nat) : Int) = (I : Int) := ⟨(lag + ((a.s.length / 2 : Nat) : Int)).toNat, by omega⟩
      have := fa.odd
      have := fa.ln
      exact ⟨I, by omega, by omega, hI, valS_0 ea h2 hI⟩
  · rw [valS_e ea] at h
    exact absurd h ea
theorem valS_bd {a : Acc} {lag : Int} (h : (valS a lag).2 = 0) : (-1000000000000000000 ≤ (valS a lag).1.1 ∧ (valS a lag).1.1 ≤ 1000000000000000000) ∧ 0 ≤ (valS a lag).1.2 ∧ (valS a lag).1.2 ≤ 1000000000000000000 := by
  obtain ⟨ea, I, h1, h2, _, e⟩ := valS_ok h
  have fa := acc_fine.1 ea
  rw [e]
  refine ⟨val_bd (fine_okS fa _ (getD_mem h1)), ?_, (val_bd (fine_okN fa _ (getD_mem h2))).2⟩
  have := fa.n _ (getD_mem (d := (0, 0)) h2)
  show 0 ≤ val _
  unfold val
  omega
set_option maxRecDepth 20000 in
set_option maxHeartbeats 1000000 in
theorem accMean_any (S N G : Option Addr) (c1 c2 c3 : Nat) (a : Acc) (lag : Int) (w : World) (hx : RA w S N G a) (l1 : a.s.length ≤ 140737488355328) (l2 : a.n.length ≤ 140737488355328) (l3 : a.g.length ≤ 140737488355328) (hlag : -9223372036854775808 ≤ lag ∧ lag ≤ 9223372036854775807) :
    Calls Try.prog 24 #[.agg #[.slice S a.s.length c1, .slice N a.n.length c2, .slice G a.g.length c3], .int .i64 lag] w (RetF w (meanS a lag)) := by
  have HV := fun w hx => accValue_any S N G c1 c2 c3 a lag w hx l1 l2 l3 hlag
  have hbX : Below w.heap.size w ((w.alloc (.cells #[.slice S a.s.length c1, .slice N a.n.length c2, .slice G a.g.length c3] 25)).alloc (.cells #[.int .i64 0, .int .i64 0] 49)) := balloc (balloc (Below.refl _ _) _) _
  have hk3 := Blk.newAt (w := w.alloc (.cells #[.slice S a.s.length c1, .slice N a.n.length c2, .slice G a.g.length c3] 25)) (g := w.heap.size + 1) 49 #[.int .i64 0, .int .i64 0] (by simp)
  have HB := fun h => valS_bd (a := a) (lag := lag) h
  have HM := Lib.hid (show meanS a lag = if (valS a lag).2 ≠ 0 then ((0, 0), (valS a lag).2) else if (valS a lag).1.2 = 0 then ((0, 0), 18) else (frcS (valS a lag).1.1 (valS a lag).1.2, 0) from rfl)
  generalize valS a lag = R at *
  obtain ⟨⟨s, n⟩, E⟩ := R
  simp only [] at HB
  by_cases hE : E = 0
  · obtain ⟨hs, hn⟩ := HB hE
    have hm1 := HM.out
    simp only [hE, ne_eq, not_true_eq_false, if_false] at hm1
    subst hE
    clear HM HB
    by_cases h0 : n = 0
    · rw [if_pos h0] at hm1
      have HR := Lib.hid hm1
      subst h0
      clear hm1
      go_enter Try.func24, Try.ntmps24
      go_wp2_with fail
      refine (HV _ (hx.keep hbX)).mono ?_
      rintro _ w1 ⟨rfl, hb1⟩
      have hB1 := bstep hbX hb1
      replace hk3 := hk3.keep hb1
      have q0 : World.cell? w1 ⟨(w.heap.size + 1), 0, none⟩ = some (.int .i64 0) := hk3.cell 0
      have f0 := hk3.frozen 0
      have q1 : World.cell? w1 ⟨(w.heap.size + 1), 1, none⟩ = some (.int .i64 0) := hk3.cell 1
      have f1 := hk3.frozen 1
      have fl := hk3.lt
      go_wp2
      refine bodyPost_ret (v := .tuple #[.agg #[.int .i64 0, .int .i64 0], .int .i64 18]) (by simp [results, Try.results24, go_sem, q0, q1, f0, f1, fl]) rfl ?_
      rw [HR.out]
      exact ⟨rfl, by (repeat (first | with_reducible exact Below.refl _ _ | assumption | with_reducible refine below_drewN ?_ _ | with_reducible refine Below.drew ?_ | with_reducible refine balloc ?_ _ | (with_reducible refine Below.setCell ?_ ?_ _; rotate_left; focus (first | (simp; done) | (simp; omega) | omega))))⟩
    · rw [if_neg h0] at hm1
      have HR := Lib.hid hm1
      have e0 : (n == 0) = false := by rw [beq_eq_false_iff_ne]; exact h0
      have HK := Lib.hid (fun w => make_any s n w hs (by omega))
      clear hm1
      generalize frcS s n = C at *
      go_enter Try.func24, Try.ntmps24
      go_wp2_with fail
      refine (HV _ (hx.keep hbX)).mono ?_
      rintro _ w1 ⟨rfl, hb1⟩
      have hB1 := bstep hbX hb1
      go_wp2_with fail
      refine (HK.out _).mono ?_
      rintro _ w2 ⟨rfl, hb2⟩
      have hB2 := bstep hB1 hb2
      replace hk3 := (hk3.keep hb1).keep hb2
      have q0 : World.cell? w2 ⟨(w.heap.size + 1), 0, none⟩ = some (.int .i64 0) := hk3.cell 0
      have f0 := hk3.frozen 0
      have q1 : World.cell? w2 ⟨(w.heap.size + 1), 1, none⟩ = some (.int .i64 0) := hk3.cell 1
      have f1 := hk3.frozen 1
      have fl := hk3.lt
      go_wp2
      refine bodyPost_ret (v := .tuple #[.agg #[.int .i64 C.1, .int .i64 C.2], .int .i64 0]) (by simp [results, Try.results24, go_sem, q0, q1, f0, f1, fl]) rfl ?_
      rw [HR.out]
      exact ⟨rfl, by (repeat (first | with_reducible exact Below.refl _ _ | assumption | with_reducible refine below_drewN ?_ _ | with_reducible refine Below.drew ?_ | with_reducible refine balloc ?_ _ | (with_reducible refine Below.setCell ?_ ?_ _; rotate_left; focus (first | (simp; done) | (simp; omega) | omega))))⟩
  · have hm1 := HM.out
    simp only [ne_eq, hE, not_false_eq_true, if_true] at hm1
    have HR := Lib.hid hm1
    have e2 : (E != 0) = true := by rw [bne_iff_ne]; exact hE
    clear HM HB hE hm1
    go_enter Try.func24, Try.ntmps24
    go_wp2_with fail
    refine (HV _ (hx.keep hbX)).mono ?_
    rintro _ w1 ⟨rfl, hb1⟩
    have hB1 := bstep hbX hb1
    replace hk3 := hk3.keep hb1
    have q0 : World.cell? w1 ⟨(w.heap.size + 1), 0, none⟩ = some (.int .i64 0) := hk3.cell 0
    have f0 := hk3.frozen 0
    have q1 : World.cell? w1 ⟨(w.heap.size + 1), 1, none⟩ = some (.int .i64 0) := hk3.cell 1
    have f1 := hk3.frozen 1
    have fl := hk3.lt
    go_wp2
    refine bodyPost_ret (v := .tuple #[.agg #[.int .i64 0, .int .i64 0], .int .i64 E]) (by simp [results, Try.results24, go_sem, q0, q1, f0, f1, fl]) rfl ?_
    rw [HR.out]
    exact ⟨rfl, by (repeat (first | with_reducible exact Below.refl _ _ | assumption | with_reducible refine below_drewN ?_ _ | with_reducible refine Below.drew ?_ | with_reducible refine balloc ?_ _ | (with_reducible refine Below.setCell ?_ ?_ _; rotate_left; focus (first | (simp; done) | (simp; omega) | omega))))⟩
set_option maxRecDepth 20000 in
set_option maxHeartbeats 1000000 in
theorem refValue_any (S N G : Option Addr) (c1 c2 c3 : Nat) (a : Acc) (lag : Int) (w : World) (hx : RA w S N G a) (l1 : a.s.length ≤ 140737488355328) (l2 : a.n.length ≤ 140737488355328) (l3 : a.g.length ≤ 140737488355328) (hg : ∀ x ∈ a.g, -9223372036854775808 ≤ x.1 ∧ x.1 ≤ 9223372036854775807) (hlag : -9223372036854775808 ≤ lag ∧ lag ≤ 9223372036854775807) :
    Calls Try.prog 23 #[.agg #[.slice S a.s.length c1, .slice N a.n.length c2, .slice G a.g.length c3], .int .i64 lag] w (valP w (valS a lag)) := by
  have hb0 : Below w.heap.size w (w.alloc (.cells #[.slice S a.s.length c1, .slice N a.n.length c2, .slice G a.g.length c3] 25)) := balloc (Below.refl _ _) _
  have hk := Blk.new w 25 #[.slice S a.s.length c1, .slice N a.n.length c2, .slice G a.g.length c3]
  have HCA := fun w hx => refCheck_any S N G c1 c2 c3 a w hx l1 l2 l3 hg
  by_cases ea : accErr a = 0
  · have fa := acc_fine.1 ea
    have hls := fa.ls
    have hln := fa.ln
    rw [ea] at HCA
    by_cases h1 : lag < -((a.s.length / 2 : Nat) : Int)
    · have HR := Lib.hid (valS_2 ea (.inl h1))
      clear ea fa hln
      have h1' : lag < -((a.s.length : Int) / 2) := by omega
      go_enter Try.func23, Try.ntmps23
      go_wp2_with fail
      refine (HCA _ (hx.keep hb0)).mono ?_
      rintro _ w1 ⟨rfl, hb1⟩
      have hkW := hk.keep hb1
      have q0 : World.cell? w1 ⟨w.heap.size, 0, none⟩ = some (.slice S a.s.length c1) := hkW.cell 0
      have f0 := hkW.frozen 0
      have q1 : World.cell? w1 ⟨w.heap.size, 1, none⟩ = some (.slice N a.n.length c2) := hkW.cell 1
      have f1 := hkW.frozen 1
      have q2 : World.cell? w1 ⟨w.heap.size, 2, none⟩ = some (.slice G a.g.length c3) := hkW.cell 2
      have f2 := hkW.frozen 2
      have fl := hkW.lt
      go_wp2
      refine bodyPost_ret (v := .tuple #[.int .i64 0, .int .i64 0, .int .i64 2]) (by simp [results, Try.results23, go_sem]) rfl ?_
      rw [HR.out]
      exact ⟨rfl, bstep hb0 hb1⟩
    by_cases h2 : ((a.s.length / 2 : Nat) : Int) < lag
    · have HR := Lib.hid (valS_2 ea (.inr h2))
      clear ea fa hln
      have h1' : ¬ lag < -((a.s.length : Int) / 2) := by omega
      have h2' : (a.s.length : Int) / 2 < lag := by omega
      go_enter Try.func23, Try.ntmps23
      go_wp2_with fail
      refine (HCA _ (hx.keep hb0)).mono ?_
      rintro _ w1 ⟨rfl, hb1⟩
      have hkW := hk.keep hb1
      have q0 : World.cell? w1 ⟨w.heap.size, 0, none⟩ = some (.slice S a.s.length c1) := hkW.cell 0
      have f0 := hkW.frozen 0
      have q1 : World.cell? w1 ⟨w.heap.size, 1, none⟩ = some (.slice N a.n.length c2) := hkW.cell 1
      have f1 := hkW.frozen 1
      have q2 : World.cell? w1 ⟨w.heap.size, 2, none⟩ = some (.slice G a.g.length c3) := hkW.cell 2
      have f2 := hkW.frozen 2
      have fl := hkW.lt
      go_wp2
      refine bodyPost_ret (v := .tuple #[.int .i64 0, .int .i64 0, .int .i64 2]) (by simp [results, Try.results23, go_sem]) rfl ?_
      rw [HR.out]
      exact ⟨rfl, bstep hb0 hb1⟩
    obtain ⟨I, hI⟩ : ∃ I : Nat, lag + ((a.s.length / 2 : Nat) : Int) = (I : Int) := ⟨(lag + ((a.s.length / 2 : Nat) : Int)).toNat, by omega⟩
    have hIlt : I < a.s.length := by have := fa.odd; omega
    have hIlt2 : I < a.n.length := by omega
    have HR := Lib.hid (valS_0 ea (by omega) hI)
    have okS := fine_okS fa _ (getD_mem (d := (0, 0)) hIlt)
    have okN := fine_okN fa _ (getD_mem (d := (0, 0)) hIlt2)
    have h1' : ¬ lag < -((a.s.length : Int) / 2) := by omega
    have h2' : ¬ (a.s.length : Int) / 2 < lag := by omega
    have hw : IntKind.i64.wrap ((a.s.length : Int) / 2 + lag) = (I : Int) := by rw [IntWalk.i64_in _ (by omega)]; omega
    have hI1 : (I : Int) < (a.s.length : Int) := by omega
    have hI2 : (I : Int) < (a.n.length : Int) := by omega
    clear ea fa hln hI h1 h2
    obtain ⟨b1, off1, rfl, hl1, hc1, hd1⟩ := hx.s.at_ hIlt
    obtain ⟨b2, off2, rfl, hl2, hc2, hd2⟩ := hx.n.at_ hIlt2
    generalize a.s.getD I (0, 0) = x at *
    generalize a.n.getD I (0, 0) = y at *
    go_enter Try.func23, Try.ntmps23
    go_wp2_with fail
    refine (HCA _ (hx.keep hb0)).mono ?_
    rintro _ w1 ⟨rfl, hb1⟩
    have hB1 := bstep hb0 hb1
    have hkW := hk.keep hb1
    have q0 : World.cell? w1 ⟨w.heap.size, 0, none⟩ = some (.slice (some ⟨b1, off1, none⟩) a.s.length c1) := hkW.cell 0
    have f0 := hkW.frozen 0
    have q1 : World.cell? w1 ⟨w.heap.size, 1, none⟩ = some (.slice (some ⟨b2, off2, none⟩) a.n.length c2) := hkW.cell 1
    have f1 := hkW.frozen 1
    have q2 : World.cell? w1 ⟨w.heap.size, 2, none⟩ = some (.slice G a.g.length c3) := hkW.cell 2
    have f2 := hkW.frozen 2
    have fl := hkW.lt
    have HH : Hid (∀ W, Below w1.heap.size w1 W → (W.cell? ⟨w.heap.size, 0, none⟩ = some (.slice (some ⟨b1, off1, none⟩) a.s.length c1) ∧ W.cell? ⟨w.heap.size, 1, none⟩ = some (.slice (some ⟨b2, off2, none⟩) a.n.length c2)) ∧ (W.cell? ⟨b1, off1 + I * 2, none⟩ = some (.int .i64 x.1) ∧ W.cell? ⟨b1, off1 + I * 2 + 1, none⟩ = some (.int .i64 x.2)) ∧ (W.cell? ⟨b2, off2 + I * 2, none⟩ = some (.int .i64 y.1) ∧ W.cell? ⟨b2, off2 + I * 2 + 1, none⟩ = some (.int .i64 y.2))) := Lib.hid (fun W hW => by
      have hBW := bstep hB1 hW
      have hkV := hkW.keep hW
      exact ⟨⟨hkV.cell 0, hkV.cell 1⟩, ⟨(hBW.cell (p := ⟨b1, _, none⟩) hl1).trans hc1, (hBW.cell (p := ⟨b1, _, none⟩) hl1).trans hd1⟩, (hBW.cell (p := ⟨b2, _, none⟩) hl2).trans hc2, (hBW.cell (p := ⟨b2, _, none⟩) hl2).trans hd2⟩)
    go_wp2
    go_region_held3 (fun W => (W.cell? ⟨w.heap.size, 0, none⟩ = some (.slice (some ⟨b1, off1, none⟩) a.s.length c1) ∧ W.cell? ⟨w.heap.size, 1, none⟩ = some (.slice (some ⟨b2, off2, none⟩) a.n.length c2)) ∧ (W.cell? ⟨b1, off1 + I * 2, none⟩ = some (.int .i64 x.1) ∧ W.cell? ⟨b1, off1 + I * 2 + 1, none⟩ = some (.int .i64 x.2)) ∧ (W.cell? ⟨b2, off2 + I * 2, none⟩ = some (.int .i64 y.1) ∧ W.cell? ⟨b2, off2 + I * 2 + 1, none⟩ = some (.int .i64 y.2)))
      (first | exact HH.out _ (Below.refl _ _) | exact HH.out _ (Below.drew (Below.refl _ _)) | exact HH.out _ hb9 | exact HH.out _ hb8 | fail)
      ((first
        | (go_at_call 42; (with_reducible refine (worth_any x w1.drew okS).mono ?_); rintro e w9 ⟨rfl, hb9'⟩; have hb9 : Below w1.heap.size w1 w9 := bstep (Below.drew (Below.refl _ _)) hb9')
        | (go_at_call 42; (with_reducible refine (worth_any y w1.drew okN).mono ?_); rintro e w9 ⟨rfl, hb9'⟩; have hb9 : Below w1.heap.size w1 w9 := bstep (Below.drew (Below.refl _ _)) hb9')
        | (go_at_call 42; (with_reducible refine (worth_any x _ okS).mono ?_); rintro e w8 ⟨rfl, hb8'⟩; have hb8 : Below w1.heap.size w1 w8 := bstep hb9 hb8')
        | (go_at_call 42; (with_reducible refine (worth_any y _ okN).mono ?_); rintro e w8 ⟨rfl, hb8'⟩; have hb8 : Below w1.heap.size w1 w8 := bstep hb9 hb8')
        | fail))
    all_goals go_wp2
    all_goals
      refine bodyPost_ret (v := .tuple #[.int .i64 (val x), .int .i64 (val y), .int .i64 0]) (by simp [results, Try.results23, go_sem]) rfl ?_
      rw [HR.out]
      exact ⟨rfl, by have hB8 := bstep hB1 hb8; (repeat (first | with_reducible exact Below.refl _ _ | assumption | with_reducible refine below_drewN ?_ _ | with_reducible refine Below.drew ?_ | with_reducible refine balloc ?_ _ | (with_reducible refine Below.setCell ?_ ?_ _; rotate_left; focus (first | (simp; done) | (simp; omega) | omega))))⟩
  · have HR := Lib.hid (valS_e (lag := lag) ea)
    have e2 : (accErr a != 0) = true := by rw [bne_iff_ne]; exact ea
    clear ea
    generalize accErr a = E at *
    go_enter Try.func23, Try.ntmps23
    go_wp2_with fail
    refine (HCA _ (hx.keep hb0)).mono ?_
    rintro _ w1 ⟨rfl, hb1⟩
    have hkW := hk.keep hb1
    have q0 : World.cell? w1 ⟨w.heap.size, 0, none⟩ = some (.slice S a.s.length c1) := hkW.cell 0
    have f0 := hkW.frozen 0
    have q1 : World.cell? w1 ⟨w.heap.size, 1, none⟩ = some (.slice N a.n.length c2) := hkW.cell 1
    have f1 := hkW.frozen 1
    have q2 : World.cell? w1 ⟨w.heap.size, 2, none⟩ = some (.slice G a.g.length c3) := hkW.cell 2
    have f2 := hkW.frozen 2
    have fl := hkW.lt
    go_wp2_with fail
    refine (HCA _ (hx.keep (bstep hb0 hb1))).mono ?_
    rintro _ w2 ⟨rfl, hb2⟩
    go_wp2
    refine bodyPost_ret (v := .tuple #[.int .i64 0, .int .i64 0, .int .i64 E]) (by simp [results, Try.results23, go_sem]) rfl ?_
    rw [HR.out]
    exact ⟨rfl, bstep (bstep hb0 hb1) hb2⟩
set_option maxRecDepth 20000 in
set_option maxHeartbeats 1000000 in
theorem refMean_any (S N G : Option Addr) (c1 c2 c3 : Nat) (a : Acc) (lag : Int) (w : World) (hx : RA w S N G a) (l1 : a.s.length ≤ 140737488355328) (l2 : a.n.length ≤ 140737488355328) (l3 : a.g.length ≤ 140737488355328) (hg : ∀ x ∈ a.g, -9223372036854775808 ≤ x.1 ∧ x.1 ≤ 9223372036854775807) (hlag : -9223372036854775808 ≤ lag ∧ lag ≤ 9223372036854775807) :
    Calls Try.prog 25 #[.agg #[.slice S a.s.length c1, .slice N a.n.length c2, .slice G a.g.length c3], .int .i64 lag] w (RetF w (meanS a lag)) := by
  have HV := fun w hx => refValue_any S N G c1 c2 c3 a lag w hx l1 l2 l3 hg hlag
  have hbX : Below w.heap.size w ((w.alloc (.cells #[.slice S a.s.length c1, .slice N a.n.length c2, .slice G a.g.length c3] 25)).alloc (.cells #[.int .i64 0, .int .i64 0] 49)) := balloc (balloc (Below.refl _ _) _) _
  have hk3 := Blk.newAt (w := w.alloc (.cells #[.slice S a.s.length c1, .slice N a.n.length c2, .slice G a.g.length c3] 25)) (g := w.heap.size + 1) 49 #[.int .i64 0, .int .i64 0] (by simp)
  have HB := fun h => valS_bd (a := a) (lag := lag) h
  have HM := Lib.hid (show meanS a lag = if (valS a lag).2 ≠ 0 then ((0, 0), (valS a lag).2) else if (valS a lag).1.2 = 0 then ((0, 0), 18) else (frcS (valS a lag).1.1 (valS a lag).1.2, 0) from rfl)
  generalize valS a lag = R at *
  obtain ⟨⟨s, n⟩, E⟩ := R
  simp only [] at HB
  by_cases hE : E = 0
  · obtain ⟨hs, hn⟩ := HB hE
    have hm1 := HM.out
    simp only [hE, ne_eq, not_true_eq_false, if_false] at hm1
    subst hE
    clear HM HB
    by_cases h0 : n = 0
    · rw [if_pos h0] at hm1
      have HR := Lib.hid hm1
      subst h0
      clear hm1
      go_enter Try.func25, Try.ntmps25
      go_wp2_with fail
      refine (HV _ (hx.keep hbX)).mono ?_
      rintro _ w1 ⟨rfl, hb1⟩
      have hB1 := bstep hbX hb1
      replace hk3 := hk3.keep hb1
      have q0 : World.cell? w1 ⟨(w.heap.size + 1), 0, none⟩ = some (.int .i64 0) := hk3.cell 0
      have f0 := hk3.frozen 0
      have q1 : World.cell? w1 ⟨(w.heap.size + 1), 1, none⟩ = some (.int .i64 0) := hk3.cell 1
      have f1 := hk3.frozen 1
      have fl := hk3.lt
      go_wp2
      refine bodyPost_ret (v := .tuple #[.agg #[.int .i64 0, .int .i64 0], .int .i64 18]) (by simp [results, Try.results25, go_sem, q0, q1, f0, f1, fl]) rfl ?_
      rw [HR.out]
      exact ⟨rfl, by (repeat (first | with_reducible exact Below.refl _ _ | assumption | with_reducible refine below_drewN ?_ _ | with_reducible refine Below.drew ?_ | with_reducible refine balloc ?_ _ | (with_reducible refine Below.setCell ?_ ?_ _; rotate_left; focus (first | (simp; done) | (simp; omega) | omega))))⟩
    · rw [if_neg h0] at hm1
      have HR := Lib.hid hm1
      have e0 : (n == 0) = false := by rw [beq_eq_false_iff_ne]; exact h0
      have HK := Lib.hid (fun w => refMake_any s n w hs (by omega))
      clear hm1
      generalize frcS s n = C at *
      go_enter Try.func25, Try.ntmps25
      go_wp2_with fail
      refine (HV _ (hx.keep hbX)).mono ?_
      rintro _ w1 ⟨rfl, hb1⟩
      have hB1 := bstep hbX hb1
      go_wp2_with fail
      refine (HK.out _).mono ?_
      rintro _ w2 ⟨rfl, hb2⟩
      have hB2 := bstep hB1 hb2
      replace hk3 := (hk3.keep hb1).keep hb2
      have q0 : World.cell? w2 ⟨(w.heap.size + 1), 0, none⟩ = some (.int .i64 0) := hk3.cell 0
      have f0 := hk3.frozen 0
      have q1 : World.cell? w2 ⟨(w.heap.size + 1), 1, none⟩ = some (.int .i64 0) := hk3.cell 1
      have f1 := hk3.frozen 1
      have fl := hk3.lt
      go_wp2
      refine bodyPost_ret (v := .tuple #[.agg #[.int .i64 C.1, .int .i64 C.2], .int .i64 0]) (by simp [results, Try.results25, go_sem, q0, q1, f0, f1, fl]) rfl ?_
      rw [HR.out]
      exact ⟨rfl, by (repeat (first | with_reducible exact Below.refl _ _ | assumption | with_reducible refine below_drewN ?_ _ | with_reducible refine Below.drew ?_ | with_reducible refine balloc ?_ _ | (with_reducible refine Below.setCell ?_ ?_ _; rotate_left; focus (first | (simp; done) | (simp; omega) | omega))))⟩
  · have hm1 := HM.out
    simp only [ne_eq, hE, not_false_eq_true, if_true] at hm1
    have HR := Lib.hid hm1
    have e2 : (E != 0) = true := by rw [bne_iff_ne]; exact hE
    clear HM HB hE hm1
    go_enter Try.func25, Try.ntmps25
    go_wp2_with fail
    refine (HV _ (hx.keep hbX)).mono ?_
    rintro _ w1 ⟨rfl, hb1⟩
    have hB1 := bstep hbX hb1
    replace hk3 := hk3.keep hb1
    have q0 : World.cell? w1 ⟨(w.heap.size + 1), 0, none⟩ = some (.int .i64 0) := hk3.cell 0
    have f0 := hk3.frozen 0
    have q1 : World.cell? w1 ⟨(w.heap.size + 1), 1, none⟩ = some (.int .i64 0) := hk3.cell 1
    have f1 := hk3.frozen 1
    have fl := hk3.lt
    go_wp2
    refine bodyPost_ret (v := .tuple #[.agg #[.int .i64 0, .int .i64 0], .int .i64 E]) (by simp [results, Try.results25, go_sem, q0, q1, f0, f1, fl]) rfl ?_
    rw [HR.out]
    exact ⟨rfl, by (repeat (first | with_reducible exact Below.refl _ _ | assumption | with_reducible refine below_drewN ?_ _ | with_reducible refine Below.drew ?_ | with_reducible refine balloc ?_ _ | (with_reducible refine Below.setCell ?_ ?_ _; rotate_left; focus (first | (simp; done) | (simp; omega) | omega))))⟩
set_option maxHeartbeats 1000000 in
theorem refTimes_any (S N G : Option Addr) (c1 c2 c3 : Nat) (a : Acc) (w : World) (hx : RA w S N G a) (l1 : a.s.length ≤ 140737488355328) (l2 : a.n.length ≤ 140737488355328) (l3 : a.g.length ≤ 140737488355328) (hg : ∀ x ∈ a.g, -9223372036854775808 ≤ x.1 ∧ x.1 ≤ 9223372036854775807) :
    Calls Try.prog 27 #[.agg #[.slice S a.s.length c1, .slice N a.n.length c2, .slice G a.g.length c3]] w (timP w (timS a)) := by
  have hb0 : Below w.heap.size w (w.alloc (.cells #[.slice S a.s.length c1, .slice N a.n.length c2, .slice G a.g.length c3] 25)) := balloc (Below.refl _ _) _
  have hk1 := Blk.new w 25 #[.slice S a.s.length c1, .slice N a.n.length c2, .slice G a.g.length c3]
  have HCA := fun w hx => refCheck_any S N G c1 c2 c3 a w hx l1 l2 l3 hg
  by_cases ea : accErr a = 0
  · have HR := Lib.hid (timS_yes ea)
    have fa := acc_fine.1 ea
    have HF := Lib.hid fa
    have hlg := fa.lg
    rw [ea] at HCA
    clear ea fa
    go_enter Try.func27, Try.ntmps27
    go_wp2_with fail
    refine (HCA _ (hx.keep hb0)).mono ?_
    rintro _ w1 ⟨rfl, hb1⟩
    have hB1 := bstep hb0 hb1
    replace hk1 := hk1.keep hb1
    have qa0 : World.cell? w1 ⟨w.heap.size, 0, none⟩ = some (.slice S a.s.length c1) := hk1.cell 0
    have fa0 := hk1.frozen 0
    have qa1 : World.cell? w1 ⟨w.heap.size, 1, none⟩ = some (.slice N a.n.length c2) := hk1.cell 1
    have fa1 := hk1.frozen 1
    have qa2 : World.cell? w1 ⟨w.heap.size, 2, none⟩ = some (.slice G a.g.length c3) := hk1.cell 2
    have fa2 := hk1.frozen 2
    have fal := hk1.lt
    go_wp2
    go_loopg [4, 5] a.g.length (fun gk t i wr => ∃ k : Nat, k + gk = a.g.length ∧ i = .int .i64 k ∧ t = .int .i64 (tot (a.g.take k)) ∧ w1 = wr)
    case atStart => exact ⟨0, by omega, rfl, by simp [tot_nil], rfl⟩
    case round =>
      obtain ⟨k, hk, rfl, rfl, rfl⟩ := hrel
      have hk' : k ≤ a.g.length := by omega
      have HK := Lib.hid hk
      clear hk
      by_cases hlt : k < a.g.length
      · obtain ⟨b, off, rfl, _, hc1, hc2⟩ := (hx.g.keep hB1).at_ hlt
        have hT := tot_snoc hlt
        rw [getD_lt _ _ hlt] at hc1 hc2 hT
        have HT := Lib.hid hT
        clear hT
        have ht := tot_bound (l := a.g.take k) (fun x hx => HF.out.rn.1 x (List.mem_of_mem_take hx))
        rw [List.length_take] at ht
        have hm : okG a.g[k] := HF.out.rn.1 _ (List.getElem_mem hlt)
        unfold okG at hm
        have hmin : min k a.g.length ≤ 64 := by omega
        generalize min k a.g.length = mm at *
        go_wp2
        go_roundg (gk - 1)
        case rel => exact ⟨k + 1, by have := HK.out; omega, by go_num, by rw [HT.out], rfl⟩
        case measure => have := HK.out; omega
      · obtain rfl : k = a.g.length := by omega
        go_wp2
        go_ret2
        rw [HR.out]
        exact ⟨by rw [List.take_length]; rfl, hB1⟩
  · have HR := Lib.hid (timS_no ea)
    have e2 : (accErr a != 0) = true := by rw [bne_iff_ne]; exact ea
    clear ea
    generalize accErr a = E at *
    go_enter Try.func27, Try.ntmps27
    go_wp2_with fail
    refine (HCA _ (hx.keep hb0)).mono ?_
    rintro _ w1 ⟨rfl, hb1⟩
    have hkW := hk1.keep hb1
    have q0 : World.cell? w1 ⟨w.heap.size, 0, none⟩ = some (.slice S a.s.length c1) := hkW.cell 0
    have f0 := hkW.frozen 0
    have q1 : World.cell? w1 ⟨w.heap.size, 1, none⟩ = some (.slice N a.n.length c2) := hkW.cell 1
    have f1 := hkW.frozen 1
    have q2 : World.cell? w1 ⟨w.heap.size, 2, none⟩ = some (.slice G a.g.length c3) := hkW.cell 2
    have f2 := hkW.frozen 2
    have fl := hkW.lt
    go_wp2_with fail
    refine (HCA _ (hx.keep (bstep hb0 hb1))).mono ?_
    rintro _ w2 ⟨rfl, hb2⟩
    go_wp2
    go_ret2
    rw [HR.out]
    exact ⟨rfl, bstep (bstep hb0 hb1) hb2⟩
end Go.Proofs.Ytjhigfhgchpjcaa
