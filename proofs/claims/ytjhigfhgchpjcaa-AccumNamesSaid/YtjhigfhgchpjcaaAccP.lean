/-
  Contracts: accum.Value.
-/
import Derived.Test.YtjhigfhgchpjcaaAccO
namespace Go.Proofs.Ytjhigfhgchpjcaa
open Go.RowKit Runs Lagc
set_option linter.unusedVariables false
set_option linter.unusedSimpArgs false

def valP (w : World) (r : (Int × Int) × Int) (e : Ending) (w' : World) : Prop := e = .returned (.tuple #[.int .i64 r.1.1, .int .i64 r.1.2, .int .i64 r.2]) ∧ Below w.heap.size w w'
theorem valS_e {a : Acc} {lag : Int} (h : accErr a ≠ 0) : valS a lag = ((0, 0), accErr a) := by unfold valS; rw [if_pos h]
theorem valS_2 {a : Acc} {lag : Int} (h : accErr a = 0) (h2 : lag < -((a.s.length / 2 : Nat) : Int) ∨ ((a.s.length / 2 : Nat) : Int) < lag) : valS a lag = ((0, 0), 2) := by unfold valS; rw [if_neg (by simpa using h), if_pos h2]
theorem valS_0 {a : Acc} {lag : Int} {I : Nat} (h : accErr a = 0) (h2 : ¬ (lag < -((a.s.length / 2 : Nat) : Int) ∨ ((a.s.length / 2 : Nat) : Int) < lag)) (hI : lag + ((a.s.length / 2 : Nat) : Int) = (I : Int)) : valS a lag = ((val (a.s.getD I (0, 0)), val (a.n.getD I (0, 0))), 0) := by
  unfold valS; rw [if_neg (by simpa using h), if_neg h2, hI, Int.toNat_natCast]
set_option maxRecDepth 20000 in
set_option maxHeartbeats 1000000 in
theorem accValue_any (S N G : Option Addr) (c1 c2 c3 : Nat) (a : Acc) (lag : Int) (w : World) (hx : RA w S N G a) (l1 : a.s.length ≤ 140737488355328) (l2 : a.n.length ≤ 140737488355328) (l3 : a.g.length ≤ 140737488355328) (hlag : -9223372036854775808 ≤ lag ∧ lag ≤ 9223372036854775807) :
    Calls Try.prog 22 #[.agg #[.slice S a.s.length c1, .slice N a.n.length c2, .slice G a.g.length c3], .int .i64 lag] w (valP w (valS a lag)) := by
  have hb0 : Below w.heap.size w (w.alloc (.cells #[.slice S a.s.length c1, .slice N a.n.length c2, .slice G a.g.length c3] 25)) := balloc (Below.refl _ _) _
  have hk := Blk.new w 25 #[.slice S a.s.length c1, .slice N a.n.length c2, .slice G a.g.length c3]
  have HCA := fun w hx => accCheck_any S N G c1 c2 c3 a w hx l1 l2 l3
  by_cases ea : accErr a = 0
  · have fa := acc_fine.1 ea
    have hls := fa.ls
    have hln := fa.ln
    rw [ea] at HCA
    by_cases h1 : lag < -((a.s.length / 2 : Nat) : Int)
    · have HR := Lib.hid (valS_2 ea (.inl h1))
      clear ea fa hln
      have h1' : lag < -((a.s.length : Int) / 2) := by omega
      go_enter Try.func22, Try.ntmps22
      go_wp2_with fail
      refine (HCA _ (hx.keep hb0)).mono ?_
      rintro _ w1 ⟨rfl, hb1⟩
      have hkW := hk.keep hb1
      have q0 : World.cell? w1 ⟨w.heap.size, 0, none⟩ = some (.slice S a.s.length c1) := hkW.cell 0
      have f0 := hkW.frozen 0
      have q1 : World.cell? w1 ⟨w.heap.size, 1, none⟩ = some (.slice N a.n.length c2) := hkW.cell 1
      have f1 := hkW.frozen 1
      have q2 : World.cell? w1 ⟨w.heap.size, 2, none⟩ = some (.slice G a.g.length c3) := hkW.cell 2
      have f2 := hkW.frozen 2
      have fl := hkW.lt
      go_wp2
      refine bodyPost_ret (v := .tuple #[.int .i64 0, .int .i64 0, .int .i64 2]) (by simp [results, Try.results22, go_sem]) rfl ?_
      rw [HR.out]
      exact ⟨rfl, bstep hb0 hb1⟩
    by_cases h2 : ((a.s.length / 2 : Nat) : Int) < lag
    · have HR := Lib.hid (valS_2 ea (.inr h2))
      clear ea fa hln
      have h1' : ¬ lag < -((a.s.length : Int) / 2) := by omega
      have h2' : (a.s.length : Int) / 2 < lag := by omega
      go_enter Try.func22, Try.ntmps22
      go_wp2_with fail
      refine (HCA _ (hx.keep hb0)).mono ?_
      rintro _ w1 ⟨rfl, hb1⟩
      have hkW := hk.keep hb1
      have q0 : World.cell? w1 ⟨w.heap.size, 0, none⟩ = some (.slice S a.s.length c1) := hkW.cell 0
      have f0 := hkW.frozen 0
      have q1 : World.cell? w1 ⟨w.heap.size, 1, none⟩ = some (.slice N a.n.length c2) := hkW.cell 1
      have f1 := hkW.frozen 1
      have q2 : World.cell? w1 ⟨w.heap.size, 2, none⟩ = some (.slice G a.g.length c3) := hkW.cell 2
      have f2 := hkW.frozen 2
      have fl := hkW.lt
      go_wp2
      refine bodyPost_ret (v := .tuple #[.int .i64 0, .int .i64 0, .int .i64 2]) (by simp [results, Try.results22, go_sem]) rfl ?_
      rw [HR.out]
      exact ⟨rfl, bstep hb0 hb1⟩
    obtain ⟨I, hI⟩ : ∃ I : Nat, lag + ((a.s.length / 2 : Nat) : Int) = (I : Int) := ⟨(lag + ((a.s.length / 2 : Nat) : Int)).toNat, by omega⟩
    have hIlt : I < a.s.length := by have := fa.odd; omega
    have hIlt2 : I < a.n.length := by omega
    have HR := Lib.hid (valS_0 ea (by omega) hI)
    obtain ⟨okS1, okS2⟩ := fine_okS fa _ (getD_mem (d := (0, 0)) hIlt)
    obtain ⟨okN1, okN2⟩ := fine_okN fa _ (getD_mem (d := (0, 0)) hIlt2)
    have h1' : ¬ lag < -((a.s.length : Int) / 2) := by omega
    have h2' : ¬ (a.s.length : Int) / 2 < lag := by omega
    have hw : IntKind.i64.wrap (lag + (a.s.length : Int) / 2) = (I : Int) := by rw [IntWalk.i64_in _ (by omega)]; omega
    have hI1 : (I : Int) < (a.s.length : Int) := by omega
    have hI2 : (I : Int) < (a.n.length : Int) := by omega
    clear ea fa hln hI h1 h2
    obtain ⟨b1, off1, rfl, hl1, hc1, hd1⟩ := hx.s.at_ hIlt
    obtain ⟨b2, off2, rfl, hl2, hc2, hd2⟩ := hx.n.at_ hIlt2
    generalize a.s.getD I (0, 0) = x at *
    generalize a.n.getD I (0, 0) = y at *
    go_enter Try.func22, Try.ntmps22
    go_wp2_with fail
    refine (HCA _ (hx.keep hb0)).mono ?_
    rintro _ w1 ⟨rfl, hb1⟩
    have hB1 := bstep hb0 hb1
    have hkW := hk.keep hb1
    have q0 : World.cell? w1 ⟨w.heap.size, 0, none⟩ = some (.slice (some ⟨b1, off1, none⟩) a.s.length c1) := hkW.cell 0
    have f0 := hkW.frozen 0
    have q1 : World.cell? w1 ⟨w.heap.size, 1, none⟩ = some (.slice (some ⟨b2, off2, none⟩) a.n.length c2) := hkW.cell 1
    have f1 := hkW.frozen 1
    have q2 : World.cell? w1 ⟨w.heap.size, 2, none⟩ = some (.slice G a.g.length c3) := hkW.cell 2
    have f2 := hkW.frozen 2
    have fl := hkW.lt
    have HH : Hid (∀ W, Below w1.heap.size w1 W → (W.cell? ⟨w.heap.size, 0, none⟩ = some (.slice (some ⟨b1, off1, none⟩) a.s.length c1) ∧ W.cell? ⟨w.heap.size, 1, none⟩ = some (.slice (some ⟨b2, off2, none⟩) a.n.length c2)) ∧ (W.cell? ⟨b1, off1 + I * 2, none⟩ = some (.int .i64 x.1) ∧ W.cell? ⟨b1, off1 + I * 2 + 1, none⟩ = some (.int .i64 x.2)) ∧ (W.cell? ⟨b2, off2 + I * 2, none⟩ = some (.int .i64 y.1) ∧ W.cell? ⟨b2, off2 + I * 2 + 1, none⟩ = some (.int .i64 y.2))) := Lib.hid (fun W hW => by
      have hBW := bstep hB1 hW
      have hkV := hkW.keep hW
      exact ⟨⟨hkV.cell 0, hkV.cell 1⟩, ⟨(hBW.cell (p := ⟨b1, _, none⟩) hl1).trans hc1, (hBW.cell (p := ⟨b1, _, none⟩) hl1).trans hd1⟩, (hBW.cell (p := ⟨b2, _, none⟩) hl2).trans hc2, (hBW.cell (p := ⟨b2, _, none⟩) hl2).trans hd2⟩)
    go_wp2
    go_region_held3 (fun W => (W.cell? ⟨w.heap.size, 0, none⟩ = some (.slice (some ⟨b1, off1, none⟩) a.s.length c1) ∧ W.cell? ⟨w.heap.size, 1, none⟩ = some (.slice (some ⟨b2, off2, none⟩) a.n.length c2)) ∧ (W.cell? ⟨b1, off1 + I * 2, none⟩ = some (.int .i64 x.1) ∧ W.cell? ⟨b1, off1 + I * 2 + 1, none⟩ = some (.int .i64 x.2)) ∧ (W.cell? ⟨b2, off2 + I * 2, none⟩ = some (.int .i64 y.1) ∧ W.cell? ⟨b2, off2 + I * 2 + 1, none⟩ = some (.int .i64 y.2)))
      (first | exact HH.out _ (Below.refl _ _) | exact HH.out _ (Below.drew (Below.refl _ _)) | exact HH.out _ hb9 | exact HH.out _ hb8 | fail)
      ((first
        | (go_at_call 44; (with_reducible refine (value_any x w1.drew okS1 okS2).mono ?_); rintro e w9 ⟨rfl, hb9'⟩; have hb9 : Below w1.heap.size w1 w9 := bstep (Below.drew (Below.refl _ _)) hb9')
        | (go_at_call 44; (with_reducible refine (value_any y w1.drew okN1 okN2).mono ?_); rintro e w9 ⟨rfl, hb9'⟩; have hb9 : Below w1.heap.size w1 w9 := bstep (Below.drew (Below.refl _ _)) hb9')
        | (go_at_call 44; (with_reducible refine (value_any x _ okS1 okS2).mono ?_); rintro e w8 ⟨rfl, hb8'⟩; have hb8 : Below w1.heap.size w1 w8 := bstep hb9 hb8')
        | (go_at_call 44; (with_reducible refine (value_any y _ okN1 okN2).mono ?_); rintro e w8 ⟨rfl, hb8'⟩; have hb8 : Below w1.heap.size w1 w8 := bstep hb9 hb8')
        | fail))
    all_goals go_wp2
    all_goals
      refine bodyPost_ret (v := .tuple #[.int .i64 (val x), .int .i64 (val y), .int .i64 0]) (by simp [results, Try.results22, go_sem]) rfl ?_
      rw [HR.out]
      exact ⟨rfl, by have hB8 := bstep hB1 hb8; (repeat (first | with_reducible exact Below.refl _ _ | assumption | with_reducible refine below_drewN ?_ _ | with_reducible refine Below.drew ?_ | with_reducible refine balloc ?_ _ | (with_reducible refine Below.setCell ?_ ?_ _; rotate_left; focus (first | (simp; done) | (simp; omega) | omega))))⟩
  · have HR := Lib.hid (valS_e (lag := lag) ea)
    have e2 : (accErr a != 0) = true := by rw [bne_iff_ne]; exact ea
    clear ea
    generalize accErr a = E at *
    go_enter Try.func22, Try.ntmps22
    go_wp2_with fail
    refine (HCA _ (hx.keep hb0)).mono ?_
    rintro _ w1 ⟨rfl, hb1⟩
    go_wp2
    refine bodyPost_ret (v := .tuple #[.int .i64 0, .int .i64 0, .int .i64 E]) (by simp [results, Try.results22, go_sem]) rfl ?_
    rw [HR.out]
    exact ⟨rfl, bstep hb0 hb1⟩
end Go.Proofs.Ytjhigfhgchpjcaa
