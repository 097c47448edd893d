/-
  Contracts: fringeref16.Total.
-/
import Derived.Test.YtfmhliiljmcejaaLagC
import Derived.RegionTactic
import Derived.BigRegion
namespace Go.Proofs.Ytfmhliiljmcejaa
open Go.RowKit
set_option linter.unusedVariables false

theorem refTotal_any (A : Option Addr) (c : Nat) (l : List (Int × Int)) (w : World) (hx : RL w A l) (hl : l.length ≤ 140737488355328) :
    Calls Try.prog 19 #[.slice A l.length c] w fun e w' => e = .returned (totalEnd l) ∧ Below w.heap.size w w' := by
  by_cases he : lagErr l = 0
  · have e1 : (lagErr l != 0) = false := by simp [he]
    have HE := Lib.hid he
    have hl5 := (lagErr_zero he).1
    clear he
    go_enter Try.func19, Try.ntmps19
    go_wp2_with fail
    refine (refCheck16_any _ _ _ _ (hx.keep ?_) hl).mono ?_
    · exact (Below.refl _ _).alloc (Nat.le_refl _) _
    rintro e w1 ⟨rfl, hb1⟩
    have hB0 : Below w.heap.size w w1 := ((Below.refl _ _).alloc (Nat.le_refl _) _).trans (hb1.mono (by simp))
    have hR0 := (Blk.new w 39 #[.int .i64 0, .int .i64 0]).keep hb1
    go_wp2
    go_loopg [5] l.length (fun gk i wr => ∃ k : Nat, k + gk = l.length ∧ i = .int .i64 k ∧ Blk wr w1.heap.size 39 #[.int .i64 (sumP (l.take k)).1, .int .i64 (sumP (l.take k)).2] ∧ Blk wr w.heap.size 39 #[.int .i64 0, .int .i64 0] ∧ Below w.heap.size w wr)
    case atStart => exact ⟨0, by omega, rfl, Blk.new _ _ _, hR0.alloc _, hB0.alloc hB0.size _⟩
    case round =>
      obtain ⟨k, hk, rfl, hO, hR, hb⟩ := hrel
      have hk' : k ≤ l.length := by omega
      have HK := Lib.hid hk
      clear hk
      have hbd := sumP_bd (lagErr_zero HE.out).2.2 k hk'
      have o0 : wr.cell? ⟨w1.heap.size, 0, none⟩ = some (.int .i64 (sumP (l.take k)).1) := hO.cell 0
      have o1 : wr.cell? ⟨w1.heap.size, 1, none⟩ = some (.int .i64 (sumP (l.take k)).2) := hO.cell 1
      have p0 := hO.frozen 0
      have p1 := hO.frozen 1
      have hg := hO.lt
      have hg2 := hR.lt
      by_cases hlt : k < l.length
      · obtain ⟨b, off, rfl, _, hc1, hc2⟩ := (hx.keep hb).at_ hlt
        have hbx := okLag_bd ((lagErr_zero HE.out).2.2 _ (List.getElem_mem hlt))
        go_wp2
        go_region
        all_goals go_wp2
        all_goals
          go_roundg (gk - 1)
          case rel => exact ⟨k + 1, by have := HK.out; omega, by go_num, by rw [sumP_take hlt]; exact ((hO.put 0 _).put 1 _).drew, ((hR.far (p := ⟨w1.heap.size, 0, none⟩) (by have := hR0.lt; simp; omega) _).far (p := ⟨w1.heap.size, 1, none⟩) (by have := hR0.lt; simp; omega) _).drew, ((hb.setCell (p := ⟨w1.heap.size, 0, none⟩) hB0.size _).setCell (p := ⟨w1.heap.size, 1, none⟩) hB0.size _).drew⟩
          case measure => have := HK.out; omega
      · have r0 := hR.frozen 0
        have r1 := hR.frozen 1
        have q0 : wr.cell? ⟨w.heap.size, 0, none⟩ = some (.int .i64 0) := hR.cell 0
        have q1 : wr.cell? ⟨w.heap.size, 1, none⟩ = some (.int .i64 0) := hR.cell 1
        go_wp2
        refine bodyPost_ret (v := .tuple #[.agg #[.int .i64 (sumP (l.take k)).1, .int .i64 (sumP (l.take k)).2], .int .i64 0]) (by simp [results, Try.results19, go_sem, q0, q1]) rfl ⟨?_, ?_⟩
        · rw [totalEnd_ok HE.out, List.take_of_length_le (by omega)]
        · exact (hb.setCell (p := ⟨w.heap.size, 0, none⟩) (Nat.le_refl _) _).setCell (p := ⟨w.heap.size, 1, none⟩) (Nat.le_refl _) _
  · have e1 : (lagErr l != 0) = true := by simp [he]
    have HE := Lib.hid he
    clear he
    go_enter Try.func19, Try.ntmps19
    go_wp2_with fail
    refine (refCheck16_any _ _ _ _ (hx.keep ?_) hl).mono ?_
    · exact (Below.refl _ _).alloc (Nat.le_refl _) _
    rintro e w1 ⟨rfl, hb1⟩
    have hB0 : Below w.heap.size w w1 := ((Below.refl _ _).alloc (Nat.le_refl _) _).trans (hb1.mono (by simp))
    have hR0 := (Blk.new w 39 #[.int .i64 0, .int .i64 0]).keep hb1
    go_wp2_with fail
    refine (refCheck16_any _ _ _ _ (hx.keep hB0) hl).mono ?_
    rintro e w2 ⟨rfl, hb2⟩
    have hB2 : Below w.heap.size w w2 := hB0.trans (hb2.mono hB0.size)
    have hR := hR0.keep hb2
    have r0 := hR.frozen 0
    have r1 := hR.frozen 1
    have q0 : w2.cell? ⟨w.heap.size, 0, none⟩ = some (.int .i64 0) := hR.cell 0
    have q1 : w2.cell? ⟨w.heap.size, 1, none⟩ = some (.int .i64 0) := hR.cell 1
    go_wp2
    refine bodyPost_ret (v := .tuple #[.agg #[.int .i64 0, .int .i64 0], .int .i64 (lagErr l)]) (by simp [results, Try.results19, go_sem, q0, q1]) rfl ⟨?_, ?_⟩
    · rw [totalEnd_no HE.out]
    · exact (hB2.setCell (p := ⟨w.heap.size, 0, none⟩) (Nat.le_refl _) _).setCell (p := ⟨w.heap.size, 1, none⟩) (Nat.le_refl _) _
end Go.Proofs.Ytfmhliiljmcejaa
