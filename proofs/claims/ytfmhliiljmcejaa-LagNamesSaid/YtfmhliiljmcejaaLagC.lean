/-
  Contracts: lag.Total, fringeref16.Total.
-/
import Derived.Test.YtfmhliiljmcejaaLagB
namespace Go.Proofs.Ytfmhliiljmcejaa
open Go.RowKit
set_option linter.unusedVariables false

def sumP (l : List (Int × Int)) : Int × Int := l.foldl (fun a x => (a.1 + x.1, a.2 + x.2)) (0, 0)

theorem sumP_snoc (l : List (Int × Int)) (x : Int × Int) : sumP (l ++ [x]) = ((sumP l).1 + x.1, (sumP l).2 + x.2) := by simp [sumP, List.foldl_append]
theorem sumP_take {l : List (Int × Int)} {k : Nat} (h : k < l.length) : sumP (l.take (k + 1)) = ((sumP (l.take k)).1 + l[k].1, (sumP (l.take k)).2 + l[k].2) := by
  rw [List.take_succ_eq_append_getElem h, sumP_snoc]
theorem okLag_bd {a : Int × Int} (h : okLag a = true) : 0 ≤ a.2 ∧ a.2 ≤ 256 ∧ -2304 ≤ a.1 ∧ a.1 ≤ 2304 := by
  simp only [okLag, decide_eq_true_eq] at h; omega
theorem lagErr_zero {l : List (Int × Int)} (h : lagErr l = 0) : l.length ≤ 511 ∧ ¬ l.length % 2 = 0 ∧ ∀ x ∈ l, okLag x = true := by
  unfold lagErr at h
  split at h
  · omega
  · split at h
    · omega
    · split at h
      · rename_i h1 h2 h3
        exact ⟨by omega, h2, by simpa using h3⟩
      · omega
theorem sumP_bd {l : List (Int × Int)} (h : ∀ x ∈ l, okLag x = true) : ∀ k, k ≤ l.length → -(2304 * (k : Int)) ≤ (sumP (l.take k)).1 ∧ (sumP (l.take k)).1 ≤ 2304 * k ∧ 0 ≤ (sumP (l.take k)).2 ∧ (sumP (l.take k)).2 ≤ 256 * k := by
  intro k
  induction k with
  | zero => intro _; simp [sumP]
  | succ k ih =>
    intro hk
    have h1 := ih (by omega)
    have h2 := okLag_bd (h _ (List.getElem_mem (show k < l.length by omega)))
    rw [sumP_take (by omega)]
    simp only []
    omega

/-- What Total answers: the sums if the list is valid, else zeros and the error. -/
def totalEnd (l : List (Int × Int)) : Value :=
  .tuple #[.agg #[.int .i64 (if lagErr l = 0 then (sumP l).1 else 0), .int .i64 (if lagErr l = 0 then (sumP l).2 else 0)], .int .i64 (lagErr l)]
theorem totalEnd_ok {l : List (Int × Int)} (h : lagErr l = 0) : totalEnd l = .tuple #[.agg #[.int .i64 (sumP l).1, .int .i64 (sumP l).2], .int .i64 0] := by simp [totalEnd, h]
theorem totalEnd_no {l : List (Int × Int)} (h : ¬ lagErr l = 0) : totalEnd l = .tuple #[.agg #[.int .i64 0, .int .i64 0], .int .i64 (lagErr l)] := by simp [totalEnd, h]

theorem lagTotal_any (A : Option Addr) (c : Nat) (l : List (Int × Int)) (w : World) (hx : RL w A l) (hl : l.length ≤ 140737488355328) :
    Calls Try.prog 18 #[.slice A l.length c] w fun e w' => e = .returned (totalEnd l) ∧ Below w.heap.size w w' := by
  by_cases he : lagErr l = 0
  · have e1 : (lagErr l != 0) = false := by simp [he]
    have HE := Lib.hid he
    have hl5 := (lagErr_zero he).1
    clear he
    go_enter Try.func18, Try.ntmps18
    go_wp2_with fail
    refine (lagCheck_any _ _ _ _ (hx.keep ?_) hl).mono ?_
    · exact (Below.refl _ _).alloc (Nat.le_refl _) _
    rintro e w1 ⟨rfl, hb1⟩
    have hB0 : Below w.heap.size w w1 := ((Below.refl _ _).alloc (Nat.le_refl _) _).trans (hb1.mono (by simp))
    have hR0 := (Blk.new w 39 #[.int .i64 0, .int .i64 0]).keep hb1
    go_wp2
    go_loopg [7, 16] l.length (fun gk _ i wr => ∃ k : Nat, k + gk = l.length ∧ i = .int .i64 k ∧ Blk wr w1.heap.size 39 #[.int .i64 (sumP (l.take k)).1, .int .i64 (sumP (l.take k)).2] ∧ Blk wr w.heap.size 39 #[.int .i64 0, .int .i64 0] ∧ Below w.heap.size w wr)
    case atStart => exact ⟨0, by omega, rfl, Blk.new _ _ _, hR0.alloc _, hB0.alloc hB0.size _⟩
    case round =>
      obtain ⟨k, hk, rfl, hO, hR, hb⟩ := hrel
      have hk' : k ≤ l.length := by omega
      have HK := Lib.hid hk
      clear hk
      have hbd := sumP_bd (lagErr_zero HE.out).2.2 k hk'
      have o0 : wr.cell? ⟨w1.heap.size, 0, none⟩ = some (.int .i64 (sumP (l.take k)).1) := hO.cell 0
      have o1 : wr.cell? ⟨w1.heap.size, 1, none⟩ = some (.int .i64 (sumP (l.take k)).2) := hO.cell 1
      have p0 := hO.frozen 0
      have p1 := hO.frozen 1
      have hg := hO.lt
      have hg2 := hR.lt
      by_cases hlt : k < l.length
      · obtain ⟨b, off, rfl, _, hc1, hc2⟩ := (hx.keep hb).at_ hlt
        have hbx := okLag_bd ((lagErr_zero HE.out).2.2 _ (List.getElem_mem hlt))
        go_wp2
        go_roundg (gk - 1)
        case rel => exact ⟨k + 1, by have := HK.out; omega, by go_num, by rw [sumP_take hlt]; exact ((hO.put 0 _).put 1 _).alloc _, ((hR.far (p := ⟨w1.heap.size, 0, none⟩) (by have := hR0.lt; simp; omega) _).far (p := ⟨w1.heap.size, 1, none⟩) (by have := hR0.lt; simp; omega) _).alloc _, ((hb.setCell (p := ⟨w1.heap.size, 0, none⟩) hB0.size _).setCell (p := ⟨w1.heap.size, 1, none⟩) hB0.size _).alloc (by simpa using hb.size) _⟩
        case measure => have := HK.out; omega
      · have r0 := hR.frozen 0
        have r1 := hR.frozen 1
        have q0 : wr.cell? ⟨w.heap.size, 0, none⟩ = some (.int .i64 0) := hR.cell 0
        have q1 : wr.cell? ⟨w.heap.size, 1, none⟩ = some (.int .i64 0) := hR.cell 1
        go_wp2
        refine bodyPost_ret (v := .tuple #[.agg #[.int .i64 (sumP (l.take k)).1, .int .i64 (sumP (l.take k)).2], .int .i64 0]) (by simp [results, Try.results18, go_sem, q0, q1]) rfl ⟨?_, ?_⟩
        · rw [totalEnd_ok HE.out, List.take_of_length_le (by omega)]
        · exact (hb.setCell (p := ⟨w.heap.size, 0, none⟩) (Nat.le_refl _) _).setCell (p := ⟨w.heap.size, 1, none⟩) (Nat.le_refl _) _
  · have e1 : (lagErr l != 0) = true := by simp [he]
    have HE := Lib.hid he
    clear he
    go_enter Try.func18, Try.ntmps18
    go_wp2_with fail
    refine (lagCheck_any _ _ _ _ (hx.keep ?_) hl).mono ?_
    · exact (Below.refl _ _).alloc (Nat.le_refl _) _
    rintro e w1 ⟨rfl, hb1⟩
    have hB0 : Below w.heap.size w w1 := ((Below.refl _ _).alloc (Nat.le_refl _) _).trans (hb1.mono (by simp))
    have hR := (Blk.new w 39 #[.int .i64 0, .int .i64 0]).keep hb1
    have r0 := hR.frozen 0
    have r1 := hR.frozen 1
    have q0 : w1.cell? ⟨w.heap.size, 0, none⟩ = some (.int .i64 0) := hR.cell 0
    have q1 : w1.cell? ⟨w.heap.size, 1, none⟩ = some (.int .i64 0) := hR.cell 1
    go_wp2
    refine bodyPost_ret (v := .tuple #[.agg #[.int .i64 0, .int .i64 0], .int .i64 (lagErr l)]) (by simp [results, Try.results18, go_sem, q0, q1]) rfl ⟨?_, ?_⟩
    · rw [totalEnd_no HE.out]
    · exact (hB0.setCell (p := ⟨w.heap.size, 0, none⟩) (Nat.le_refl _) _).setCell (p := ⟨w.heap.size, 1, none⟩) (Nat.le_refl _) _
end Go.Proofs.Ytfmhliiljmcejaa
