/-
  Contracts: search.At, fringeref20.At, fringeref20.SameGauss.
-/
import Derived.Test.YtnejmgnbamajdaaSearchB
namespace Go.Proofs.Ytnejmgnbamajdaa
open Go.RowKit
set_option linter.unusedVariables false

def zeroC : Cl := ⟨0, 0, 0, 0, 0⟩
def fitAt (d r : Int) : Prop := -32 ≤ d ∧ d ≤ 32 ∧ 0 ≤ r ∧ r ≤ 3
instance (d r : Int) : Decidable (fitAt d r) := by unfold fitAt; exact inferInstance
def atSpec (xs ys : List Int) (d r s : Int) : Cl × Int := if askErr xs ys s ≠ 0 then (zeroC, askErr xs ys s) else if fitAt d r then (cellS xs ys d r s, 0) else (zeroC, 2)
theorem atSpec_err {xs ys : List Int} {d r s : Int} (h : ¬ askErr xs ys s = 0) : atSpec xs ys d r s = (zeroC, askErr xs ys s) := by simp [atSpec, h]
theorem atSpec_ok {xs ys : List Int} {d r s : Int} (h : askErr xs ys s = 0) (h2 : fitAt d r) : atSpec xs ys d r s = (cellS xs ys d r s, 0) := by simp [atSpec, h, h2]
theorem atSpec_no {xs ys : List Int} {d r s : Int} (h : askErr xs ys s = 0) (h2 : ¬ fitAt d r) : atSpec xs ys d r s = (zeroC, 2) := by simp [atSpec, h, h2]
abbrev atV (r : Cl × Int) : Value := .tuple #[cellV r.1, .int .i64 r.2]
abbrev zeroCs : Array Value := #[.int .i64 0, .int .i64 0, .int .i64 0, .int .i64 0, .int .i64 0]

theorem searchAt_any (A B : Option Addr) (c e : Nat) (xs ys : List Int) (d r s : Int) (w : World) (hx : RI .i64 w A xs) (hy : RI .i64 w B ys) (hl : xs.length ≤ 140737488355328) (hl2 : ys.length ≤ 140737488355328) :
    Calls Try.prog 13 #[.slice A xs.length c, .slice B ys.length e, .int .i64 d, .int .i64 r, .int .i64 s] w fun e w' => e = .returned (atV (atSpec xs ys d r s)) ∧ Below w.heap.size w w' := by
  have hb0 : Below w.heap.size w (w.alloc (.cells zeroCs 32)) := balloc (Below.refl _ _) _
  rcases (Decidable.em (askErr xs ys s = 0)).symm with he | he
  · have e1 : (askErr xs ys s != 0) = true := by simp [he]
    have HE := Lib.hid he
    clear he
    go_enter Try.func13, Try.ntmps13
    go_wp2_with fail
    refine (check20_any _ _ _ _ _ _ _ _ (hx.keep hb0) (hy.keep hb0) hl hl2).mono ?_
    rintro e w' ⟨rfl, rfl⟩
    go_wp2
    refine bodyPost_ret (v := atV (zeroC, askErr xs ys s)) (by simp [results, Try.results13, go_sem, zeroC]) rfl ⟨?_, hb0⟩
    rw [atSpec_err HE.out]
  have e1 : (askErr xs ys s != 0) = false := by simp [he]
  have HE := Lib.hid he
  clear he
  rcases (show fitAt d r ∨ (d < -32) ∨ (-32 ≤ d ∧ 32 < d) ∨ (-32 ≤ d ∧ d ≤ 32 ∧ ¬ (0 ≤ r ∧ r ≤ 3)) by unfold fitAt; omega) with hf | hf
  · obtain ⟨a1, a2, a3, a4⟩ := hf
    have d1 : decide (0 ≤ r ∧ r ≤ 3) = true := by simp; omega
    go_enter Try.func13, Try.ntmps13
    go_wp2_with fail
    refine (check20_any _ _ _ _ _ _ _ _ (hx.keep hb0) (hy.keep hb0) hl hl2).mono ?_
    rintro e w' ⟨rfl, rfl⟩
    go_wp2_with fail
    refine (isRate_any _ _).mono ?_
    rintro e w' ⟨rfl, rfl⟩
    go_wp2_with fail
    refine (cellOf_any _ _ _ _ _ _ _ _ _ _ (hx.keep hb0) (hy.keep hb0) HE.out ⟨a1, a2⟩ ⟨a3, a4⟩).mono ?_
    rintro e w1 ⟨rfl, hb1⟩
    have hR := (Blk.new w 32 zeroCs).keep hb1
    have hB1 := bstep hb0 hb1
    have r0 := hR.frozen 0
    have r1 := hR.frozen 1
    have r2 := hR.frozen 2
    have r3 := hR.frozen 3
    have r4 := hR.frozen 4
    have q0 : w1.cell? ⟨w.heap.size, 0, none⟩ = some (.int .i64 0) := hR.cell 0
    have q1 : w1.cell? ⟨w.heap.size, 1, none⟩ = some (.int .i64 0) := hR.cell 1
    have q2 : w1.cell? ⟨w.heap.size, 2, none⟩ = some (.int .i64 0) := hR.cell 2
    have q3 : w1.cell? ⟨w.heap.size, 3, none⟩ = some (.int .i64 0) := hR.cell 3
    have q4 : w1.cell? ⟨w.heap.size, 4, none⟩ = some (.int .i64 0) := hR.cell 4
    have hg := hR.lt
    obtain ⟨C, hC⟩ : ∃ C, C = cellS xs ys d r s := ⟨_, rfl⟩
    rw [← hC]
    have HC := Lib.hid hC
    clear hC d1 hb1
    go_wp2
    refine bodyPost_ret (v := atV (C, 0)) (by simp [results, Try.results13, go_sem, q0, q1, q2, q3, q4]) rfl ⟨?_, ?_⟩
    · rw [atSpec_ok HE.out ⟨a1, a2, a3, a4⟩, HC.out]
    · exact ((((hB1.setCell (p := ⟨w.heap.size, 0, none⟩) (by simp) _).setCell (p := ⟨w.heap.size, 1, none⟩) (by simp) _).setCell (p := ⟨w.heap.size, 2, none⟩) (by simp) _).setCell (p := ⟨w.heap.size, 3, none⟩) (by simp) _).setCell (p := ⟨w.heap.size, 4, none⟩) (by simp) _
  have hn : ¬ fitAt d r := by unfold fitAt; omega
  rcases hf with hf | hf | hf
  · go_enter Try.func13, Try.ntmps13
    go_wp2_with fail
    refine (check20_any _ _ _ _ _ _ _ _ (hx.keep hb0) (hy.keep hb0) hl hl2).mono ?_
    rintro e w' ⟨rfl, rfl⟩
    go_wp2
    refine bodyPost_ret (v := atV (zeroC, 2)) (by simp [results, Try.results13, go_sem, zeroC]) rfl ⟨?_, hb0⟩
    rw [atSpec_no HE.out hn]
  · go_enter Try.func13, Try.ntmps13
    go_wp2_with fail
    refine (check20_any _ _ _ _ _ _ _ _ (hx.keep hb0) (hy.keep hb0) hl hl2).mono ?_
    rintro e w' ⟨rfl, rfl⟩
    go_wp2
    refine bodyPost_ret (v := atV (zeroC, 2)) (by simp [results, Try.results13, go_sem, zeroC]) rfl ⟨?_, hb0⟩
    rw [atSpec_no HE.out hn]
  · have d1 : decide (0 ≤ r ∧ r ≤ 3) = false := by simp; omega
    go_enter Try.func13, Try.ntmps13
    go_wp2_with fail
    refine (check20_any _ _ _ _ _ _ _ _ (hx.keep hb0) (hy.keep hb0) hl hl2).mono ?_
    rintro e w' ⟨rfl, rfl⟩
    go_wp2_with fail
    refine (isRate_any _ _).mono ?_
    rintro e w' ⟨rfl, rfl⟩
    go_wp2
    refine bodyPost_ret (v := atV (zeroC, 2)) (by simp [results, Try.results13, go_sem, zeroC]) rfl ⟨?_, hb0⟩
    rw [atSpec_no HE.out hn]

theorem refAt_any (A B : Option Addr) (c e : Nat) (xs ys : List Int) (d r s : Int) (w : World) (hx : RI .i64 w A xs) (hy : RI .i64 w B ys) (hl : xs.length ≤ 140737488355328) (hl2 : ys.length ≤ 140737488355328) :
    Calls Try.prog 14 #[.slice A xs.length c, .slice B ys.length e, .int .i64 d, .int .i64 r, .int .i64 s] w fun e w' => e = .returned (atV (atSpec xs ys d r s)) ∧ Below w.heap.size w w' := by
  have hb0 : Below w.heap.size w (w.alloc (.cells zeroCs 32)) := balloc (Below.refl _ _) _
  rcases (Decidable.em (askErr xs ys s = 0)).symm with he | he
  · have e1 : (askErr xs ys s != 0) = true := by simp [he]
    have HE := Lib.hid he
    clear he
    go_enter Try.func14, Try.ntmps14
    go_wp2_with fail
    refine (asked20_any _ _ _ _ _ _ _ _ (hx.keep hb0) (hy.keep hb0) hl hl2).mono ?_
    rintro e w' ⟨rfl, rfl⟩
    go_wp2_with fail
    refine (asked20_any _ _ _ _ _ _ _ _ (hx.keep hb0) (hy.keep hb0) hl hl2).mono ?_
    rintro e w' ⟨rfl, rfl⟩
    go_wp2
    refine bodyPost_ret (v := atV (zeroC, askErr xs ys s)) (by simp [results, Try.results14, go_sem, zeroC]) rfl ⟨?_, hb0⟩
    rw [atSpec_err HE.out]
  have e1 : (askErr xs ys s != 0) = false := by simp [he]
  have HE := Lib.hid he
  clear he
  rcases (show fitAt d r ∨ (d < -32) ∨ (-32 ≤ d ∧ 32 < d) ∨ (-32 ≤ d ∧ d ≤ 32 ∧ r < 0) ∨ (-32 ≤ d ∧ d ≤ 32 ∧ 0 ≤ r ∧ 3 < r) by unfold fitAt; omega) with hf | hf
  · obtain ⟨a1, a2, a3, a4⟩ := hf
    go_enter Try.func14, Try.ntmps14
    go_wp2_with fail
    refine (asked20_any _ _ _ _ _ _ _ _ (hx.keep hb0) (hy.keep hb0) hl hl2).mono ?_
    rintro e w' ⟨rfl, rfl⟩
    go_wp2_with fail
    refine (found_any _ _ _ _ _ _ _ _ _ _ (hx.keep hb0) (hy.keep hb0) HE.out ⟨a1, a2⟩ ⟨a3, a4⟩).mono ?_
    rintro e w1 ⟨rfl, hb1⟩
    have hR := (Blk.new w 32 zeroCs).keep hb1
    have hB1 := bstep hb0 hb1
    have r0 := hR.frozen 0
    have r1 := hR.frozen 1
    have r2 := hR.frozen 2
    have r3 := hR.frozen 3
    have r4 := hR.frozen 4
    have q0 : w1.cell? ⟨w.heap.size, 0, none⟩ = some (.int .i64 0) := hR.cell 0
    have q1 : w1.cell? ⟨w.heap.size, 1, none⟩ = some (.int .i64 0) := hR.cell 1
    have q2 : w1.cell? ⟨w.heap.size, 2, none⟩ = some (.int .i64 0) := hR.cell 2
    have q3 : w1.cell? ⟨w.heap.size, 3, none⟩ = some (.int .i64 0) := hR.cell 3
    have q4 : w1.cell? ⟨w.heap.size, 4, none⟩ = some (.int .i64 0) := hR.cell 4
    have hg := hR.lt
    obtain ⟨C, hC⟩ : ∃ C, C = cellS xs ys d r s := ⟨_, rfl⟩
    rw [← hC]
    have HC := Lib.hid hC
    clear hC hb1
    go_wp2
    refine bodyPost_ret (v := atV (C, 0)) (by simp [results, Try.results14, go_sem, q0, q1, q2, q3, q4]) rfl ⟨?_, ?_⟩
    · rw [atSpec_ok HE.out ⟨a1, a2, a3, a4⟩, HC.out]
    · exact ((((hB1.setCell (p := ⟨w.heap.size, 0, none⟩) (by simp) _).setCell (p := ⟨w.heap.size, 1, none⟩) (by simp) _).setCell (p := ⟨w.heap.size, 2, none⟩) (by simp) _).setCell (p := ⟨w.heap.size, 3, none⟩) (by simp) _).setCell (p := ⟨w.heap.size, 4, none⟩) (by simp) _
  have hn : ¬ fitAt d r := by unfold fitAt; omega
  rcases hf with hf | hf | hf | hf
  all_goals
    go_enter Try.func14, Try.ntmps14
    go_wp2_with fail
    refine (asked20_any _ _ _ _ _ _ _ _ (hx.keep hb0) (hy.keep hb0) hl hl2).mono ?_
    rintro e w' ⟨rfl, rfl⟩
    go_wp2
    refine bodyPost_ret (v := atV (zeroC, 2)) (by simp [results, Try.results14, go_sem, zeroC]) rfl ⟨?_, hb0⟩
    rw [atSpec_no HE.out hn]

theorem plist_ne {α : Type} {d : α} [DecidableEq α] {xs ys : List α} {k : Nat} (h : xs.getD k d ≠ ys.getD k d) : decide (xs = ys) = false := by
  simp only [decide_eq_false_iff_not]
  intro e
  exact h (by rw [e])
theorem plist_eq {α : Type} {d : α} {xs ys : List α} (hl : xs.length = ys.length) (h : ∀ j, j < xs.length → xs.getD j d = ys.getD j d) : xs = ys := by
  apply List.ext_getElem hl
  intro j h1 h2
  have := h j h1
  simpa [List.getD_eq_getElem?_getD, List.getElem?_eq_getElem h1, List.getElem?_eq_getElem h2] using this
theorem eqg_gauss : Try.prog.eqGuardType Try.prog.depth 23 = false := by kernel_rfl
theorem sih_gauss : Try.prog.stoodInHeld 23 = false := by kernel_rfl
theorem und_gauss : Try.prog.underlying 23 = some (.struct (Try.prog.fieldsOf 23)) := by kernel_rfl
theorem eq_gauss (x0 x1 y0 y1 : Int) (w : World) : (Op.equalIn 10000 23 (.agg #[.int .i64 x0, .int .i64 x1]) (.agg #[.int .i64 y0, .int .i64 y1])).run Try.prog w = .ok (x0 == y0 && x1 == y1) w := by
  have e3 := Try.underlying2
  rw [run_equalIn_agg _ _ _ _ _ und_gauss sih_gauss]
  by_cases h0 : x0 = y0 <;> by_cases h1 : x1 = y1 <;> simp [go_sem, Try.underlying23, h0, h1]
theorem pair_ne {a b : Int × Int} (h : (!a.1 == b.1) = true ∨ (!a.2 == b.2) = true) : a ≠ b := by
  intro e; subst e; simp at h
theorem pair_eq {a b : Int × Int} (h : (!a.1 == b.1) = false ∧ (!a.2 == b.2) = false) : a = b := by
  simp at h; exact Prod.ext h.1 h.2
theorem sameGauss_any (A B : Option Addr) (c d : Nat) (xs ys : List (Int × Int)) (w : World) (hx : RL w A xs) (hy : RL w B ys) (hl : xs.length ≤ 140737488355328) (hl2 : ys.length ≤ 140737488355328) :
    Calls Try.prog 17 #[.slice A xs.length c, .slice B ys.length d] w fun e w' => e = .returned (.bool (decide (xs = ys))) ∧ ∃ n, w' = w.drewN n := by
  by_cases hlen : xs.length = ys.length
  · have h2 : ((xs.length : Int) != ys.length) = false := by simp; omega
    have hle : xs.length ≤ ys.length := by omega
    have HL := Lib.hid hlen
    clear hlen
    go_enter Try.func17, Try.ntmps17
    go_wp2
    go_loopg [5] xs.length (fun gk i wr => ∃ k n : Nat, k + gk = xs.length ∧ i = .int .i64 k ∧ wr = w.drewN n ∧ Hid (∀ j, j < k → xs.getD j (0, 0) = ys.getD j (0, 0)))
    case atStart => exact ⟨0, 0, by omega, rfl, rfl, Lib.hid (by simp)⟩
    case round =>
      obtain ⟨k, n, hk, rfl, rfl, hall⟩ := hrel
      have hk' : k ≤ xs.length := by omega
      have HK := Lib.hid hk
      clear hk
      by_cases hlt : k < xs.length
      · obtain ⟨b, off, rfl, _, hc, hd⟩ := hx.at_ hlt
        have hlt2 := Nat.lt_of_lt_of_le hlt hle
        obtain ⟨b2, off2, rfl, _, hc2, hd2⟩ := hy.at_ hlt2
        have g1 := eqg_gauss
        have g2 := eq_gauss
        go_wp2
        go_quiet (fail)
        go_wp2
        · have hv : (!xs[k].1 == ys[k].1) = true ∨ (!xs[k].2 == ys[k].2) = true := by assumption
          go_ret
          exact ⟨ret_bool (plist_ne (k := k) (d := (0, 0)) (by rw [getD_lt _ _ hlt, getD_lt _ _ hlt2]; exact pair_ne hv)).symm, n + nq, by first | rfl | rw [World.drewN_drewN]⟩
        · have hv : (!xs[k].1 == ys[k].1) = false ∧ (!xs[k].2 == ys[k].2) = false := by assumption
          go_roundg (gk - 1)
          case rel => exact ⟨k + 1, _, by have := HK.out; omega, by go_num, rfl, Lib.hid (all_lt_succ hall.out (by rw [getD_lt _ _ hlt, getD_lt _ _ hlt2]; exact pair_eq hv))⟩
          case measure => have := HK.out; omega
      · go_wp2
        go_ret
        refine ⟨ret_bool ?_, _, rfl⟩
        symm
        rw [decide_eq_true_eq]
        exact plist_eq HL.out (fun j hj => hall.out j (by omega))
  · have h2 : ((xs.length : Int) != ys.length) = true := by simp; omega
    go_enter Try.func17, Try.ntmps17
    go_wp2
    go_ret
    exact ⟨ret_bool (by symm; simp; intro h; exact hlen (by rw [h])), 0, rfl⟩
end Go.Proofs.Ytnejmgnbamajdaa
