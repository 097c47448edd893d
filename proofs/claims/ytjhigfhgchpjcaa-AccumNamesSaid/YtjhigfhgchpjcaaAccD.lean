/-
  Contracts: counts: value, plus, countOf.
-/
import Derived.Test.YtjhigfhgchpjcaaAccC
import Derived.IntWalk
namespace Go.Proofs.Ytjhigfhgchpjcaa
open Go.RowKit Runs Lagc
set_option linter.unusedVariables false
set_option linter.unusedSimpArgs false

theorem value_any (c : Int × Int) (w : World) (h : -1000000000 ≤ c.1 ∧ c.1 < 1000000000) (h2 : 0 ≤ c.2 ∧ c.2 < 1000000000) :
    Calls Try.prog 44 #[.agg #[.int .i64 c.1, .int .i64 c.2]] w fun e w' => e = .returned (.int .i64 (val c)) ∧ Below w.heap.size w w' := by
  go_enter Try.func44, Try.ntmps44
  go_wp2
  go_ret
  exact ⟨rfl, balloc (Below.refl _ _) _⟩
theorem tdm (v : Int) : (0 ≤ v ∧ v.tdiv 1000000000 = v / 1000000000 ∧ v.tmod 1000000000 = v % 1000000000) ∨ (v < 0 ∧ v.tdiv 1000000000 = -(-v / 1000000000) ∧ v.tmod 1000000000 = -(-v % 1000000000)) := by
  rcases Int.lt_or_le v 0 with h | h
  · refine .inr ⟨h, ?_, ?_⟩
    · rw [← Int.tdiv_eq_ediv_of_nonneg (by omega), Int.neg_tdiv, Int.neg_neg]
    · rw [← Int.tmod_eq_emod_of_nonneg (by omega), Int.neg_tmod, Int.neg_neg]
  · exact .inl ⟨h, Int.tdiv_eq_ediv_of_nonneg h, Int.tmod_eq_emod_of_nonneg h⟩
theorem cnt_neg {v : Int} (h : -1000000000000000000 ≤ v ∧ v ≤ 1000000000000000000) (h2 : v.tmod 1000000000 < 0) : wrap64 (v.tdiv 1000000000 - 1) = (cnt v).1 ∧ wrap64 (v.tmod 1000000000 + 1000000000) = (cnt v).2 := by
  unfold cnt
  rcases tdm v with ⟨h3, h4, h5⟩ | ⟨h3, h4, h5⟩
  · omega
  · rw [IntWalk.wrap64_in _ (by omega), IntWalk.wrap64_in _ (by omega)]
    simp only []
    omega
theorem cnt_pos {v : Int} (h2 : 0 ≤ v.tmod 1000000000) : v.tdiv 1000000000 = (cnt v).1 ∧ v.tmod 1000000000 = (cnt v).2 := by
  unfold cnt
  rcases tdm v with ⟨h3, h4, h5⟩ | ⟨h3, h4, h5⟩
  · exact ⟨h4, h5⟩
  · simp only []
    omega
theorem countOf_any (v : Int) (w : World) (h : -1000000000000000000 ≤ v ∧ v ≤ 1000000000000000000) :
    Calls Try.prog 34 #[.int .i64 v] w fun e w' => e = .returned (.agg #[.int .i64 (cnt v).1, .int .i64 (cnt v).2]) ∧ Below w.heap.size w w' := by
  go_enter Try.func34, Try.ntmps34
  go_wp2
  · have hm : v.tmod 1000000000 < 0 := by assumption
    obtain ⟨e1, e2⟩ := cnt_neg h hm
    rw [e1, e2]
    exact bodyPost_ret (v := .agg #[.int .i64 (cnt v).1, .int .i64 (cnt v).2]) (by simp [results, Try.results34, go_sem]) rfl ⟨rfl, balloc (Below.refl _ _) _⟩
  · have hm : 0 ≤ v.tmod 1000000000 := by assumption
    obtain ⟨e1, e2⟩ := cnt_pos hm
    rw [e1, e2]
    exact bodyPost_ret (v := .agg #[.int .i64 (cnt v).1, .int .i64 (cnt v).2]) (by simp [results, Try.results34, go_sem]) rfl ⟨rfl, balloc (Below.refl _ _) _⟩
def PlusPost (c d : Int × Int) (w : World) (e : Ending) (w' : World) : Prop := e = .returned (.tuple #[.agg #[.int .i64 (addC c d).1, .int .i64 (addC c d).2], .bool (inR (addC c d))]) ∧ Below w.heap.size w w'
theorem PlusPost.mk {c d : Int × Int} {w w' : World} {x y : Int} {b : Bool} (h2 : 0 ≤ c.2 ∧ c.2 < 1000000000) (k2 : 0 ≤ d.2 ∧ d.2 < 1000000000) (hv : x * 1000000000 + y = val c + val d) (hy : 0 ≤ y ∧ y < 1000000000) (hb : b = inR (x, y)) (hB : Below w.heap.size w w') : PlusPost c d w (.returned (.tuple #[.agg #[.int .i64 x, .int .i64 y], .bool b])) w' := by
  have e : addC c d = (x, y) := by
    unfold addC
    rw [← hv]
    exact cnt_val (c := (x, y)) hy.1 hy.2
  refine ⟨?_, hB⟩
  rw [e, hb]
set_option maxHeartbeats 400000 in
theorem plus_any (c d : Int × Int) (w : World) (h : -1000000000 ≤ c.1 ∧ c.1 < 1000000000) (h2 : 0 ≤ c.2 ∧ c.2 < 1000000000) (k : -1000000000 ≤ d.1 ∧ d.1 < 1000000000) (k2 : 0 ≤ d.2 ∧ d.2 < 1000000000) :
    Calls Try.prog 59 #[.agg #[.int .i64 c.1, .int .i64 c.2], .agg #[.int .i64 d.1, .int .i64 d.2]] w (PlusPost c d w) := by
  go_enter Try.func59, Try.ntmps59
  go_wp2
  go_quiet (fail)
  by_cases hc : 1000000000 ≤ c.2 + d.2
  · by_cases hr : -1000000000 ≤ c.1 + d.1 + 1
    all_goals
      go_wp2
      refine bodyPost_ret (v := .tuple #[.agg #[.int .i64 (c.1 + d.1 + 1), .int .i64 (c.2 + d.2 - 1000000000)], _]) (by simp [results, Try.results59, go_sem]; rfl) rfl (PlusPost.mk h2 k2 (by unfold val; omega) (by omega) ?_ ?_)
      · simp [inR]; omega
      · repeat (first | with_reducible exact Below.refl _ _ | assumption | with_reducible refine below_drewN ?_ _ | with_reducible refine Below.drew ?_ | with_reducible refine balloc ?_ _ | (with_reducible refine Below.setCell ?_ ?_ _; rotate_left; focus (first | (simp; done) | (simp; omega) | omega)))
  · by_cases hr : -1000000000 ≤ c.1 + d.1
    all_goals
      go_wp2
      refine bodyPost_ret (v := .tuple #[.agg #[.int .i64 (c.1 + d.1), .int .i64 (c.2 + d.2)], _]) (by simp [results, Try.results59, go_sem]; rfl) rfl (PlusPost.mk h2 k2 (by unfold val; omega) (by omega) ?_ ?_)
      · simp [inR]; omega
      · repeat (first | with_reducible exact Below.refl _ _ | assumption | with_reducible refine below_drewN ?_ _ | with_reducible refine Below.drew ?_ | with_reducible refine balloc ?_ _ | (with_reducible refine Below.setCell ?_ ?_ _; rotate_left; focus (first | (simp; done) | (simp; omega) | omega)))
end Go.Proofs.Ytjhigfhgchpjcaa
