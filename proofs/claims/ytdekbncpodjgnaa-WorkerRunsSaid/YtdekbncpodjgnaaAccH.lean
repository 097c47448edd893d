/-
  Contracts: accum.Merge, New, Times.
-/
import Derived.Test.YtdekbncpodjgnaaAccG
namespace Go.Proofs.Ytdekbncpodjgnaa
open Go.RowKit Runs Lagc
set_option linter.unusedVariables false
set_option linter.unusedSimpArgs false

theorem RetA.all {w w' : World} {r : Acc × Int} {S N G : Option Addr} {c1 c2 c3 : Nat} {x : Int} (hx : r.2 = x) (h : RA w' S N G r.1) (hf : FA w.heap.size S N G) (hb : Below w.heap.size w w') : RetA w r (.returned (.tuple #[.agg #[.slice S r.1.s.length c1, .slice N r.1.n.length c2, .slice G r.1.g.length c3], .int .i64 x])) w' := by
  subst hx; exact ⟨S, N, G, c1, c2, c3, rfl, h, hf, hb⟩
theorem mergeS_e1 {a b : Acc} (h : accErr a ≠ 0) : mergeS a b = (.none, accErr a) := by unfold mergeS; rw [if_pos h]
theorem mergeS_e2 {a b : Acc} (h : accErr a = 0) (h2 : accErr b ≠ 0) : mergeS a b = (.none, accErr b) := by unfold mergeS; rw [if_neg (by simpa using h), if_pos h2]

/-! ### New -/
theorem newS_no {m : Int} (h : m < 0 ∨ 255 < m) : newS m = (.none, 2) := by unfold newS; rw [if_pos h]
theorem newS_yes {m : Nat} (h : m ≤ 255) : newS (m : Int) = (⟨List.replicate (2 * m + 1) (0, 0), List.replicate (2 * m + 1) (0, 0), []⟩, 0) := by
  unfold newS; rw [if_neg (by omega)]; simp
set_option maxHeartbeats 1000000 in
theorem accNew_any (m : Int) (w : World) (h : -9223372036854775808 ≤ m ∧ m ≤ 9223372036854775807) :
    Calls Try.prog 43 #[.int .i64 m] w (RetA w (newS m)) := by
  have hk3 := Blk.new w 39 #[.slice .none 0 0, .slice .none 0 0, .slice .none 0 0]
  have q0 : World.cell? (w.alloc (.cells #[.slice .none 0 0, .slice .none 0 0, .slice .none 0 0] 39)) ⟨w.heap.size, 0, none⟩ = some (.slice .none 0 0) := hk3.cell 0
  have f0 := hk3.frozen 0
  have q1 : World.cell? (w.alloc (.cells #[.slice .none 0 0, .slice .none 0 0, .slice .none 0 0] 39)) ⟨w.heap.size, 1, none⟩ = some (.slice .none 0 0) := hk3.cell 1
  have f1 := hk3.frozen 1
  have q2 : World.cell? (w.alloc (.cells #[.slice .none 0 0, .slice .none 0 0, .slice .none 0 0] 39)) ⟨w.heap.size, 2, none⟩ = some (.slice .none 0 0) := hk3.cell 2
  have f2 := hk3.frozen 2
  have fl := hk3.lt
  by_cases h1 : m < 0
  · have HR := Lib.hid (newS_no (.inl h1))
    go_enter Try.func43, Try.ntmps43
    go_wp2
    exact bodyPost_ret (v := .tuple #[.agg #[.slice .none 0 0, .slice .none 0 0, .slice .none 0 0], .int .i64 2]) (by simp [results, Try.results43, go_sem, q0, q1, q2, f0, f1, f2, fl]) rfl (RetA.no HR.out (by (repeat (first | with_reducible exact Below.refl _ _ | assumption | with_reducible refine below_drewN ?_ _ | with_reducible refine Below.drew ?_ | with_reducible refine balloc ?_ _ | (with_reducible refine Below.setCell ?_ ?_ _; rotate_left; focus (first | (simp; done) | (simp; omega) | omega))))))
  by_cases h2 : 255 < m
  · have HR := Lib.hid (newS_no (.inr h2))
    go_enter Try.func43, Try.ntmps43
    go_wp2
    exact bodyPost_ret (v := .tuple #[.agg #[.slice .none 0 0, .slice .none 0 0, .slice .none 0 0], .int .i64 2]) (by simp [results, Try.results43, go_sem, q0, q1, q2, f0, f1, f2, fl]) rfl (RetA.no HR.out (by (repeat (first | with_reducible exact Below.refl _ _ | assumption | with_reducible refine below_drewN ?_ _ | with_reducible refine Below.drew ?_ | with_reducible refine balloc ?_ _ | (with_reducible refine Below.setCell ?_ ?_ _; rotate_left; focus (first | (simp; done) | (simp; omega) | omega))))))
  obtain ⟨M, rfl⟩ : ∃ M : Nat, m = M := ⟨m.toNat, by omega⟩
  have HR := Lib.hid (newS_yes (m := M) (by omega))
  obtain ⟨i0, hi0, hz0, hz1, hz2⟩ := info_parts info_count
  have hmk := mk_row (P := Try.prog) 36 97 Try.underlying36 hi0 hz0 hz1 hz2 encP encP_len (by omega) (0, 0) rfl (2 * M + 1) (by omega) (by omega)
  have hcast : (2 : Int) * (M : Int) + 1 = ((2 * M + 1 : Nat) : Int) := by omega
  rw [← hcast] at hmk
  clear hcast
  go_enter Try.func43, Try.ntmps43
  go_wp2
  go_region
  all_goals go_wp2
  · refine bodyPost_ret (v := .tuple #[.agg #[.slice (some ⟨w.heap.size + 1, 0, none⟩) (2 * M + 1) (2 * M + 1), .slice (some ⟨w.heap.size + 2, 0, none⟩) (2 * M + 1) (2 * M + 1), .slice .none 0 0], .int .i64 0]) (by simp [results, Try.results43, go_sem, q0, q1, q2, f0, f1, f2, fl]) rfl (RetA.yes HR.out (by simp) (by simp) rfl ⟨?_, Fresh.mk (by omega)⟩ ⟨?_, Fresh.mk (by omega)⟩ ⟨RL.nil, Fresh.none⟩ (by (repeat (first | with_reducible exact Below.refl _ _ | assumption | with_reducible refine below_drewN ?_ _ | with_reducible refine Below.drew ?_ | with_reducible refine balloc ?_ _ | (with_reducible refine Below.setCell ?_ ?_ _; rotate_left; focus (first | (simp; done) | (simp; omega) | omega))))))
    · repeat (refine RL.far ?_ (base := w.heap.size + 1) (Fresh.mk (by omega)) (by simp) _)
      refine blk_RL (e := 97) ?_
      repeat (first | with_reducible refine Blk.drew ?_ | with_reducible refine Blk.drewN ?_ _ | (with_reducible refine Blk.newAt _ _ ?_; simp; done) | with_reducible refine Blk.alloc ?_ _)
    · repeat (refine RL.far ?_ (base := w.heap.size + 1) (Fresh.mk (by omega)) (by simp) _)
      refine blk_RL (e := 97) ?_
      repeat (first | with_reducible refine Blk.drew ?_ | with_reducible refine Blk.drewN ?_ _ | (with_reducible refine Blk.newAt _ _ ?_; simp; done) | with_reducible refine Blk.alloc ?_ _)
  · refine bodyPost_ret (v := .tuple #[.agg #[.slice (some ⟨w.heap.size + 2, 0, none⟩) (2 * M + 1) (2 * M + 1), .slice (some ⟨w.heap.size + 1, 0, none⟩) (2 * M + 1) (2 * M + 1), .slice .none 0 0], .int .i64 0]) (by simp [results, Try.results43, go_sem, q0, q1, q2, f0, f1, f2, fl]) rfl (RetA.yes HR.out (by simp) (by simp) rfl ⟨?_, Fresh.mk (by omega)⟩ ⟨?_, Fresh.mk (by omega)⟩ ⟨RL.nil, Fresh.none⟩ (by (repeat (first | with_reducible exact Below.refl _ _ | assumption | with_reducible refine below_drewN ?_ _ | with_reducible refine Below.drew ?_ | with_reducible refine balloc ?_ _ | (with_reducible refine Below.setCell ?_ ?_ _; rotate_left; focus (first | (simp; done) | (simp; omega) | omega))))))
    · repeat (refine RL.far ?_ (base := w.heap.size + 1) (Fresh.mk (by omega)) (by simp) _)
      refine blk_RL (e := 97) ?_
      repeat (first | with_reducible refine Blk.drew ?_ | with_reducible refine Blk.drewN ?_ _ | (with_reducible refine Blk.newAt _ _ ?_; simp; done) | with_reducible refine Blk.alloc ?_ _)
    · repeat (refine RL.far ?_ (base := w.heap.size + 1) (Fresh.mk (by omega)) (by simp) _)
      refine blk_RL (e := 97) ?_
      repeat (first | with_reducible refine Blk.drew ?_ | with_reducible refine Blk.drewN ?_ _ | (with_reducible refine Blk.newAt _ _ ?_; simp; done) | with_reducible refine Blk.alloc ?_ _)

/-! ### Times -/
def timP (w : World) (r : Int × Int) (e : Ending) (w' : World) : Prop := e = .returned (.tuple #[.int .i64 r.1, .int .i64 r.2]) ∧ Below w.heap.size w w'
theorem timS_no {a : Acc} (h : accErr a ≠ 0) : timS a = (0, accErr a) := by unfold timS; rw [if_pos h]
theorem timS_yes {a : Acc} (h : accErr a = 0) : timS a = (tot a.g, 0) := by unfold timS; rw [if_neg (by simpa using h)]
theorem tot_bound {l : List G} (h : ∀ g ∈ l, okG g) : 0 ≤ tot l ∧ tot l ≤ 1000000000 * l.length := by
  induction l with
  | nil => simp [tot_nil]
  | cons g r ih =>
    have h1 := h g (by simp)
    have h2 := ih (fun x hx => h x (by simp [hx]))
    unfold okG at h1
    rw [tot_cons]
    simp only [List.length_cons]
    omega
theorem tot_snoc {l : List G} {k : Nat} (hk : k < l.length) : tot (l.take (k + 1)) = tot (l.take k) + (l.getD k (0, 0)).2 := by
  rw [List.take_succ_eq_append_getElem hk, tot_append, tot_one, getD_lt _ _ hk]
end Go.Proofs.Ytdekbncpodjgnaa
