/-
  Contracts of the reference: New, Add where nothing is wrong with its arguments (the accumulator that it makes).
-/
import Derived.Test.YtdekbncpodjgnaaAccX
import Derived.Test.YtdekbncpodjgnaaRegTwo
namespace Go.Proofs.Ytdekbncpodjgnaa
open Go.RowKit Runs Lagc Reg
set_option linter.unusedVariables false
set_option linter.unusedSimpArgs false

def zF (_ : Nat) : Int × Int := (0, 0)
theorem fullL_z (n : Nat) : fullL zF n = List.replicate n (0, 0) := by
  apply List.ext_getElem (by simp [fullL])
  intro i h1 h2
  simp [fullL, zF]
set_option maxRecDepth 20000 in
set_option maxHeartbeats 2000000 in
theorem refNew_any (m : Int) (w : World) (h : -9223372036854775808 ≤ m ∧ m ≤ 9223372036854775807) :
    Calls Try.prog 45 #[.int .i64 m] w (RetA w (newS m)) := by
  have hk3 := Blk.new w 39 #[.slice .none 0 0, .slice .none 0 0, .slice .none 0 0]
  have q0 : World.cell? (w.alloc (.cells #[.slice .none 0 0, .slice .none 0 0, .slice .none 0 0] 39)) ⟨w.heap.size, 0, none⟩ = some (.slice .none 0 0) := hk3.cell 0
  have f0 := hk3.frozen 0
  have q1 : World.cell? (w.alloc (.cells #[.slice .none 0 0, .slice .none 0 0, .slice .none 0 0] 39)) ⟨w.heap.size, 1, none⟩ = some (.slice .none 0 0) := hk3.cell 1
  have f1 := hk3.frozen 1
  have q2 : World.cell? (w.alloc (.cells #[.slice .none 0 0, .slice .none 0 0, .slice .none 0 0] 39)) ⟨w.heap.size, 2, none⟩ = some (.slice .none 0 0) := hk3.cell 2
  have f2 := hk3.frozen 2
  have fl := hk3.lt
  by_cases h1 : m < 0
  · have HR := Lib.hid (newS_no (.inl h1))
    go_enter Try.func45, Try.ntmps45
    go_wp2
    exact bodyPost_ret (v := .tuple #[.agg #[.slice .none 0 0, .slice .none 0 0, .slice .none 0 0], .int .i64 2]) (by simp [results, Try.results45, go_sem, q0, q1, q2, f0, f1, f2, fl]) rfl (RetA.no HR.out (by (repeat (first | with_reducible exact Below.refl _ _ | assumption | with_reducible refine below_drewN ?_ _ | with_reducible refine Below.drew ?_ | with_reducible refine balloc ?_ _ | (with_reducible refine Below.setCell ?_ ?_ _; rotate_left; focus (first | (simp; done) | (simp; omega) | omega))))))
  by_cases h2 : 255 < m
  · have HR := Lib.hid (newS_no (.inr h2))
    go_enter Try.func45, Try.ntmps45
    go_wp2
    exact bodyPost_ret (v := .tuple #[.agg #[.slice .none 0 0, .slice .none 0 0, .slice .none 0 0], .int .i64 2]) (by simp [results, Try.results45, go_sem, q0, q1, q2, f0, f1, f2, fl]) rfl (RetA.no HR.out (by (repeat (first | with_reducible exact Below.refl _ _ | assumption | with_reducible refine below_drewN ?_ _ | with_reducible refine Below.drew ?_ | with_reducible refine balloc ?_ _ | (with_reducible refine Below.setCell ?_ ?_ _; rotate_left; focus (first | (simp; done) | (simp; omega) | omega))))))
  obtain ⟨M, rfl⟩ : ∃ M : Nat, m = M := ⟨m.toNat, by omega⟩
  have HR := Lib.hid (newS_yes (m := M) (by omega))
  obtain ⟨i0, hi0, hz0, hz1, hz2⟩ := info_parts info_count
  obtain ⟨w1, hw1⟩ : ∃ w1, w1 = w.alloc (.cells #[.slice .none 0 0, .slice .none 0 0, .slice .none 0 0] 39) := ⟨_, rfl⟩
  have hs1 : w1.heap.size = w.heap.size + 1 := by rw [hw1]; simp
  have hB1 : Below w.heap.size w w1 := by rw [hw1]; exact balloc (Below.refl _ _) _
  obtain ⟨g, hg⟩ : ∃ g, g = w.heap.size + 1 := ⟨_, rfl⟩
  have HS := Lib.hid hs1
  have HW := Lib.hid hw1
  have HGG := Lib.hid hg
  have hF0 : FillG (w1.alloc (.cells #[.slice .none 0 0, .slice .none 0 0, .slice .none 0 0] 39)) g (g + 1) (.slice .none 0 0) zF zF (.slice .none 0 0) (.slice .none 0 0) 0 0 := ⟨Blk.newAt _ _ (by rw [hs1, hg]), World.ownsRow_nil _ _ _ _, World.ownsRow_nil _ _ _ _, (by intro h h2; cases h2), by omega⟩
  clear hk3 q0 q1 q2 f0 f1 f2 fl hw1 hs1 hg
  go_enter Try.func45, Try.ntmps45
  go_wp2
  rw [← HW.out, ← HGG.out]
  go_loopg [5] (2 * M + 1) (fun gk i wr => ∃ k : Nat, ∃ vS vN : Value, k + gk = 2 * M + 1 ∧ i = .int .i64 k ∧ FillG wr g (g + 1) (.slice .none 0 0) zF zF vS vN k k ∧ Below g w1 wr)
  case atStart => exact ⟨0, _, _, by omega, rfl, hF0, by have h9 := HS.out; have h8 := HGG.out; rw [h8, ← h9]; exact balloc (Below.refl _ _) _⟩
  case round =>
    obtain ⟨k, vS, vN, hk, rfl, hF, hb⟩ := hrel
    have hk' : k ≤ 2 * M + 1 := by omega
    have HK := Lib.hid hk
    clear hk
    have hgl := hF.blk.lt
    by_cases hlt : k < 2 * M + 1
    · have q0 : World.cell? wr ⟨g, 0, none⟩ = some (vS) := hF.blk.cell 0
      have f0 := hF.blk.frozen 0
      have q1 : World.cell? wr ⟨g, 1, none⟩ = some (vN) := hF.blk.cell 1
      have f1 := hF.blk.frozen 1
      have q2 : World.cell? wr ⟨g, 2, none⟩ = some (.slice .none 0 0) := hF.blk.cell 2
      have f2 := hF.blk.frozen 2
      have fl := hF.blk.lt
      go_wp2_with (first
        | (at_builtin; refine wpList_append_lies _ rfl (.tmp 21) (.tmp 23) 36 rfl (g + 1) 97 i0 _ 2 16 Try.underlying36 hi0 hz0 hz1 hz2 rfl (by decide) vS k _ rfl (hF.s.alloc _) ⟨wr.heap.size, 0, none⟩ 1 1 (encP (0, 0)) rfl rfl (encP_news wr (0, 0) _) (encP_one _) (by omega) (by unfold maxLen; omega) (by omega) (by simp; omega) (wr.heap.size + 1) (by simp) ?_; intro g4 c4 w4 hown4 hgrow4 hat4 hlt4; have hF2 := hF.stepS (Below.refl _ _) hown4 rfl (by rfl) hgrow4 hat4; have hb4 := step_below (i := 0) (u := .slice (some ⟨g4, 0, none⟩) (k + 1) c4) hb hgl (by rfl) (by rfl) (by rfl) (by rfl) hF.s hgrow4; have hK4 := (hF.blk.alloc (.cells #[.int .i64 0, .int .i64 0] 97)).grown hgrow4 (blk_ne_own hF.s (.inl (by omega))); have k0 : w4.cell? ⟨g, 0, none⟩ = some vS := hK4.cell 0; have k1 : w4.cell? ⟨g, 1, none⟩ = some vN := hK4.cell 1; have kf0 := hK4.frozen 0; have kf1 := hK4.frozen 1; have kl := hK4.lt; clear q0 q1 q2 f0 f1 f2 fl)
        | (at_builtin; refine wpList_append_lies _ rfl (.tmp 27) (.tmp 29) 36 rfl (g + 1) 97 i0 _ 2 16 Try.underlying36 hi0 hz0 hz1 hz2 rfl (by decide) vN k _ rfl (hF2.n.alloc _) ⟨w4.heap.size, 0, none⟩ 1 1 (encP (0, 0)) rfl rfl (World.news_of_block (cs := (encP (0, 0)).toArray) (t := 97) (fr := (0, 0)) (Blk.newAt (w := w4.setCell ⟨g, 0, none⟩ (.slice (some ⟨g4, 0, none⟩) (k + 1) c4)) (g := w4.heap.size) 97 _ (by simp))) (encP_one _) (by omega) (by unfold maxLen; omega) (by omega) (by have := hF2.blk.lt; simp at this ⊢; omega) (w4.heap.size + 1) (by simp) ?_; intro g5 c5 w5 hown5 hgrow5 hat5 hlt5; have hF3 := hF2.stepN (Below.refl _ _) hown5 rfl (by rfl) hgrow5 (by simpa using hat5); have hb5 := step_below (i := 1) (u := .slice (some ⟨g5, 0, none⟩) (k + 1) c5) hb4 hF2.blk.lt (by rfl) (by rfl) (by rfl) (by rfl) hF2.n hgrow5; have hK5 := (hF2.blk.alloc (.cells #[.int .i64 0, .int .i64 0] 97)).grown hgrow5 (blk_ne_own hF2.n (.inl (by omega))); have m0 : w5.cell? ⟨g, 1, none⟩ = some vN := hK5.cell 1; have mf := hK5.frozen 1; have ml := hK5.lt)
        | fail)
      go_roundg (gk - 1)
      case rel => exact ⟨k + 1, _, _, by have := HK.out; omega, by go_num, hF3, hb5⟩
      case measure => have := HK.out; omega
    · obtain rfl : k = 2 * M + 1 := by omega
      obtain ⟨A1, x1, rfl⟩ := own_shape hF.s
      obtain ⟨A2, x2, rfl⟩ := own_shape hF.n
      have q0 : World.cell? wr ⟨g, 0, none⟩ = some (.slice A1 (2 * M + 1) x1) := hF.blk.cell 0
      have f0 := hF.blk.frozen 0
      have q1 : World.cell? wr ⟨g, 1, none⟩ = some (.slice A2 (2 * M + 1) x2) := hF.blk.cell 1
      have f1 := hF.blk.frozen 1
      have q2 : World.cell? wr ⟨g, 2, none⟩ = some (.slice .none 0 0) := hF.blk.cell 2
      have f2 := hF.blk.frozen 2
      have fl := hF.blk.lt
      have hk3 : Blk wr w.heap.size 39 #[.slice .none 0 0, .slice .none 0 0, .slice .none 0 0] := (show Blk w1 w.heap.size _ _ by rw [HW.out]; exact Blk.new _ _ _).below hb (by have := HGG.out; omega)
      have p0 : World.cell? wr ⟨w.heap.size, 0, none⟩ = some (.slice .none 0 0) := hk3.cell 0
      have pf0 := hk3.frozen 0
      have p1 : World.cell? wr ⟨w.heap.size, 1, none⟩ = some (.slice .none 0 0) := hk3.cell 1
      have pf1 := hk3.frozen 1
      have p2 : World.cell? wr ⟨w.heap.size, 2, none⟩ = some (.slice .none 0 0) := hk3.cell 2
      have pf2 := hk3.frozen 2
      have pfl := hk3.lt
      have hgw : g = w.heap.size + 1 := HGG.out
      have hbw : Below w.heap.size w wr := hB1.trans (hb.mono (by omega))
      have hr1 : RL wr A1 (List.replicate (2 * M + 1) (0, 0)) := by rw [← fullL_z]; exact own_RL_at (fullL_len _ _) hF.s
      have hr2 : RL wr A2 (List.replicate (2 * M + 1) (0, 0)) := by rw [← fullL_z]; exact own_RL_at (fullL_len _ _) hF.n
      have f1' := own_fresh hF.s
      have f2' := own_fresh hF.n
      have HGW := Lib.hid hgw
      have hne : ¬ g = w.heap.size := by omega
      clear hgw
      go_wp2
      refine bodyPost_ret (v := .tuple #[.agg #[.slice A1 (2 * M + 1) x1, .slice A2 (2 * M + 1) x2, .slice .none 0 0], .int .i64 0]) (by simp [results, Try.results45, go_sem, p0, p1, p2, pf0, pf1, pf2, pfl]) rfl (RetA.yes HR.out (by simp) (by simp) rfl ⟨?_, f1'.mono (by have := HGW.out; omega)⟩ ⟨?_, f2'.mono (by have := HGW.out; omega)⟩ ⟨RL.nil, Fresh.none⟩ (by (repeat (first | with_reducible exact Below.refl _ _ | assumption | with_reducible refine below_drewN ?_ _ | with_reducible refine Below.drew ?_ | with_reducible refine balloc ?_ _ | (with_reducible refine Below.setCell ?_ ?_ _; rotate_left; focus (first | (simp; done) | (simp; omega) | omega))))))
      · repeat (first | exact hr1 | (refine RL.far ?_ f1' (by have := HGW.out; simp; omega) _))
      · repeat (first | exact hr2 | (refine RL.far ?_ f2' (by have := HGW.out; simp; omega) _))
end Go.Proofs.Ytdekbncpodjgnaa
