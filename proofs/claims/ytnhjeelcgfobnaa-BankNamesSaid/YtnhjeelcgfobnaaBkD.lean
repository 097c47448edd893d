/-
  Layer 12 (bank), contracts: each, Keep, Add.
-/
import Derived.Test.YtnhjeelcgfobnaaBkC
import Derived.Test.YtnhjeelcgfobnaaLolR
import Derived.Deep.Cut
import Derived.Deep.DeepCutAuto
import Derived.Deep.RegionLaw
import Derived.Deep.DrawnRows
import Derived.Deep.QuietTactic
namespace Go.Proofs.Ytnhjeelcgfobnaa
open Go.RowKit Num
set_option maxRecDepth 8000
set_option linter.unusedVariables false
set_option linter.unusedSimpArgs false
namespace Bk
open Lol

/-- A grid of given numbers. -/
def grd (F : Nat → Nat → Int) (n N : Nat) : List (List Int) := fullL (fun t => fullL (F t) n) N
theorem grd_len (F : Nat → Nat → Int) (n N : Nat) : (grd F n N).length = N := fullL_len _ _
theorem grd_succ (F : Nat → Nat → Int) (n N : Nat) : grd F n (N + 1) = grd F n N ++ [fullL (F N) n] := fullL_succ _ _
set_option maxHeartbeats 4000000 in
theorem eachKeep_any (gA gB : Nat) (F : Nat → Nat → Int) (A : Option Addr) (c : Nat) (b : List (List Int)) (w : World) (hN : b.length ≤ 256) (hn : wid b ≤ 16) (hx : RLL .i64 w A b)
    (hf : ∀ W t k, Below w.heap.size w W → t < b.length → k < wid b → Calls Try.prog 50 #[.int .i64 (t : Int), .int .i64 (k : Int), .pointer (some ⟨gA, 0, none⟩), .pointer (some ⟨gB, 0, none⟩)] W fun e w' => e = .returned (.int .i64 (F t k)) ∧ ∃ q, w' = W.drewN q) :
    Calls Try.prog 33 #[.slice A b.length c, .func (.func 50) #[] #[.pointer (some ⟨gA, 0, none⟩), .pointer (some ⟨gB, 0, none⟩)]] w fun e w' => ∃ g raws, e = .returned (.slice (some ⟨g, 0, none⟩) b.length b.length) ∧ w.heap.size ≤ g ∧ Blk w' g 31 raws.toArray ∧ Grid (g + 1) w'.heap.size w' raws (grd F (wid b) b.length) ∧ Below w.heap.size w w' := by
  obtain ⟨i0, hi0, hz0, hz1, hz2⟩ := info_int64
  have hmk := mk_row (P := Try.prog) 31 2 Try.underlying31 hi0 hz0 hz1 hz2 (encI .i64) (encI_len .i64) (by omega) 0 rfl (wid b) (by omega) (by omega)
  have hmk2 := mk_slices b.length (by omega)
  have HW := Lib.hid (fun w (hx : RLL .i64 w A b) => width_any A c b w hx)
  have HF := Lib.hid hf
  generalize wid b = n at *
  generalize b.length = N at *
  clear hf
  go_enter Try.func33, Try.ntmps33
  go_wp2
  go_loopg [13] N (fun gk i wr => ∃ (t : Nat) (raws : List Value), t + gk = N ∧ i = .int .i64 t ∧ Hid (raws.length = t) ∧ Blk wr w.heap.size 31 (rowC raws N) ∧ Grid (w.heap.size + 1) wr.heap.size wr raws (grd F n t) ∧ Below w.heap.size w wr)
  case atStart => exact ⟨0, [], by omega, rfl, Lib.hid rfl, Blk.new w _ _, Grid.nil, balloc (Below.refl _ _) _⟩
  case round =>
    obtain ⟨t, raws, ht, rfl, HRL, hO, hG, hb⟩ := hrel
    have ht' : t ≤ N := by omega
    have HK := Lib.hid ht
    clear ht hmk2
    have hOl := hO.lt
    by_cases hlt : t < N
    · obtain ⟨gu, rfl⟩ : ∃ gu : Nat, gu = gk := ⟨_, rfl⟩
      have HGS := Lib.hid (grd_succ F n t)
      have q0 : wr.cell? ⟨w.heap.size, t, none⟩ = some (.slice none 0 0) := by
        rw [hO.cell, ← HRL.out]
        exact rowC_at (by rw [HRL.out]; exact hlt)
      have f0 := hO.frozen t
      have hO3 : Blk ((wr.setCell ⟨w.heap.size, t, none⟩ (.slice (some ⟨wr.heap.size, 0, none⟩) n n)).alloc (.cells ((List.replicate n (0 : Int)).flatMap (encI .i64)).toArray 2)) w.heap.size 31 (rowC (raws ++ [.slice (some ⟨wr.heap.size, 0, none⟩) n n]) N) := by
        have := (hO.put t (.slice (some ⟨wr.heap.size, 0, none⟩) n n)).alloc (.cells ((List.replicate n (0 : Int)).flatMap (encI .i64)).toArray 2)
        rw [← HRL.out, rowC_set (by rw [HRL.out]; exact hlt), HRL.out] at this
        exact this
      have hR3 : Blk ((wr.setCell ⟨w.heap.size, t, none⟩ (.slice (some ⟨wr.heap.size, 0, none⟩) n n)).alloc (.cells ((List.replicate n (0 : Int)).flatMap (encI .i64)).toArray 2)) wr.heap.size 2 ((partL (F t) 0 n 0).flatMap (encI .i64)).toArray := by
        rw [partL_start]
        exact Blk.newAt _ _ (by simp)
      have hG3 := ((hG.far (p := ⟨w.heap.size, t, none⟩) (.inl (by simp)) (.slice (some ⟨wr.heap.size, 0, none⟩) n n)).keep (balloc (Below.refl _ _) (.cells ((List.replicate n (0 : Int)).flatMap (encI .i64)).toArray 2)))
      have hb3 : Below w.heap.size w ((wr.setCell ⟨w.heap.size, t, none⟩ (.slice (some ⟨wr.heap.size, 0, none⟩) n n)).alloc (.cells ((List.replicate n (0 : Int)).flatMap (encI .i64)).toArray 2)) := balloc (hb.setCell (p := ⟨w.heap.size, t, none⟩) (Nat.le_refl _) _) _
      go_wp2_with fail
      refine (HW.out _ (hx.keep hb)).mono ?_
      rintro _ _ ⟨rfl, rfl⟩
      go_upto_region 6 with (fail)
      obtain ⟨w3, hw3⟩ : ∃ w3, w3 = (wr.setCell ⟨w.heap.size, t, none⟩ (.slice (some ⟨wr.heap.size, 0, none⟩) n n)).alloc (.cells ((List.replicate n (0 : Int)).flatMap (encI .i64)).toArray 2) := ⟨_, rfl⟩
      have hs3 : w3.heap.size = wr.heap.size + 1 := by rw [hw3]; simp
      obtain ⟨g1, hg1⟩ : ∃ g1, g1 = wr.heap.size := ⟨_, rfl⟩
      rw [← hw3] at hO3 hR3 hG3 hb3 ⊢
      rw [← hg1] at hO3 hR3 hG3 hs3 ⊢
      have hgl : w.heap.size < g1 := by rw [hg1]; exact hOl
      clear hO hG hb hmk hw3 hg1 q0 f0 hOl
      have q1 : w3.cell? ⟨w.heap.size, t, none⟩ = some (.slice (some ⟨g1, 0, none⟩) n n) := by
        rw [hO3.cell]
        exact rowC_last HRL.out
      have l1 := hO3.lt
      go_wp2
      go_loopg [27] n (fun gk i wr => ∃ k : Nat, k + gk = n ∧ i = .int .i64 k ∧ Blk wr w.heap.size 31 (rowC (raws ++ [.slice (some ⟨g1, 0, none⟩) n n]) N) ∧ Blk wr g1 2 ((partL (F t) 0 n k).flatMap (encI .i64)).toArray ∧ Grid (w.heap.size + 1) g1 wr raws (grd F n t) ∧ Below w.heap.size w wr)
      case atStart => exact ⟨0, by omega, rfl, hO3, hR3, hG3, hb3⟩
      case round =>
        clear hO3 hR3 hG3 hb3 hs3 q1 l1
        obtain ⟨k, hk, rfl, hO, hR, hG, hb⟩ := hrel
        have hk' : k ≤ n := by omega
        have HKK := Lib.hid hk
        clear hk
        have q1 : wr.cell? ⟨w.heap.size, t, none⟩ = some (.slice (some ⟨g1, 0, none⟩) n n) := by
          rw [hO.cell]
          exact rowC_last HRL.out
        have l1 := hO.lt
        have l2 := hR.lt
        by_cases hlk : k < n
        · have r0 := blkI_at hR (j := k) (by rw [partL_len]; exact hlk)
          have r1 := hR.frozen k
          have HQ := Lib.hid (fun W (hW : Below wr.heap.size wr W) => (show W.cell? ⟨w.heap.size, t, none⟩ = some (.slice (some ⟨g1, 0, none⟩) n n) from (hO.keep hW).cell t ▸ rowC_last HRL.out))
          have HCF := Lib.hid (fun W (hW : Below wr.heap.size wr W) => HF.out W t k (bstep hb hW) hlt hlk)
          have HPS := Lib.hid (partL_set (F t) 0 n k (F t k) rfl)
          go_upto_region 9 with (fail)
          go_region_law
            ((first
              | (go_simp; go_at_call 50; (with_reducible refine (HCF.out (World.drew wr) (Below.drew (Below.refl _ _))).mono ?_); rintro e w9 ⟨rfl, q9, rfl⟩)
              | fail))
          all_goals
            go_wp2
            go_roundg (gk - 1)
            case rel => exact ⟨k + 1, by have := HKK.out; omega, by go_num, (hO.far (p := ⟨g1, k, none⟩) (by simp only; omega) _).drewN _, by rw [← HPS.out]; exact (blkI_set hR (by rw [partL_len]; exact hlk) _).drewN _, (hG.far (p := ⟨g1, k, none⟩) (.inr (Nat.le_refl _)) _), below_drewN (hb.setCell (p := ⟨g1, k, none⟩) (by simp only; omega) _) _⟩
            case measure => have := HKK.out; omega
        · rw [partL_end _ _ _ _ (by omega)] at hR
          have hG2 := hG.snoc (fullL_len (F t) n) hR (by omega) (top' := wr.heap.size) l2 (by omega)
          rw [← HGS.out] at hG2
          go_wp2
          go_roundg (gu - 1)
          case rel => exact ⟨t + 1, _, by have := HK.out; omega, by go_num, Lib.hid (by rw [List.length_append, HRL.out]; rfl), hO, hG2, hb⟩
          case measure => have := HK.out; omega
    · obtain rfl : t = N := by omega
      rw [rowC_full HRL.out] at hO
      go_wp2
      go_ret
      exact ⟨w.heap.size, raws, rfl, Nat.le_refl _, hO, hG, hb⟩
set_option maxHeartbeats 4000000 in
theorem eachAdd_any (gA gB gC : Nat) (F : Nat → Nat → Int) (A : Option Addr) (c : Nat) (b : List (List Int)) (w : World) (hN : b.length ≤ 256) (hn : wid b ≤ 16) (hx : RLL .i64 w A b)
    (hf : ∀ W t k, Below w.heap.size w W → t < b.length → k < wid b → Calls Try.prog 34 #[.int .i64 (t : Int), .int .i64 (k : Int), .pointer (some ⟨gA, 0, none⟩), .pointer (some ⟨gB, 0, none⟩), .pointer (some ⟨gC, 0, none⟩)] W fun e w' => e = .returned (.int .i64 (F t k)) ∧ ∃ q, w' = W.drewN q) :
    Calls Try.prog 33 #[.slice A b.length c, .func (.func 34) #[] #[.pointer (some ⟨gA, 0, none⟩), .pointer (some ⟨gB, 0, none⟩), .pointer (some ⟨gC, 0, none⟩)]] w fun e w' => ∃ g raws, e = .returned (.slice (some ⟨g, 0, none⟩) b.length b.length) ∧ w.heap.size ≤ g ∧ Blk w' g 31 raws.toArray ∧ Grid (g + 1) w'.heap.size w' raws (grd F (wid b) b.length) ∧ Below w.heap.size w w' := by
  obtain ⟨i0, hi0, hz0, hz1, hz2⟩ := info_int64
  have hmk := mk_row (P := Try.prog) 31 2 Try.underlying31 hi0 hz0 hz1 hz2 (encI .i64) (encI_len .i64) (by omega) 0 rfl (wid b) (by omega) (by omega)
  have hmk2 := mk_slices b.length (by omega)
  have HW := Lib.hid (fun w (hx : RLL .i64 w A b) => width_any A c b w hx)
  have HF := Lib.hid hf
  generalize wid b = n at *
  generalize b.length = N at *
  clear hf
  go_enter Try.func33, Try.ntmps33
  go_wp2
  go_loopg [13] N (fun gk i wr => ∃ (t : Nat) (raws : List Value), t + gk = N ∧ i = .int .i64 t ∧ Hid (raws.length = t) ∧ Blk wr w.heap.size 31 (rowC raws N) ∧ Grid (w.heap.size + 1) wr.heap.size wr raws (grd F n t) ∧ Below w.heap.size w wr)
  case atStart => exact ⟨0, [], by omega, rfl, Lib.hid rfl, Blk.new w _ _, Grid.nil, balloc (Below.refl _ _) _⟩
  case round =>
    obtain ⟨t, raws, ht, rfl, HRL, hO, hG, hb⟩ := hrel
    have ht' : t ≤ N := by omega
    have HK := Lib.hid ht
    clear ht hmk2
    have hOl := hO.lt
    by_cases hlt : t < N
    · obtain ⟨gu, rfl⟩ : ∃ gu : Nat, gu = gk := ⟨_, rfl⟩
      have HGS := Lib.hid (grd_succ F n t)
      have q0 : wr.cell? ⟨w.heap.size, t, none⟩ = some (.slice none 0 0) := by
        rw [hO.cell, ← HRL.out]
        exact rowC_at (by rw [HRL.out]; exact hlt)
      have f0 := hO.frozen t
      have hO3 : Blk ((wr.setCell ⟨w.heap.size, t, none⟩ (.slice (some ⟨wr.heap.size, 0, none⟩) n n)).alloc (.cells ((List.replicate n (0 : Int)).flatMap (encI .i64)).toArray 2)) w.heap.size 31 (rowC (raws ++ [.slice (some ⟨wr.heap.size, 0, none⟩) n n]) N) := by
        have := (hO.put t (.slice (some ⟨wr.heap.size, 0, none⟩) n n)).alloc (.cells ((List.replicate n (0 : Int)).flatMap (encI .i64)).toArray 2)
        rw [← HRL.out, rowC_set (by rw [HRL.out]; exact hlt), HRL.out] at this
        exact this
      have hR3 : Blk ((wr.setCell ⟨w.heap.size, t, none⟩ (.slice (some ⟨wr.heap.size, 0, none⟩) n n)).alloc (.cells ((List.replicate n (0 : Int)).flatMap (encI .i64)).toArray 2)) wr.heap.size 2 ((partL (F t) 0 n 0).flatMap (encI .i64)).toArray := by
        rw [partL_start]
        exact Blk.newAt _ _ (by simp)
      have hG3 := ((hG.far (p := ⟨w.heap.size, t, none⟩) (.inl (by simp)) (.slice (some ⟨wr.heap.size, 0, none⟩) n n)).keep (balloc (Below.refl _ _) (.cells ((List.replicate n (0 : Int)).flatMap (encI .i64)).toArray 2)))
      have hb3 : Below w.heap.size w ((wr.setCell ⟨w.heap.size, t, none⟩ (.slice (some ⟨wr.heap.size, 0, none⟩) n n)).alloc (.cells ((List.replicate n (0 : Int)).flatMap (encI .i64)).toArray 2)) := balloc (hb.setCell (p := ⟨w.heap.size, t, none⟩) (Nat.le_refl _) _) _
      go_wp2_with fail
      refine (HW.out _ (hx.keep hb)).mono ?_
      rintro _ _ ⟨rfl, rfl⟩
      go_upto_region 6 with (fail)
      obtain ⟨w3, hw3⟩ : ∃ w3, w3 = (wr.setCell ⟨w.heap.size, t, none⟩ (.slice (some ⟨wr.heap.size, 0, none⟩) n n)).alloc (.cells ((List.replicate n (0 : Int)).flatMap (encI .i64)).toArray 2) := ⟨_, rfl⟩
      have hs3 : w3.heap.size = wr.heap.size + 1 := by rw [hw3]; simp
      obtain ⟨g1, hg1⟩ : ∃ g1, g1 = wr.heap.size := ⟨_, rfl⟩
      rw [← hw3] at hO3 hR3 hG3 hb3 ⊢
      rw [← hg1] at hO3 hR3 hG3 hs3 ⊢
      have hgl : w.heap.size < g1 := by rw [hg1]; exact hOl
      clear hO hG hb hmk hw3 hg1 q0 f0 hOl
      have q1 : w3.cell? ⟨w.heap.size, t, none⟩ = some (.slice (some ⟨g1, 0, none⟩) n n) := by
        rw [hO3.cell]
        exact rowC_last HRL.out
      have l1 := hO3.lt
      go_wp2
      go_loopg [27] n (fun gk i wr => ∃ k : Nat, k + gk = n ∧ i = .int .i64 k ∧ Blk wr w.heap.size 31 (rowC (raws ++ [.slice (some ⟨g1, 0, none⟩) n n]) N) ∧ Blk wr g1 2 ((partL (F t) 0 n k).flatMap (encI .i64)).toArray ∧ Grid (w.heap.size + 1) g1 wr raws (grd F n t) ∧ Below w.heap.size w wr)
      case atStart => exact ⟨0, by omega, rfl, hO3, hR3, hG3, hb3⟩
      case round =>
        clear hO3 hR3 hG3 hb3 hs3 q1 l1
        obtain ⟨k, hk, rfl, hO, hR, hG, hb⟩ := hrel
        have hk' : k ≤ n := by omega
        have HKK := Lib.hid hk
        clear hk
        have q1 : wr.cell? ⟨w.heap.size, t, none⟩ = some (.slice (some ⟨g1, 0, none⟩) n n) := by
          rw [hO.cell]
          exact rowC_last HRL.out
        have l1 := hO.lt
        have l2 := hR.lt
        by_cases hlk : k < n
        · have r0 := blkI_at hR (j := k) (by rw [partL_len]; exact hlk)
          have r1 := hR.frozen k
          have HQ := Lib.hid (fun W (hW : Below wr.heap.size wr W) => (show W.cell? ⟨w.heap.size, t, none⟩ = some (.slice (some ⟨g1, 0, none⟩) n n) from (hO.keep hW).cell t ▸ rowC_last HRL.out))
          have HCF := Lib.hid (fun W (hW : Below wr.heap.size wr W) => HF.out W t k (bstep hb hW) hlt hlk)
          have HPS := Lib.hid (partL_set (F t) 0 n k (F t k) rfl)
          go_upto_region 9 with (fail)
          go_region_law
            ((first
              | (go_simp; go_at_call 34; (with_reducible refine (HCF.out (World.drew wr) (Below.drew (Below.refl _ _))).mono ?_); rintro e w9 ⟨rfl, q9, rfl⟩)
              | fail))
          all_goals
            go_wp2
            go_roundg (gk - 1)
            case rel => exact ⟨k + 1, by have := HKK.out; omega, by go_num, (hO.far (p := ⟨g1, k, none⟩) (by simp only; omega) _).drewN _, by rw [← HPS.out]; exact (blkI_set hR (by rw [partL_len]; exact hlk) _).drewN _, (hG.far (p := ⟨g1, k, none⟩) (.inr (Nat.le_refl _)) _), below_drewN (hb.setCell (p := ⟨g1, k, none⟩) (by simp only; omega) _) _⟩
            case measure => have := HKK.out; omega
        · rw [partL_end _ _ _ _ (by omega)] at hR
          have hG2 := hG.snoc (fullL_len (F t) n) hR (by omega) (top' := wr.heap.size) l2 (by omega)
          rw [← HGS.out] at hG2
          go_wp2
          go_roundg (gu - 1)
          case rel => exact ⟨t + 1, _, by have := HK.out; omega, by go_num, Lib.hid (by rw [List.length_append, HRL.out]; rfl), hO, hG2, hb⟩
          case measure => have := HK.out; omega
    · obtain rfl : t = N := by omega
      rw [rowC_full HRL.out] at hO
      go_wp2
      go_ret
      exact ⟨w.heap.size, raws, rfl, Nat.le_refl _, hO, hG, hb⟩
end Bk
end Go.Proofs.Ytnhjeelcgfobnaa
