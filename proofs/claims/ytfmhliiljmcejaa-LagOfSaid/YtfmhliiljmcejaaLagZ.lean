/-
  Contract: fringeref16.Cut.
-/
import Derived.Test.YtfmhliiljmcejaaLagY
import Derived.Deep.RegionHeld3
namespace Go.Proofs.Ytfmhliiljmcejaa
open Go.RowKit
set_option linter.unusedVariables false

theorem kept_apart {w w' : World} {base : Nat} {e e' : TypeId} {s s' n m : Nat} {va vb : Value} {xs ys : List Value} (hb : w.ownsRow base e s vb n xs) (hg : w.grownBy w' va.ownBlock) (hd : ∀ g, va.ownBlock = some g → vb.ownBlock ≠ some g) : w'.ownsRow base e s vb n xs := by
  refine hb.kept hg ?_
  cases h : va.ownBlock with
  | none =>
    cases h2 : vb.ownBlock with
    | none => exact .inl rfl
    | some g => exact .inr (by simp)
  | some g => exact .inr (fun h2 => hd g h h2)

theorem apart_one {wr : World} {base : Nat} {e : TypeId} {s n : Nat} {va vb : Value} {xs : List Value} {g H : Nat} (hB : wr.ownsRow base e s vb n xs) (hAB : ∀ g, va.ownBlock = some g → vb.ownBlock ≠ some g) (hat : va.ownBlock = some g ∨ g = H) (hH : wr.heap.size ≤ H) : vb.ownBlock ≠ some g := by
  rcases hat with h | h
  · exact hAB g h
  · intro h2
    have := (hB.lt g h2).2
    omega
theorem apart_two {va vb : Value} {g1 g2 n c1 c2 H : Nat} (h1 : vb.ownBlock ≠ some g1) (hat : vb.ownBlock = some g2 ∨ g2 = H) (hH : g1 < H) : ∀ g, (Value.slice (some ⟨g1, 0, none⟩) n c1).ownBlock = some g → (Value.slice (some ⟨g2, 0, none⟩) n c2).ownBlock ≠ some g := by
  intro g h2 h3
  simp only [Value.ownBlock, Option.some.injEq] at h2 h3
  subst h2; subst h3
  rcases hat with h | h
  · exact h1 h
  · omega
theorem cutA_take {xs : List Int} {n k : Nat} (hn : n ≤ xs.length) (hk : k < xs.length) : (cutA xs n).take k ++ [if k < n then xs[k] else 0] = (cutA xs n).take (k + 1) := by
  have hl := cutA_len hn
  rw [List.take_succ_eq_append_getElem (by omega)]
  congr 2
  have h := cutA_at (i := k) hn
  rw [getD_lt _ _ (by omega)] at h
  rw [h]
  split
  · rw [getD_lt _ _ hk]
  · rfl
theorem cutB_take {xs : List Int} {n k : Nat} (hn : n ≤ xs.length) (hk : k < xs.length) : (cutB xs n).take k ++ [if k < n then 0 else xs[k]] = (cutB xs n).take (k + 1) := by
  have hl := cutB_len hn
  rw [List.take_succ_eq_append_getElem (by omega)]
  congr 2
  have h := cutB_at (i := k) hn
  rw [getD_lt _ _ (by omega)] at h
  rw [h]
  split
  · rfl
  · rw [getD_lt _ _ hk]

theorem blk_past {wr W w1 : World} {base : Nat} {e : TypeId} {s n : Nat} {va : Value} {xs : List Value} (hA : wr.ownsRow base e s va n xs) (hg : W.grownBy w1 va.ownBlock) : ∀ g t cs, Blk W g t cs → wr.heap.size ≤ g → Blk w1 g t cs := by
  intro g t cs h hle
  refine h.grown hg (fun h2 => ?_)
  have := (hA.lt g h2.symm).2
  omega
theorem refCut_any (A : Option Addr) (c : Nat) (xs : List Int) (at_ : Int) (w : World) (hx : RI .i64 w A xs) (hl : xs.length ≤ 140737488355328) :
    Calls Try.prog 14 #[.slice A xs.length c, .int .i64 at_] w (RetII w (cutSpec xs at_)) := by
  rcases (Decidable.em (streamErr xs = 0)).symm with he | he
  · have e1 : (streamErr xs != 0) = true := by simp [he]
    have HE := Lib.hid he
    clear he
    go_enter Try.func14, Try.ntmps14
    go_wp2_with (go_at_call 31; refine (refCheck13_any _ _ _ _ hx hl).mono ?_; rintro e w' ⟨rfl, rfl⟩)
    go_ret3
    exact RetII.nil (cut_err HE.out) (Below.refl _ _)
  have e1 : (streamErr xs != 0) = false := by simp [he]
  have HE := Lib.hid he
  have hl5 := (streamErr_zero he).1
  clear he
  rcases (Decidable.em (0 ≤ at_ ∧ at_ ≤ xs.length)).symm with hm | hm
  · have hm' : at_ < 0 ∨ (0 ≤ at_ ∧ (xs.length : Int) < at_) := by omega
    have HM := Lib.hid (show at_ < 0 ∨ (xs.length : Int) < at_ by omega)
    clear hm
    rcases hm' with hm | hm
    all_goals
      go_enter Try.func14, Try.ntmps14
      go_wp2_with (go_at_call 31; refine (refCheck13_any _ _ _ _ hx hl).mono ?_; rintro e w' ⟨rfl, rfl⟩)
      go_ret3
      exact RetII.nil (cut_arg HE.out HM.out) (Below.refl _ _)
  obtain ⟨n, rfl⟩ : ∃ n : Nat, at_ = (n : Int) := ⟨at_.toNat, by omega⟩
  have hn : n ≤ xs.length := by omega
  have dm1 : decide ((n : Int) < 0) = false := by simp
  have dm2 : decide (xs.length < n) = false := by simp; omega
  clear hm
  obtain ⟨i0, hi0, hz0, hz1, hz2⟩ := info_parts info_int
  go_enter Try.func14, Try.ntmps14
  go_wp2_with (go_at_call 31; refine (refCheck13_any _ _ _ _ hx hl).mono ?_; rintro e w' ⟨rfl, rfl⟩)
  go_loopg [7, 8, 9] xs.length (fun gk va vb i wr => ∃ k : Nat, k + gk = xs.length ∧ i = .int .i64 k ∧ wr.ownsRow w.heap.size 3 1 va k (((cutA xs n).take k).flatMap (encI .i64)) ∧ wr.ownsRow w.heap.size 3 1 vb k (((cutB xs n).take k).flatMap (encI .i64)) ∧ Hid (∀ g, va.ownBlock = some g → vb.ownBlock ≠ some g) ∧ Below w.heap.size w wr)
  case atStart => exact ⟨0, by omega, rfl, by simpa using World.ownsRow_nil _ _ _ _, by simpa using World.ownsRow_nil _ _ _ _, Lib.hid (by simp [Value.ownBlock]), Below.refl _ _⟩
  case round =>
    obtain ⟨k, hk, rfl, hA, hB, hAB, hb⟩ := hrel
    have hk' : k ≤ xs.length := by omega
    have HK := Lib.hid hk
    clear hk
    have hsz := hb.size
    by_cases hlt : k < xs.length
    · obtain ⟨b, off, rfl, hlw, hcw⟩ := hx.at2 hlt
      rw [getD_lt _ _ hlt] at hcw
      have hc := (hb.cell (p := ⟨b, _, none⟩) hlw).trans hcw
      by_cases hkn : k < n
      · go_wp2_with (first
          | (at_builtin; refine wpList_append_lies _ rfl (.tmp 32) (.tmp 37) 22 rfl w.heap.size 3 i0 _ 1 8 Try.underlying22 hi0 hz0 hz1 hz2 rfl (by decide) _ k _ rfl (hA.alloc _) ⟨wr.heap.size, 0, none⟩ 1 1 (encI .i64 xs[k]) rfl rfl (encI_news _ _ _ _) (encI_one _ _) (by omega) (by unfold maxLen; omega) (by omega) (by simp; omega) (wr.heap.size + 1) (by simp) ?_; intro g1 c1 w1 hA1 hg1 hat1 hlt1; have hB1 := kept_apart (e' := 3) (s' := 1) (m := 0) (ys := []) (hB.alloc (.cells #[.int .i64 xs[k]] 3)) hg1 hAB.out; have hb1 := own_below (balloc hb (.cells #[.int .i64 xs[k]] 3)) (hA.alloc (.cells #[.int .i64 xs[k]] 3)) hg1 (Nat.le_refl _) (by simp; omega))
          | (at_builtin; refine wpList_append_lies _ rfl (.tmp 39) (.tmp 40) 22 rfl w.heap.size 3 i0 _ 1 8 Try.underlying22 hi0 hz0 hz1 hz2 rfl (by decide) _ k _ rfl (hB1.alloc _) ⟨w1.heap.size, 0, none⟩ 1 1 (encI .i64 0) rfl rfl (encI_news _ _ _ _) (encI_one _ _) (by omega) (by unfold maxLen; omega) (by omega) (by simp; have := hb1.size; omega) (w1.heap.size + 1) (by simp) ?_; intro g2 c2 w2 hB2 hg2 hat2 hlt2))
        have n1 := apart_one (H := wr.heap.size + 1) hB hAB.out hat1 (by omega)
        have hb2 := own_below (balloc hb1 (.cells #[.int .i64 0] 3)) (hB1.alloc (.cells #[.int .i64 0] 3)) hg2 (Nat.le_refl _) (by simp; have := hb1.size; omega)
        have hA2 := (hA1.alloc (.cells #[.int .i64 0] 3)).kept hg2 (.inr (fun h => n1 (h.symm.trans rfl)))
        go_roundg (gk - 1)
        case rel => exact ⟨k + 1, by have := HK.out; omega, by go_num, by rw [← cutA_take hn hlt, flat_snoc, if_pos hkn]; exact hA2, by rw [← cutB_take hn hlt, flat_snoc, if_pos hkn]; exact hB2, Lib.hid (apart_two (va := u7) n1 hat2 (by omega)), hb2⟩
        case measure => have := HK.out; omega
      · go_wp2
        go_region_held3 (fun w' => w'.cell? ⟨b, off + k, none⟩ = some (.int .i64 xs[k]))
          (first | go_keep | exact (hb2.cell (p := ⟨b, _, none⟩) hlw).trans hcw | exact (hb1.cell (p := ⟨b, _, none⟩) hlw).trans hcw)
          (first
            | (refine step_append_lies _ (by rfl) (.tmp 42) (.tmp 43) _ (by rfl) w.heap.size 3 i0 _ 1 8 Try.underlying22 hi0 hz0 hz1 hz2 rfl (by omega) _ k (((cutA xs n).take k).flatMap (encI .i64)) (by rfl) (by first | exact World.ownsRow.drew (World.ownsRow.alloc hA _) | exact World.ownsRow.drew (World.ownsRow.alloc (World.ownsRow.alloc hA _) _)) _ 1 1 (encI .i64 0) (by rfl) (by rfl) (by first | exact encI_news wr .i64 0 _ | exact World.news_of_block (cs := #[.int .i64 0]) (t := 3) (fr := (0, 0)) ((Blk.new wr 3 _).alloc _) | exact World.news_of_block (cs := #[.int .i64 0]) (t := 3) (fr := (0, 0)) (Blk.newAt 3 _ (by simp))) (encI_one _ _) (by omega) (by unfold maxLen; omega) (by omega) (by simp; omega) _ rfl ?_; intro g1 c1 w1 hA1 hg1 hat1 hlt1; have hK := blk_past hA hg1; have hB1 := kept_apart (e' := 3) (s' := 1) (m := 0) (ys := []) (by first | exact World.ownsRow.drew (World.ownsRow.alloc hB _) | exact World.ownsRow.drew (World.ownsRow.alloc (World.ownsRow.alloc hB _) _)) hg1 hAB.out; have hb1 : Below w.heap.size w w1 := by first | exact own_below (balloc hb _).drew (World.ownsRow.drew (World.ownsRow.alloc hA _)) hg1 (Nat.le_refl _) (by simp; omega) | exact own_below (balloc (balloc hb _) _).drew (World.ownsRow.drew (World.ownsRow.alloc (World.ownsRow.alloc hA _) _)) hg1 (Nat.le_refl _) (by simp; omega))
            | (refine step_append_lies _ (by rfl) (.tmp 45) (.tmp 50) _ (by rfl) w.heap.size 3 i0 _ 1 8 Try.underlying22 hi0 hz0 hz1 hz2 rfl (by omega) _ k (((cutB xs n).take k).flatMap (encI .i64)) (by rfl) (by first | exact World.ownsRow.alloc hB1 _ | exact hB1) _ 1 1 (encI .i64 xs[k]) (by rfl) (by rfl) (by first | exact encI_news w1 .i64 xs[k] _ | exact World.news_of_block (cs := #[.int .i64 xs[k]]) (t := 3) (fr := (0, 0)) (hK _ _ _ ((Blk.new wr 3 _).alloc _).drew (by simp)) | exact World.news_of_block (cs := #[.int .i64 xs[k]]) (t := 3) (fr := (0, 0)) (hK _ _ _ (Blk.newAt 3 _ (by simp)).drew (by simp))) (encI_one _ _) (by omega) (by unfold maxLen; omega) (by omega) (by have := hb1.size; first | omega | (simp; omega)) _ rfl ?_; intro g2 c2 w2 hB2 hg2 hat2 hlt2; have hb2 : Below w.heap.size w w2 := by first | exact own_below hb1 hB1 hg2 (Nat.le_refl _) hb1.size | exact own_below (balloc hb1 _) (World.ownsRow.alloc hB1 _) hg2 (Nat.le_refl _) (by have := hb1.size; simp; omega)))
        all_goals go_wp2
        all_goals
          have n1 := apart_one hB hAB.out hat1 (by simp <;> omega)
          have hA2 : w2.ownsRow w.heap.size 3 1 (.slice (some ⟨g1, 0, none⟩) (k + 1) c1) (k + 1) (((cutA xs n).take k).flatMap (encI .i64) ++ encI .i64 0) := by
            first
              | exact hA1.kept hg2 (.inr (fun h => n1 (h.symm.trans rfl)))
              | exact (hA1.alloc _).kept hg2 (.inr (fun h => n1 (h.symm.trans rfl)))
          go_roundg (gk - 1)
          case rel => exact ⟨k + 1, by have := HK.out; omega, by go_num, by rw [← cutA_take hn hlt, flat_snoc, if_neg hkn]; exact hA2, by rw [← cutB_take hn hlt, flat_snoc, if_neg hkn]; exact hB2, Lib.hid (apart_two (va := u7) n1 hat2 (by first | exact hlt1 | (simp; omega))), hb2⟩
          case measure => have := HK.out; omega
    · have hkl : k = xs.length := by omega
      have h1 : (cutA xs n).take k = cutA xs n := List.take_of_length_le (by rw [cutA_len hn]; omega)
      have h2 : (cutB xs n).take k = cutB xs n := List.take_of_length_le (by rw [cutB_len hn]; omega)
      rw [h1] at hA
      rw [h2] at hB
      have l1 : (cutA xs n).length = k := by rw [cutA_len hn]; omega
      have l2 : (cutB xs n).length = k := by rw [cutB_len hn]; omega
      have L1 := Lib.hid l1
      have L2 := Lib.hid l2
      clear hkl h1 h2 l1 l2
      obtain ⟨A7, c7, rfl⟩ := own_shape hA
      obtain ⟨A8, c8, rfl⟩ := own_shape hB
      go_wp2
      go_ret3
      exact RetII.mk (cut_ok HE.out hn) L1.out L2.out (own_RI (by rw [L1.out]; exact hA)) (own_RI (by rw [L2.out]; exact hB)) hb
end Go.Proofs.Ytfmhliiljmcejaa
