/-
  Contracts: align.isDelay, align.Delay, fringeref14.Delay.
-/
import Derived.Test.YtbejkfeloffccaaSample
import Derived.Test.YtbejkfeloffccaaRets
import Derived.Deep.LoopGhost
namespace Go.Proofs.Ytbejkfeloffccaa
open Go.RowKit
set_option linter.unusedVariables false

theorem info_int : (Try.prog.info? 3).map (fun i => (i.zero, i.size, i.bytes)) = some (some (.int .i64 0), 1, 8) := by kernel_rfl

theorem streamErr_zero {xs : List Int} (h : streamErr xs = 0) : xs.length ≤ 256 ∧ ∀ x ∈ xs, 0 ≤ digitOf x := by
  unfold streamErr at h
  split at h
  · omega
  · split at h
    · rename_i h1 h2
      exact ⟨by omega, by simpa using h2⟩
    · omega
/-- The sample at an index, or 0. -/
def extI (xs : List Int) (j : Int) : Int := if 0 ≤ j then xs.getD j.toNat 0 else 0
def delayed (xs : List Int) (d : Int) : List Int := (List.range xs.length).map (fun (k : Nat) => extI xs ((k : Int) - d))
def delaySpec (xs : List Int) (d : Int) : List Int × Int := if streamErr xs ≠ 0 then ([], streamErr xs) else if d < -64 ∨ 64 < d then ([], 2) else (delayed xs d, 0)
theorem delay_err {xs : List Int} {d : Int} (h : ¬ streamErr xs = 0) : delaySpec xs d = ([], streamErr xs) := by simp [delaySpec, h]
theorem delay_arg {xs : List Int} {d : Int} (h : streamErr xs = 0) (h2 : d < -64 ∨ 64 < d) : delaySpec xs d = ([], 2) := by simp [delaySpec, h, h2]
theorem delay_ok {xs : List Int} {d : Int} (h : streamErr xs = 0) (h2 : -64 ≤ d) (h3 : d ≤ 64) : delaySpec xs d = (delayed xs d, 0) := by
  unfold delaySpec
  rw [if_neg (by simp [h]), if_neg (by omega)]
theorem delayed_len (xs : List Int) (d : Int) : (delayed xs d).length = xs.length := by simp [delayed]
/-- The list when the first K samples have been laid at their places. -/
def delPart (xs : List Int) (d : Int) (lo hi : Int) : List Int := (List.range xs.length).map (fun (j : Nat) => if lo ≤ (j : Int) - d ∧ (j : Int) - d < hi then extI xs ((j : Int) - d) else 0)
theorem delPart_len (xs : List Int) (d lo hi : Int) : (delPart xs d lo hi).length = xs.length := by simp [delPart]
theorem delPart_start (xs : List Int) (d lo : Int) : delPart xs d lo lo = List.replicate xs.length 0 := by
  apply List.ext_getElem (by simp [delPart])
  intro i h1 h2
  simp only [delPart, List.getElem_map, List.getElem_range, List.getElem_replicate]
  rw [if_neg (by omega)]
theorem delPart_step {xs : List Int} {d lo hi : Int} {j : Nat} (hj : (j : Int) - d = hi) (hlo : lo ≤ hi) : (delPart xs d lo hi).set j (extI xs hi) = delPart xs d lo (hi + 1) := by
  apply List.ext_getElem (by simp [delPart])
  intro i h1 h2
  simp only [delPart, List.getElem_set, List.getElem_map, List.getElem_range]
  by_cases e : j = i
  · subst e
    rw [if_pos rfl, if_pos (by omega), hj]
  · rw [if_neg e]
    by_cases h3 : lo ≤ (i : Int) - d ∧ (i : Int) - d < hi
    · rw [if_pos h3, if_pos (by omega)]
    · rw [if_neg h3, if_neg (by omega)]
theorem delPart_skip {xs : List Int} {d lo hi : Int} (h : extI xs hi = 0 ∨ hi + d < 0 ∨ (xs.length : Int) ≤ hi + d) : delPart xs d lo hi = delPart xs d lo (hi + 1) := by
  apply List.ext_getElem (by simp [delPart])
  intro i h1 h2
  have h1' : i < xs.length := by simpa [delPart] using h1
  simp only [delPart, List.getElem_map, List.getElem_range]
  by_cases h3 : lo ≤ (i : Int) - d ∧ (i : Int) - d < hi
  · rw [if_pos h3, if_pos (by omega)]
  · rw [if_neg h3]
    by_cases h4 : lo ≤ (i : Int) - d ∧ (i : Int) - d < hi + 1
    · have e : (i : Int) - d = hi := by omega
      rw [if_pos h4, e]
      rcases h with h | h
      · exact h.symm
      · omega
    · rw [if_neg h4]
theorem extI_out {xs : List Int} {j : Int} (h : j < 0 ∨ (xs.length : Int) ≤ j) : extI xs j = 0 := by
  unfold extI
  split
  · rw [List.getD_eq_getElem?_getD, List.getElem?_eq_none (by omega)]; rfl
  · rfl
theorem extI_in {xs : List Int} {k : Nat} (h : k < xs.length) : extI xs (k : Int) = xs[k] := by
  unfold extI
  rw [if_pos (by omega), Int.toNat_natCast, getD_lt _ _ h]
theorem delPart_end {xs : List Int} {d lo hi : Int} (h1 : lo ≤ 0 ∨ lo ≤ -d) (h2 : (xs.length : Int) ≤ hi ∨ (xs.length : Int) - d ≤ hi) : delPart xs d lo hi = delayed xs d := by
  apply List.ext_getElem (by simp [delPart, delayed])
  intro i h3 h4
  have h1' : i < xs.length := by simpa [delPart] using h3
  simp only [delPart, delayed, List.getElem_map, List.getElem_range]
  by_cases h5 : lo ≤ (i : Int) - d ∧ (i : Int) - d < hi
  · rw [if_pos h5]
  · rw [if_neg h5]
    exact (extI_out (by omega)).symm

theorem isDelay_any (d : Int) (w : World) : Calls Try.prog 38 #[.int .i64 d] w fun e w' => e = .returned (.bool (decide (-64 ≤ d) && decide (d ≤ 64))) ∧ w = w' := by
  by_cases h1 : -64 ≤ d
  · have d1 : decide (-64 ≤ d) = true := by simpa using h1
    go_enter Try.func38, Try.ntmps38
    go_wp2
    go_ret
    exact ⟨ret_bool (by simp [h1]), rfl⟩
  · have d1 : decide (-64 ≤ d) = false := by simpa using h1
    go_enter Try.func38, Try.ntmps38
    go_wp2
    go_ret
    exact ⟨ret_bool (by simp), rfl⟩

theorem alignDelay_any (A : Option Addr) (c : Nat) (xs : List Int) (d : Int) (w : World) (hx : RI .i64 w A xs) (hl : xs.length ≤ 140737488355328) :
    Calls Try.prog 11 #[.slice A xs.length c, .int .i64 d] w (RetI 3 w (delaySpec xs d)) := by
  rcases (Decidable.em (streamErr xs = 0)).symm with he | he
  · have e1 : (streamErr xs != 0) = true := by simp [he]
    have HE := Lib.hid he
    clear he
    go_enter Try.func11, Try.ntmps11
    go_wp2_with (go_at_call 37; refine (sampleCheck_any _ _ _ _ hx hl).mono ?_; rintro e w' ⟨rfl, rfl⟩)
    go_ret2
    exact RetI.nil (delay_err HE.out) (Below.refl _ _)
  have e1 : (streamErr xs != 0) = false := by simp [he]
  have HE := Lib.hid he
  have hl5 := (streamErr_zero he).1
  clear he
  rcases (Decidable.em (-64 ≤ d ∧ d ≤ 64)).symm with hm | hm
  · have hm' : d < -64 ∨ 64 < d := by omega
    have d1 : (decide (-64 ≤ d) && decide (d ≤ 64)) = false := by
      rcases hm' with h | h
      · simp; omega
      · simp; omega
    have HM := Lib.hid hm'
    clear hm hm'
    go_enter Try.func11, Try.ntmps11
    go_wp2_with fail
    refine (sampleCheck_any _ _ _ _ hx hl).mono ?_
    rintro e w' ⟨rfl, rfl⟩
    go_wp2_with fail
    have hc := isDelay_any d w
    rw [d1] at hc
    refine hc.mono ?_
    rintro e w' ⟨rfl, rfl⟩
    go_wp2
    go_ret2
    exact RetI.nil (delay_arg HE.out HM.out) (Below.refl _ _)
  obtain ⟨hd1, hd2⟩ := hm
  have d1 : (decide (-64 ≤ d) && decide (d ≤ 64)) = true := by simp; omega
  obtain ⟨i0, hi0, hz0, hz1, hz2⟩ := info_parts info_int
  have hmk := mk_row (P := Try.prog) 22 3 Try.underlying22 hi0 hz0 hz1 hz2 (encI .i64) (encI_len .i64) (by omega) 0 rfl xs.length (by omega) (by omega)
  have HD := Lib.hid d1
  clear d1
  go_enter Try.func11, Try.ntmps11
  go_wp2_with fail
  refine (sampleCheck_any _ _ _ _ hx hl).mono ?_
  rintro e w' ⟨rfl, rfl⟩
  go_wp2_with fail
  have hc := isDelay_any d w
  rw [HD.out] at hc
  refine hc.mono ?_
  rintro e w' ⟨rfl, rfl⟩
  clear hc
  go_wp2
  go_loopg [8, 9, 23] xs.length (fun gk _ _ i wr => ∃ k : Nat, k + gk = xs.length ∧ i = .int .i64 k ∧ Blk wr w.heap.size 3 ((delPart xs d (-d) ((k : Int) - d)).flatMap (encI .i64)).toArray ∧ Below w.heap.size w wr)
  case atStart => exact ⟨0, by omega, rfl, by rw [show ((0 : Nat) : Int) - d = -d by omega, delPart_start]; exact Blk.new w 3 _, balloc (Below.refl _ _) _⟩
  case round =>
    obtain ⟨k, hk, rfl, hO, hb⟩ := hrel
    have hk' : k ≤ xs.length := by omega
    have HK := Lib.hid hk
    clear hk
    by_cases hlt : k < xs.length
    · by_cases hin : 0 ≤ (k : Int) - d ∧ (k : Int) - d < xs.length
      · obtain ⟨h1, h2⟩ := hin
        have hj : ((k : Int) - d).toNat < xs.length := by omega
        obtain ⟨b, off, rfl, hc⟩ := (hx.keep hb).at_ hj
        have o0 := blkI_at hO (j := k) (by rw [delPart_len]; exact hlt)
        have p0 := hO.frozen k
        have hg := hO.lt
        rw [getD_lt _ _ hj] at hc
        have hst := delPart_step (xs := xs) (d := d) (lo := -d) (j := k) rfl (by omega)
        have hex : extI xs ((k : Int) - d) = xs[((k : Int) - d).toNat] := by unfold extI; rw [if_pos h1, getD_lt _ _ hj]
        rw [hex] at hst
        have HST := Lib.hid hst
        clear hst hex
        go_wp2
        go_roundg (gk - 1)
        case rel => exact ⟨k + 1, by have := HK.out; omega, by go_num, by rw [show ((k + 1 : Nat) : Int) - d = ((k : Int) - d) + 1 by omega, ← HST.out]; exact blkI_set hO (by rw [delPart_len]; exact hlt) _, hb.setCell (p := ⟨w.heap.size, k, none⟩) (Nat.le_refl _) _⟩
        case measure => have := HK.out; omega
      · have hst := delPart_skip (xs := xs) (d := d) (lo := -d) (.inl (extI_out (j := (k : Int) - d) (by omega)))
        have HST := Lib.hid hst
        clear hst
        have hin' : (k : Int) - d < 0 ∨ (0 ≤ (k : Int) - d ∧ (xs.length : Int) ≤ (k : Int) - d) := by omega
        clear hin
        rcases hin' with hin | hin
        all_goals
          go_wp2
          go_roundg (gk - 1)
          case rel => exact ⟨k + 1, by have := HK.out; omega, by go_num, by rw [show ((k + 1 : Nat) : Int) - d = ((k : Int) - d) + 1 by omega, ← HST.out]; exact hO, hb⟩
          case measure => have := HK.out; omega
    · go_wp2
      go_ret2
      rw [delPart_end (by omega) (by omega)] at hO
      exact RetI.blk (delay_ok HE.out hd1 hd2) (delayed_len _ _) (by unfold maxLen; omega) hO (Nat.le_refl _) hb

theorem refDelay_any (A : Option Addr) (c : Nat) (xs : List Int) (d : Int) (w : World) (hx : RI .i64 w A xs) (hl : xs.length ≤ 140737488355328) :
    Calls Try.prog 12 #[.slice A xs.length c, .int .i64 d] w (RetI 3 w (delaySpec xs d)) := by
  rcases (Decidable.em (streamErr xs = 0)).symm with he | he
  · have e1 : (streamErr xs != 0) = true := by simp [he]
    have HE := Lib.hid he
    clear he
    go_enter Try.func12, Try.ntmps12
    go_wp2_with (go_at_call 35; refine (refCheck13_any _ _ _ _ hx hl).mono ?_; rintro e w' ⟨rfl, rfl⟩)
    go_ret2
    exact RetI.nil (delay_err HE.out) (Below.refl _ _)
  have e1 : (streamErr xs != 0) = false := by simp [he]
  have HE := Lib.hid he
  have hl5 := (streamErr_zero he).1
  clear he
  rcases (Decidable.em (-64 ≤ d ∧ d ≤ 64)).symm with hm | hm
  · have hm' : d < -64 ∨ (-64 ≤ d ∧ 64 < d) := by omega
    have HM := Lib.hid (show d < -64 ∨ 64 < d by omega)
    clear hm
    rcases hm' with hm | hm
    all_goals
      go_enter Try.func12, Try.ntmps12
      go_wp2_with (go_at_call 35; refine (refCheck13_any _ _ _ _ hx hl).mono ?_; rintro e w' ⟨rfl, rfl⟩)
      go_ret2
      exact RetI.nil (delay_arg HE.out HM.out) (Below.refl _ _)
  obtain ⟨hd1, hd2⟩ := hm
  have dm1 : decide (d < -64) = false := by simp; omega
  have dm2 : decide (64 < d) = false := by simp; omega
  obtain ⟨i0, hi0, hz0, hz1, hz2⟩ := info_parts info_int
  have hmk := mk_row (P := Try.prog) 22 3 Try.underlying22 hi0 hz0 hz1 hz2 (encI .i64) (encI_len .i64) (by omega) 0 rfl xs.length (by omega) (by omega)
  go_enter Try.func12, Try.ntmps12
  go_wp2_with (go_at_call 35; refine (refCheck13_any _ _ _ _ hx hl).mono ?_; rintro e w' ⟨rfl, rfl⟩)
  go_loopg [7] xs.length (fun gk i wr => ∃ k : Nat, k + gk = xs.length ∧ i = .int .i64 k ∧ Blk wr w.heap.size 3 ((delPart xs d 0 (k : Int)).flatMap (encI .i64)).toArray ∧ Below w.heap.size w wr)
  case atStart => exact ⟨0, by omega, rfl, by rw [show ((0 : Nat) : Int) = 0 by rfl, delPart_start]; exact Blk.new w 3 _, balloc (Below.refl _ _) _⟩
  case round =>
    obtain ⟨k, hk, rfl, hO, hb⟩ := hrel
    have hk' : k ≤ xs.length := by omega
    have HK := Lib.hid hk
    clear hk
    by_cases hlt : k < xs.length
    · by_cases hin : 0 ≤ (k : Int) + d ∧ (k : Int) + d < xs.length
      · obtain ⟨h1, h2⟩ := hin
        have hj : ((k : Int) + d).toNat < xs.length := by omega
        obtain ⟨b, off, rfl, hc⟩ := (hx.keep hb).at_ hlt
        have o0 := blkI_at hO (j := ((k : Int) + d).toNat) (by rw [delPart_len]; exact hj)
        have p0 := hO.frozen ((k : Int) + d).toNat
        have hg := hO.lt
        rw [getD_lt _ _ hlt] at hc
        have hst := delPart_step (xs := xs) (d := d) (lo := 0) (hi := k) (j := ((k : Int) + d).toNat) (by omega) (by omega)
        rw [extI_in hlt] at hst
        have HST := Lib.hid hst
        clear hst
        go_wp2
        go_roundg (gk - 1)
        case rel => exact ⟨k + 1, by have := HK.out; omega, by go_num, by rw [show ((k + 1 : Nat) : Int) = (k : Int) + 1 by omega, ← HST.out]; exact blkI_set hO (by rw [delPart_len]; exact hj) _, hb.setCell (p := ⟨w.heap.size, ((k : Int) + d).toNat, none⟩) (Nat.le_refl _) _⟩
        case measure => have := HK.out; omega
      · have hst := delPart_skip (xs := xs) (d := d) (lo := 0) (hi := k) (.inr (by omega))
        have HST := Lib.hid hst
        clear hst
        have hin' : (k : Int) + d < 0 ∨ (0 ≤ (k : Int) + d ∧ (xs.length : Int) ≤ (k : Int) + d) := by omega
        clear hin
        rcases hin' with hin | hin
        all_goals
          go_wp2
          go_roundg (gk - 1)
          case rel => exact ⟨k + 1, by have := HK.out; omega, by go_num, by rw [show ((k + 1 : Nat) : Int) = (k : Int) + 1 by omega, ← HST.out]; exact hO, hb⟩
          case measure => have := HK.out; omega
    · go_wp2
      go_ret2
      rw [delPart_end (by omega) (by omega)] at hO
      exact RetI.blk (delay_ok HE.out hd1 hd2) (delayed_len _ _) (by unfold maxLen; omega) hO (Nat.le_refl _) hb
end Go.Proofs.Ytbejkfeloffccaa
