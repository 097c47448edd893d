/-
  CrossAdds: plain.
-/
import Derived.Test.YtcpmpfnickhojaaCrM
import Derived.Test.YtcpmpfnickhojaaRingS
namespace Go.Proofs.Ytcpmpfnickhojaa
open Go.RowKit Num Dft
set_option linter.unusedVariables false
set_option linter.unusedSimpArgs false
namespace Crs
open Lol

/-- A stream behind D missing samples. -/
def movL (D : Nat) (xs : List Int) : List Int := List.replicate D 0 ++ xs
theorem movL_len (D : Nat) (xs : List Int) : (movL D xs).length = D + xs.length := by simp [movL]
theorem movL_at (D : Nat) (xs : List Int) (k : Nat) : (movL D xs).getD k 0 = if k < D then 0 else xs.getD (k - D) 0 := by
  unfold movL
  rw [List.getD_eq_getElem?_getD, List.getD_eq_getElem?_getD]
  by_cases h : k < D
  · rw [if_pos h, List.getElem?_append_left (by simpa using h), List.getElem?_replicate, if_pos h]
    rfl
  · rw [if_neg h, List.getElem?_append_right (by simp; omega)]
    simp
theorem mov_stream {D : Nat} {xs : List Int} (h : streamErr xs = 0) (hl : D + xs.length ≤ 256) : streamErr (movL D xs) = 0 := by
  obtain ⟨_, h2⟩ := Lagw.streamErr_zero h
  refine streamErr_ok (by rw [movL_len]; exact hl) fun x hx => ?_
  unfold movL at hx
  rcases List.mem_append.1 hx with h3 | h3
  · rw [List.eq_of_mem_replicate h3]; decide
  · exact h2 x h3
/-- The spectrum behind missing samples is the spectrum, phased. -/
theorem spc_mov {D : Nat} {xs : List Int} (hl : D + xs.length ≤ 32) : spcL (movL D xs) = fullL (phF 7681 (spcL xs) D) 64 := by
  have hF := fit_res ok_p (fun k => xs.getD k 0)
  have hlen : (resL 7681 64 (fun k => xs.getD k 0)).length = 64 := resL_len _ _ _
  have h1 := turn_phase hF (D := D) (by rw [hlen]; omega)
  have e1 : tuL (resL 7681 64 (fun k => xs.getD k 0)) D = resL 7681 64 (fun k => (movL D xs).getD k 0) := by
    unfold tuL
    rw [hlen]
    refine fullL_congr fun m hm => ?_
    unfold tuF
    rw [hlen]
    have hb := backI_lt (n := 64) (D := D) (m := m) (by omega)
    rw [resL_at _ _ hb]
    simp only [movL_at]
    unfold backI
    by_cases h : m < D
    · rw [if_pos h, Nat.mod_eq_of_lt (by omega), getD_out (by omega)]
    · rw [if_neg h, show m + 64 - D = (m - D) + 64 by omega, Nat.add_mod_right, Nat.mod_eq_of_lt (by omega)]
  rw [e1] at h1
  unfold spcL
  rw [h1, fwdL_len, hlen]
theorem ph_sp {xs : List Int} {D : Nat} (h : D < 64) : phS 7681 (spcL xs) (D : Int) = (fullL (phF 7681 (spcL xs) D) 64, 0) := by
  have hF := fit_sp (sp_spc xs)
  have e1 : chkL 7681 (spcL xs) = 0 := chkL_ok hF
  have e2 : rotD (D : Int) 64 = D := by unfold rotD; omega
  unfold phS
  rw [if_pos e1, spcL_len, e2]
  rfl
def sumXY (xs ys : List Int) : List Int := fullL (fun k => xs.getD k 0 + ys.getD k 0) xs.length
/-- The spectrum of a sum of streams. -/
theorem spc_add {xs ys : List Int} (hl : xs.length = ys.length) (k : Nat) (hk : k < 64) : (spcL (sumXY xs ys)).getD k 0 = ((spcL xs).getD k 0 + (spcL ys).getD k 0) % 7681 := by
  have hF := fit_res ok_p (fun k => xs.getD k 0)
  have h1 := fwd_add (b := resL 7681 64 (fun k => ys.getD k 0)) hF (by rw [resL_len, resL_len])
  rw [resL_len] at h1
  have e1 : fullL (fun k => ((resL 7681 64 (fun k => xs.getD k 0)).getD k 0 + (resL 7681 64 (fun k => ys.getD k 0)).getD k 0) % ((7681 : Nat) : Int)) 64 = resL 7681 64 (fun k => (sumXY xs ys).getD k 0) := by
    refine fullL_congr fun j hj => ?_
    rw [resL_at _ _ hj, resL_at _ _ hj, ← Int.add_emod]
    refine congrArg (· % (7681 : Int)) ?_
    show xs.getD j 0 + ys.getD j 0 = (sumXY xs ys).getD j 0
    unfold sumXY
    rcases Nat.lt_or_ge j xs.length with h | h
    · rw [fullL_getD _ _ _ _ h]
    · have hA := getD_out (xs := xs) h
      have hB := getD_out (xs := ys) (show ys.length ≤ j by omega)
      have hC := getD_out (xs := fullL (fun k => xs.getD k 0 + ys.getD k 0) xs.length) (k := j) (by rw [fullL_len]; exact h)
      rw [hA, hB, hC]
      rfl
  rw [e1] at h1
  have e2 : spcL (sumXY xs ys) = fullL (fun k => ((spcL xs).getD k 0 + (spcL ys).getD k 0) % ((7681 : Nat) : Int)) 64 := h1
  rw [e2, fullL_getD _ _ _ _ hk]
  rfl
theorem sumM_mod (f : Nat → Int) (n : Nat) : sumM 7681 f n = S f n % 7681 := sumM_S (p := 7681) (by omega) f n
/-- The first element of a spectrum. -/
theorem spc_first {xs : List Int} (h : xs.length ≤ 64) : (spcL xs).getD 0 0 = S (fun k => xs.getD k 0) xs.length % 7681 := by
  rw [spc_zero, sumM_mod]
  have h1 : C 7681 (S (fun j => (resL 7681 64 (fun k => xs.getD k 0)).getD j 0) 64) (S (fun j => xs.getD j 0) 64) := S_C fun j hj => resL_C 7681 (fun k => xs.getD k 0) hj
  have h3 : S (fun j => xs.getD j 0) 64 = S (fun k => xs.getD k 0) xs.length := S_past h fun u h1 _ => getD_out h1
  rw [← h3]
  exact Int.emod_eq_emod_iff_emod_sub_eq_zero.2 (Int.emod_eq_zero_of_dvd h1)
theorem sum_bd {xs : List Int} (h : streamErr xs = 0) (k : Nat) (hk : k ≤ 32) : -96 ≤ S (fun u => xs.getD u 0) k ∧ S (fun u => xs.getD u 0) k ≤ 96 := by
  have := S_bd (f := fun u => xs.getD u 0) (n := k) (b := 3) (fun u _ => strm_bd h u)
  omega
theorem sumXY_len (xs ys : List Int) : (sumXY xs ys).length = xs.length := fullL_len _ _
theorem same17_any (A B : Option Addr) (c d : Nat) (xs ys : List Int) (w : World) (hx : RI .i64 w A xs) (hy : RI .i64 w B ys) (hl : xs.length ≤ 140737488355328) (hl2 : ys.length ≤ 140737488355328) :
    Calls Try.prog 18 #[.slice A xs.length c, .slice B ys.length d] w fun e w' => e = .returned (.bool (decide (xs = ys))) ∧ ∃ n, w' = w.drewN n := by
  by_cases hlen : xs.length = ys.length
  · have h2 : ((xs.length : Int) != ys.length) = false := by simp; omega
    have hle : xs.length ≤ ys.length := by omega
    have HL := Lib.hid hlen
    clear hlen
    go_enter Try.func18, Try.ntmps18
    go_wp2
    go_loopw [5] (fun i wr => ∃ k n : Nat, k ≤ xs.length ∧ i = .int .i64 k ∧ wr = w.drewN n ∧ Hid (∀ j, j < k → xs.getD j 0 = ys.getD j 0)) (fun i _ => xs.length - (intOf i).toNat)
    case atStart => exact ⟨0, 0, Nat.zero_le _, rfl, rfl, Lib.hid (by simp)⟩
    case round =>
      obtain ⟨k, n, hk, rfl, rfl, hall⟩ := hrel
      by_cases hlt : k < xs.length
      · obtain ⟨b, off, rfl, hc⟩ := hx.at_ hlt
        have hlt2 := Nat.lt_of_lt_of_le hlt hle
        obtain ⟨b2, off2, rfl, hc2⟩ := hy.at_ hlt2
        go_wp2
        go_quiet (fail)
        go_wp2
        · have hv : (xs[k] != ys[k]) = true := by assumption
          go_ret
          refine ⟨ret_bool (list_ne_of_getD (k := k) ?_).symm, n + nq, by first | rfl | rw [World.drewN_drewN]⟩
          simpa [List.getD_eq_getElem?_getD, hlt, hlt2] using hv
        · have hv : (xs[k] != ys[k]) = false := by assumption
          go_roundw
          case rel => exact ⟨k + 1, _, by omega, by go_num, rfl, Lib.hid (all_lt_succ hall.out (by simpa [List.getD_eq_getElem?_getD, hlt, hlt2] using hv))⟩
          case measure => simp [intOf]; omega
      · go_wp2
        go_ret
        refine ⟨ret_bool ?_, _, rfl⟩
        symm
        rw [decide_eq_true_eq]
        exact list_eq_of_getD HL.out (fun j hj => hall.out j (by omega))
  · have h2 : ((xs.length : Int) != ys.length) = true := by simp; omega
    go_enter Try.func18, Try.ntmps18
    go_wp2
    go_ret
    exact ⟨ret_bool (by symm; simp; intro h; exact hlen (by rw [h])), 0, rfl⟩
end Crs
end Go.Proofs.Ytcpmpfnickhojaa
