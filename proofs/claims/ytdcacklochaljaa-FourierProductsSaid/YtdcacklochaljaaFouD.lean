/-
  Contracts: fringeref11.root, fringeref11.sums, fourier.Forward, fringeref11.Forward.
-/
import Derived.Test.YtdcacklochaljaaFouC
import Derived.Deep.Onto
namespace Go.Proofs.Ytdcacklochaljaa
open Go.RowKit Num
set_option linter.unusedVariables false

theorem rootS_fit {P : Nat} {l : List Int} (h : Fit P l) : rootS (P : Int) (l.length : Int) = (((rootN P l.length : Nat) : Int), 0) := by
  have h1 := h.l1
  have h2 := h.pr.1
  unfold rootS
  rw [if_pos (okP_iff.2 ⟨P, rfl, h.pr.1, h.le, h.pr⟩), if_neg (by omega), if_neg (by rw [show (P : Int) - 1 = ((P - 1 : Nat) : Int) by omega, ← Int.natCast_emod, h.dv]; simp), Int.toNat_natCast, Int.toNat_natCast]
theorem rootN_lt {P n : Nat} (h : 0 < P) : rootN P n < P := Nat.mod_lt _ h

theorem root11_any (P : Nat) (l : List Int) (w : World) (h : Fit P l) :
    Calls Try.prog 35 #[.int .i64 P, .int .i64 l.length] w (RetO w (fullL (pwF P (rootN P l.length)) l.length)) := by
  have h1 := h.l1
  have h2 := h.l64
  have h3 := h.pr.1
  have h4 := h.le
  have hlt := rootN_lt (P := P) (n := l.length) (by omega)
  have HS := Lib.hid (rootS_fit h)
  have hC := refRoot_any (P : Int) (l.length : Int) w (by omega) (by omega) (by omega)
  rw [HS.out] at hC
  have HC := Lib.hid hC
  clear hC
  go_enter Try.func35, Try.ntmps35
  go_wp2_with fail
  refine (HC.out).mono ?_
  rintro _ w1 ⟨rfl, hb1⟩
  go_wp2_with fail
  refine (refPowers_any P (rootN P l.length) l.length _ h3 h4 hlt h1 (by omega)).mono ?_
  rintro _ w2 ⟨A2, c2, rfl, hc2, ho2, hb2⟩
  go_wp2
  go_ret
  exact ⟨A2, c2, rfl, hc2, ho2.mono hb1.size, bstep hb1 hb2⟩

def bidx (n : Nat) (b : Bool) (x : Nat) : Nat := ((if b = true then -(x : Int) else (x : Int)) % (n : Int)).toNat
theorem bidx_lt {n : Nat} (h : 1 ≤ n) (b : Bool) (x : Nat) : bidx n b x < n := by
  unfold bidx
  have := emod_bd (if b = true then -(x : Int) else (x : Int)) h
  omega
/-- the k-th number of a transform of the reference -/
def smF (P : Nat) (l : List Int) (R : Nat) (b : Bool) (k : Nat) : Int := sumM (P : Int) (fun j => l.getD j 0 * pwF P R (bidx l.length b (j * k))) l.length

set_option maxHeartbeats 1000000 in
theorem refSums_fwd (P : Nat) (A : Option Addr) (c : Nat) (l : List Int) (w : World) (hx : RI .i64 w A l) (h : Fit P l) :
    Calls Try.prog 40 #[.int .i64 P, .slice A l.length c, .bool false] w (RetO w (fullL (smF P l (rootN P l.length) false) l.length)) := by
  obtain ⟨i0, hi0, hz0, hz1, hz2⟩ := info_int64
  have h1 := h.l1
  have h2 := h.l64
  have h3 := h.pr.1
  have h4 := h.le
  have HF := Lib.hid h
  have HB1 := Lib.hid h.el
  clear h
  go_enter Try.func40, Try.ntmps40
  go_wp2_with fail
  refine (root11_any P l _ HF.out).mono ?_
  rintro _ w1 ⟨A1, c1, rfl, hc1', ho1, hb1⟩
  have r1 := own_RI ho1
  have hx1 := hx.keep hb1
  have hwl := fullL_len (pwF P (rootN P l.length)) l.length
  clear ho1
  simp only [hwl]
  go_wp2
  go_loopg [9, 10] l.length (fun gk v i wr => ∃ (k : Nat), k + gk = l.length ∧ i = .int .i64 k ∧ wr.ownsRow w1.heap.size 2 1 v k ((fullL (smF P l (rootN P l.length) false) k).flatMap (encI .i64)) ∧ Below w1.heap.size w1 wr)
  case atStart => exact ⟨0, by omega, rfl, World.ownsRow_nil _ _ _ _, Below.refl _ _⟩
  case round =>
    obtain ⟨k, hk, rfl, hO, hb⟩ := hrel
    have hk' : k ≤ l.length := by omega
    have HK := Lib.hid hk
    clear hk
    have hsz := hb.size
    obtain ⟨A8, c8, rfl, hc8⟩ := own_shape' hO
    by_cases hlt : k < l.length
    · obtain ⟨gu, hgu⟩ : ∃ gu, gu = gk := ⟨gk, rfl⟩
      have HGU := Lib.hid hgu
      clear hgu
      obtain ⟨wo, hwo⟩ : ∃ wo, wo = wr := ⟨wr, rfl⟩
      rw [← hwo] at hO hb hsz ⊢
      clear hwo
      go_wp2
      go_loopg [11, 12] l.length (fun gk s j wr => ∃ (j' q : Nat) (s' : Int), j' + gk = l.length ∧ s = .int .i64 s' ∧ j = .int .i64 j' ∧ 0 ≤ s' ∧ s' < P ∧ Hid (s' = sumM (P : Int) (fun j => l.getD j 0 * pwF P (rootN P l.length) (bidx l.length false (j * k))) j') ∧ wr = wo.drewN q)
      case atStart => exact ⟨0, 0, 0, by omega, rfl, rfl, by omega, by omega, Lib.hid rfl, rfl⟩
      case round =>
        obtain ⟨j, q, s, hj, rfl, rfl, hs1, hs2, HS, rfl⟩ := hrel
        have hj' : j ≤ l.length := by omega
        have HJ := Lib.hid hj
        clear hj
        by_cases hlt2 : j < l.length
        · have hjk : j * k ≤ 64 * 64 := Nat.mul_le_mul (by omega) (by omega)
          obtain ⟨b1, off1, rfl, hlw1, hc1⟩ := (hx1.keep hb).at2 hlt2
          have hm := bidx_lt h1 false (j * k)
          obtain ⟨b2, off2, rfl, hlw2, hc2⟩ := (r1.keep hb).at2 (i := bidx l.length false (j * k)) (by rw [fullL_len]; exact hm)
          rw [fullL_getD _ _ _ _ hm] at hc2
          have bx := HB1.out j hlt2
          have by' := pwF_bd (P := P) (R := rootN P l.length) (by omega) (bidx l.length false (j * k))
          have HN := Lib.hid (show sumM (P : Int) (fun j => l.getD j 0 * pwF P (rootN P l.length) (bidx l.length false (j * k))) (j + 1) = (s + l.getD j 0 * pwF P (rootN P l.length) (bidx l.length false (j * k))) % P by rw [HS.out]; rfl)
          have hbi : (((j * k : Nat) : Int)) % (l.length : Int) = (bidx l.length false (j * k) : Int) := by
            have hh := emod_bd (((j * k : Nat) : Int)) h1
            show _ = ((((((j * k : Nat) : Int)) % (l.length : Int)).toNat : Nat) : Int)
            omega
          have hw1 : IntKind.i64.wrap ((j : Int) * (k : Int)) = ((j * k : Nat) : Int) := mul_wrap (by omega) (by omega)
          generalize j * k = jk at *
          generalize bidx l.length false jk = m at *
          generalize l.getD j 0 = X at *
          generalize pwF P (rootN P l.length) m = Y at *
          have fm := fit_mul (s := s) h4 bx by'
          obtain ⟨Z, hZ⟩ : ∃ Z, Z = X * Y := ⟨_, rfl⟩
          have hw2 : IntKind.i64.wrap (X * Y) = Z := by rw [IntWalk.i64_in _ (by omega), hZ]
          rw [← hZ] at HN fm
          clear hZ
          have hpos : 0 < (P : Int) := by omega
          have e1 := Int.emod_nonneg (s + Z) (show (P : Int) ≠ 0 by omega)
          have e2 := Int.emod_lt_of_pos (s + Z) hpos
          have hAt : ∀ wq : World, Calls Try.prog 32 #[.int .i64 ((jk : Int)), .int .i64 l.length] wq fun e w' => e = .returned (.int .i64 (m : Int)) ∧ wq = w' := by
            intro wq
            have := at_any ((jk : Int)) l.length wq h1 (by omega) (by omega)
            rw [hbi] at this
            exact this
          have HAT := Lib.hid hAt
          clear hAt hbi
          go_wp2
          go_quiet ((go_at_call 32; first | exact quiet_left (HAT.out _) | exact quiet_add_left (HAT.out _)))
          go_wp2
          go_roundg (gk - 1)
          case rel => exact ⟨j + 1, _, (s + Z) % P, by have := HJ.out; omega, rfl, by go_num, e1, e2, Lib.hid HN.out.symm, rfl⟩
          case measure => have := HJ.out; omega
        · have hfin : s = smF P l (rootN P l.length) false k := by rw [HS.out, show j = l.length by omega]; rfl
          have HFN := Lib.hid hfin
          clear hfin
          go_wp2_with (at_builtin; refine wpList_append_own _ rfl _ _ 22 rfl w1.heap.size 2 i0 _ 1 8 Try.underlying22 hi0 hz0 hz1 hz2 rfl (by decide) _ k _ rfl (World.ownsRow.alloc (show (wo.drewN q).ownsRow _ _ _ _ _ _ from hO) _) ⟨wo.heap.size, 0, none⟩ 1 1 (encI .i64 s) rfl rfl (by exact encI_news (wo.drewN q) _ _ _) (encI_one _ _) (by unfold maxLen; omega) (by omega) (by simp; omega) ?_; intro v2 w2 hown2 hgrow2 _)
          go_roundg (gu - 1)
          case rel => exact ⟨k + 1, by have := HK.out; have := HGU.out; omega, by go_num, by rw [fullL_succ, flat_snoc, ← HFN.out]; exact hown2, own_below (balloc (below_drewN hb q) _) (World.ownsRow.alloc (show (wo.drewN q).ownsRow _ _ _ _ _ _ from hO) _) hgrow2 (Nat.le_refl _) (by simp; omega)⟩
          case measure => have := HK.out; have := HGU.out; omega
    · obtain rfl : k = l.length := by omega
      go_wp2
      go_ret
      exact ⟨A8, c8, by rw [fullL_len]; rfl, by rw [fullL_len]; exact hc8, by rw [fullL_len]; exact hO.mono hb1.size, bstep hb1 hb⟩
set_option maxHeartbeats 1000000 in
theorem refSums_back (P : Nat) (A : Option Addr) (c : Nat) (l : List Int) (w : World) (hx : RI .i64 w A l) (h : Fit P l) :
    Calls Try.prog 40 #[.int .i64 P, .slice A l.length c, .bool true] w (RetO w (fullL (smF P l (rootN P l.length) true) l.length)) := by
  obtain ⟨i0, hi0, hz0, hz1, hz2⟩ := info_int64
  have h1 := h.l1
  have h2 := h.l64
  have h3 := h.pr.1
  have h4 := h.le
  have HF := Lib.hid h
  have HB1 := Lib.hid h.el
  clear h
  go_enter Try.func40, Try.ntmps40
  go_wp2_with fail
  refine (root11_any P l _ HF.out).mono ?_
  rintro _ w1 ⟨A1, c1, rfl, hc1', ho1, hb1⟩
  have r1 := own_RI ho1
  have hx1 := hx.keep hb1
  have hwl := fullL_len (pwF P (rootN P l.length)) l.length
  clear ho1
  simp only [hwl]
  go_wp2
  go_loopg [9, 10] l.length (fun gk v i wr => ∃ (k : Nat), k + gk = l.length ∧ i = .int .i64 k ∧ wr.ownsRow w1.heap.size 2 1 v k ((fullL (smF P l (rootN P l.length) true) k).flatMap (encI .i64)) ∧ Below w1.heap.size w1 wr)
  case atStart => exact ⟨0, by omega, rfl, World.ownsRow_nil _ _ _ _, Below.refl _ _⟩
  case round =>
    obtain ⟨k, hk, rfl, hO, hb⟩ := hrel
    have hk' : k ≤ l.length := by omega
    have HK := Lib.hid hk
    clear hk
    have hsz := hb.size
    obtain ⟨A8, c8, rfl, hc8⟩ := own_shape' hO
    by_cases hlt : k < l.length
    · obtain ⟨gu, hgu⟩ : ∃ gu, gu = gk := ⟨gk, rfl⟩
      have HGU := Lib.hid hgu
      clear hgu
      obtain ⟨wo, hwo⟩ : ∃ wo, wo = wr := ⟨wr, rfl⟩
      rw [← hwo] at hO hb hsz ⊢
      clear hwo
      go_wp2
      go_loopg [11, 12] l.length (fun gk s j wr => ∃ (j' q : Nat) (s' : Int), j' + gk = l.length ∧ s = .int .i64 s' ∧ j = .int .i64 j' ∧ 0 ≤ s' ∧ s' < P ∧ Hid (s' = sumM (P : Int) (fun j => l.getD j 0 * pwF P (rootN P l.length) (bidx l.length true (j * k))) j') ∧ wr = wo.drewN q)
      case atStart => exact ⟨0, 0, 0, by omega, rfl, rfl, by omega, by omega, Lib.hid rfl, rfl⟩
      case round =>
        obtain ⟨j, q, s, hj, rfl, rfl, hs1, hs2, HS, rfl⟩ := hrel
        have hj' : j ≤ l.length := by omega
        have HJ := Lib.hid hj
        clear hj
        by_cases hlt2 : j < l.length
        · have hjk : j * k ≤ 64 * 64 := Nat.mul_le_mul (by omega) (by omega)
          obtain ⟨b1, off1, rfl, hlw1, hc1⟩ := (hx1.keep hb).at2 hlt2
          have hm := bidx_lt h1 true (j * k)
          obtain ⟨b2, off2, rfl, hlw2, hc2⟩ := (r1.keep hb).at2 (i := bidx l.length true (j * k)) (by rw [fullL_len]; exact hm)
          rw [fullL_getD _ _ _ _ hm] at hc2
          have bx := HB1.out j hlt2
          have by' := pwF_bd (P := P) (R := rootN P l.length) (by omega) (bidx l.length true (j * k))
          have HN := Lib.hid (show sumM (P : Int) (fun j => l.getD j 0 * pwF P (rootN P l.length) (bidx l.length true (j * k))) (j + 1) = (s + l.getD j 0 * pwF P (rootN P l.length) (bidx l.length true (j * k))) % P by rw [HS.out]; rfl)
          have hbi : (-((j * k : Nat) : Int)) % (l.length : Int) = (bidx l.length true (j * k) : Int) := by
            have hh := emod_bd (-((j * k : Nat) : Int)) h1
            show _ = ((((-((j * k : Nat) : Int)) % (l.length : Int)).toNat : Nat) : Int)
            omega
          have hw1 : IntKind.i64.wrap ((j : Int) * (k : Int)) = ((j * k : Nat) : Int) := mul_wrap (by omega) (by omega)
          generalize j * k = jk at *
          generalize bidx l.length true jk = m at *
          generalize l.getD j 0 = X at *
          generalize pwF P (rootN P l.length) m = Y at *
          have fm := fit_mul (s := s) h4 bx by'
          obtain ⟨Z, hZ⟩ : ∃ Z, Z = X * Y := ⟨_, rfl⟩
          have hw2 : IntKind.i64.wrap (X * Y) = Z := by rw [IntWalk.i64_in _ (by omega), hZ]
          rw [← hZ] at HN fm
          clear hZ
          have hpos : 0 < (P : Int) := by omega
          have e1 := Int.emod_nonneg (s + Z) (show (P : Int) ≠ 0 by omega)
          have e2 := Int.emod_lt_of_pos (s + Z) hpos
          have hAt : ∀ wq : World, Calls Try.prog 32 #[.int .i64 (-(jk : Int)), .int .i64 l.length] wq fun e w' => e = .returned (.int .i64 (m : Int)) ∧ wq = w' := by
            intro wq
            have := at_any (-(jk : Int)) l.length wq h1 (by omega) (by omega)
            rw [hbi] at this
            exact this
          have HAT := Lib.hid hAt
          clear hAt hbi
          go_wp2
          go_quiet ((go_at_call 32; first | exact quiet_left (HAT.out _) | exact quiet_add_left (HAT.out _)))
          go_wp2
          go_roundg (gk - 1)
          case rel => exact ⟨j + 1, _, (s + Z) % P, by have := HJ.out; omega, rfl, by go_num, e1, e2, Lib.hid HN.out.symm, rfl⟩
          case measure => have := HJ.out; omega
        · have hfin : s = smF P l (rootN P l.length) true k := by rw [HS.out, show j = l.length by omega]; rfl
          have HFN := Lib.hid hfin
          clear hfin
          go_wp2_with (at_builtin; refine wpList_append_own _ rfl _ _ 22 rfl w1.heap.size 2 i0 _ 1 8 Try.underlying22 hi0 hz0 hz1 hz2 rfl (by decide) _ k _ rfl (World.ownsRow.alloc (show (wo.drewN q).ownsRow _ _ _ _ _ _ from hO) _) ⟨wo.heap.size, 0, none⟩ 1 1 (encI .i64 s) rfl rfl (by exact encI_news (wo.drewN q) _ _ _) (encI_one _ _) (by unfold maxLen; omega) (by omega) (by simp; omega) ?_; intro v2 w2 hown2 hgrow2 _)
          go_roundg (gu - 1)
          case rel => exact ⟨k + 1, by have := HK.out; have := HGU.out; omega, by go_num, by rw [fullL_succ, flat_snoc, ← HFN.out]; exact hown2, own_below (balloc (below_drewN hb q) _) (World.ownsRow.alloc (show (wo.drewN q).ownsRow _ _ _ _ _ _ from hO) _) hgrow2 (Nat.le_refl _) (by simp; omega)⟩
          case measure => have := HK.out; have := HGU.out; omega
    · obtain rfl : k = l.length := by omega
      go_wp2
      go_ret
      exact ⟨A8, c8, by rw [fullL_len]; rfl, by rw [fullL_len]; exact hc8, by rw [fullL_len]; exact hO.mono hb1.size, bstep hb1 hb⟩
end Go.Proofs.Ytdcacklochaljaa
