/-
  Contracts: fringeref11.root, fringeref11.sums, fourier.Forward, fringeref11.Forward.
  Contracts: Forward, Back (the program's and the reference's).
  Contracts: Back (the program's and the reference's).
-/
import Derived.Test.YtnhjeelcgfobnaaPFouA
import Derived.Deep.Onto
namespace Go.Proofs.Ytnhjeelcgfobnaa
open Go.RowKit Num
set_option maxRecDepth 8000
set_option linter.unusedVariables false

theorem rootS_fit {P : Nat} {l : List Int} (h : Fit P l) : rootS (P : Int) (l.length : Int) = (((rootN P l.length : Nat) : Int), 0) := by
  have h1 := h.l1
  have h2 := h.pr.1
  unfold rootS
  rw [if_pos (okP_iff.2 ⟨P, rfl, h.pr.1, h.le, h.pr⟩), if_neg (by omega), if_neg (by rw [show (P : Int) - 1 = ((P - 1 : Nat) : Int) by omega, ← Int.natCast_emod, h.dv]; simp), Int.toNat_natCast, Int.toNat_natCast]
theorem rootN_lt {P n : Nat} (h : 0 < P) : rootN P n < P := Nat.mod_lt _ h

theorem root11_any (P : Nat) (l : List Int) (w : World) (h : Fit P l) :
    Calls Try.prog 61 #[.int .i64 P, .int .i64 l.length] w (RetO w (fullL (pwF P (rootN P l.length)) l.length)) := by
  have h1 := h.l1
  have h2 := h.l64
  have h3 := h.pr.1
  have h4 := h.le
  have hlt := rootN_lt (P := P) (n := l.length) (by omega)
  have HS := Lib.hid (rootS_fit h)
  have hC := refRoot_any (P : Int) (l.length : Int) w (by omega) (by omega) (by omega)
  rw [HS.out] at hC
  have HC := Lib.hid hC
  clear hC
  go_enter Try.func61, Try.ntmps61
  go_wp2_with fail
  refine (HC.out).mono ?_
  rintro _ w1 ⟨rfl, hb1⟩
  go_wp2_with fail
  refine (refPowers_any P (rootN P l.length) l.length _ h3 h4 hlt h1 (by omega)).mono ?_
  rintro _ w2 ⟨A2, c2, rfl, hc2, ho2, hb2⟩
  go_wp2
  go_ret
  exact ⟨A2, c2, rfl, hc2, ho2.mono hb1.size, bstep hb1 hb2⟩

def bidx (n : Nat) (b : Bool) (x : Nat) : Nat := ((if b = true then -(x : Int) else (x : Int)) % (n : Int)).toNat
theorem bidx_lt {n : Nat} (h : 1 ≤ n) (b : Bool) (x : Nat) : bidx n b x < n := by
  unfold bidx
  have := emod_bd (if b = true then -(x : Int) else (x : Int)) h
  omega
/-- the k-th number of a transform of the reference -/
def smF (P : Nat) (l : List Int) (R : Nat) (b : Bool) (k : Nat) : Int := sumM (P : Int) (fun j => l.getD j 0 * pwF P R (bidx l.length b (j * k))) l.length

set_option maxHeartbeats 1000000 in
theorem refSums_fwd (P : Nat) (A : Option Addr) (c : Nat) (l : List Int) (w : World) (hx : RI .i64 w A l) (h : Fit P l) :
    Calls Try.prog 65 #[.int .i64 P, .slice A l.length c, .bool false] w (RetO w (fullL (smF P l (rootN P l.length) false) l.length)) := by
  obtain ⟨i0, hi0, hz0, hz1, hz2⟩ := info_int64
  have h1 := h.l1
  have h2 := h.l64
  have h3 := h.pr.1
  have h4 := h.le
  have HF := Lib.hid h
  have HB1 := Lib.hid h.el
  clear h
  go_enter Try.func65, Try.ntmps65
  go_wp2_with fail
  refine (root11_any P l _ HF.out).mono ?_
  rintro _ w1 ⟨A1, c1, rfl, hc1', ho1, hb1⟩
  have r1 := own_RI ho1
  have hx1 := hx.keep hb1
  have hwl := fullL_len (pwF P (rootN P l.length)) l.length
  clear ho1
  simp only [hwl]
  go_wp2
  go_loopg [9, 10] l.length (fun gk v i wr => ∃ (k : Nat), k + gk = l.length ∧ i = .int .i64 k ∧ wr.ownsRow w1.heap.size 2 1 v k ((fullL (smF P l (rootN P l.length) false) k).flatMap (encI .i64)) ∧ Below w1.heap.size w1 wr)
  case atStart => exact ⟨0, by omega, rfl, World.ownsRow_nil _ _ _ _, Below.refl _ _⟩
  case round =>
    obtain ⟨k, hk, rfl, hO, hb⟩ := hrel
    have hk' : k ≤ l.length := by omega
    have HK := Lib.hid hk
    clear hk
    have hsz := hb.size
    obtain ⟨A8, c8, rfl, hc8⟩ := own_shape' hO
    by_cases hlt : k < l.length
    · obtain ⟨gu, hgu⟩ : ∃ gu, gu = gk := ⟨gk, rfl⟩
      have HGU := Lib.hid hgu
      clear hgu
      obtain ⟨wo, hwo⟩ : ∃ wo, wo = wr := ⟨wr, rfl⟩
      rw [← hwo] at hO hb hsz ⊢
      clear hwo
      go_wp2
      go_loopg [11, 12] l.length (fun gk s j wr => ∃ (j' q : Nat) (s' : Int), j' + gk = l.length ∧ s = .int .i64 s' ∧ j = .int .i64 j' ∧ 0 ≤ s' ∧ s' < P ∧ Hid (s' = sumM (P : Int) (fun j => l.getD j 0 * pwF P (rootN P l.length) (bidx l.length false (j * k))) j') ∧ wr = wo.drewN q)
      case atStart => exact ⟨0, 0, 0, by omega, rfl, rfl, by omega, by omega, Lib.hid rfl, rfl⟩
      case round =>
        obtain ⟨j, q, s, hj, rfl, rfl, hs1, hs2, HS, rfl⟩ := hrel
        have hj' : j ≤ l.length := by omega
        have HJ := Lib.hid hj
        clear hj
        by_cases hlt2 : j < l.length
        · have hjk : j * k ≤ 64 * 64 := Nat.mul_le_mul (by omega) (by omega)
          obtain ⟨b1, off1, rfl, hlw1, hc1⟩ := (hx1.keep hb).at2 hlt2
          have hm := bidx_lt h1 false (j * k)
          obtain ⟨b2, off2, rfl, hlw2, hc2⟩ := (r1.keep hb).at2 (i := bidx l.length false (j * k)) (by rw [fullL_len]; exact hm)
          rw [fullL_getD _ _ _ _ hm] at hc2
          have bx := HB1.out j hlt2
          have by' := pwF_bd (P := P) (R := rootN P l.length) (by omega) (bidx l.length false (j * k))
          have HN := Lib.hid (show sumM (P : Int) (fun j => l.getD j 0 * pwF P (rootN P l.length) (bidx l.length false (j * k))) (j + 1) = (s + l.getD j 0 * pwF P (rootN P l.length) (bidx l.length false (j * k))) % P by rw [HS.out]; rfl)
          have hbi : (((j * k : Nat) : Int)) % (l.length : Int) = (bidx l.length false (j * k) : Int) := by
            have hh := emod_bd (((j * k : Nat) : Int)) h1
            show _ = ((((((j * k : Nat) : Int)) % (l.length : Int)).toNat : Nat) : Int)
            omega
          have hw1 : IntKind.i64.wrap ((j : Int) * (k : Int)) = ((j * k : Nat) : Int) := mul_wrap (by omega) (by omega)
          generalize j * k = jk at *
          generalize bidx l.length false jk = m at *
          generalize l.getD j 0 = X at *
          generalize pwF P (rootN P l.length) m = Y at *
          have fm := fit_mul (s := s) h4 bx by'
          obtain ⟨Z, hZ⟩ : ∃ Z, Z = X * Y := ⟨_, rfl⟩
          have hw2 : IntKind.i64.wrap (X * Y) = Z := by rw [IntWalk.i64_in _ (by omega), hZ]
          rw [← hZ] at HN fm
          clear hZ
          have hpos : 0 < (P : Int) := by omega
          have e1 := Int.emod_nonneg (s + Z) (show (P : Int) ≠ 0 by omega)
          have e2 := Int.emod_lt_of_pos (s + Z) hpos
          have hAt : ∀ wq : World, Calls Try.prog 62 #[.int .i64 ((jk : Int)), .int .i64 l.length] wq fun e w' => e = .returned (.int .i64 (m : Int)) ∧ wq = w' := by
            intro wq
            have := at_any ((jk : Int)) l.length wq h1 (by omega) (by omega)
            rw [hbi] at this
            exact this
          have HAT := Lib.hid hAt
          clear hAt hbi
          go_wp2
          go_quiet ((go_at_call 62; first | exact quiet_left (HAT.out _) | exact quiet_add_left (HAT.out _)))
          go_wp2
          go_roundg (gk - 1)
          case rel => exact ⟨j + 1, _, (s + Z) % P, by have := HJ.out; omega, rfl, by go_num, e1, e2, Lib.hid HN.out.symm, rfl⟩
          case measure => have := HJ.out; omega
        · have hfin : s = smF P l (rootN P l.length) false k := by rw [HS.out, show j = l.length by omega]; rfl
          have HFN := Lib.hid hfin
          clear hfin
          go_wp2_with (at_builtin; refine wpList_append_own _ rfl _ _ 31 rfl w1.heap.size 2 i0 _ 1 8 Try.underlying31 hi0 hz0 hz1 hz2 rfl (by decide) _ k _ rfl (World.ownsRow.alloc (show (wo.drewN q).ownsRow _ _ _ _ _ _ from hO) _) ⟨wo.heap.size, 0, none⟩ 1 1 (encI .i64 s) rfl rfl (by exact encI_news (wo.drewN q) _ _ _) (encI_one _ _) (by unfold maxLen; omega) (by omega) (by simp; omega) ?_; intro v2 w2 hown2 hgrow2 _)
          go_roundg (gu - 1)
          case rel => exact ⟨k + 1, by have := HK.out; have := HGU.out; omega, by go_num, by rw [fullL_succ, flat_snoc, ← HFN.out]; exact hown2, own_below (balloc (below_drewN hb q) _) (World.ownsRow.alloc (show (wo.drewN q).ownsRow _ _ _ _ _ _ from hO) _) hgrow2 (Nat.le_refl _) (by simp; omega)⟩
          case measure => have := HK.out; have := HGU.out; omega
    · obtain rfl : k = l.length := by omega
      go_wp2
      go_ret
      exact ⟨A8, c8, by rw [fullL_len]; rfl, by rw [fullL_len]; exact hc8, by rw [fullL_len]; exact hO.mono hb1.size, bstep hb1 hb⟩
set_option maxHeartbeats 1000000 in
theorem refSums_back (P : Nat) (A : Option Addr) (c : Nat) (l : List Int) (w : World) (hx : RI .i64 w A l) (h : Fit P l) :
    Calls Try.prog 65 #[.int .i64 P, .slice A l.length c, .bool true] w (RetO w (fullL (smF P l (rootN P l.length) true) l.length)) := by
  obtain ⟨i0, hi0, hz0, hz1, hz2⟩ := info_int64
  have h1 := h.l1
  have h2 := h.l64
  have h3 := h.pr.1
  have h4 := h.le
  have HF := Lib.hid h
  have HB1 := Lib.hid h.el
  clear h
  go_enter Try.func65, Try.ntmps65
  go_wp2_with fail
  refine (root11_any P l _ HF.out).mono ?_
  rintro _ w1 ⟨A1, c1, rfl, hc1', ho1, hb1⟩
  have r1 := own_RI ho1
  have hx1 := hx.keep hb1
  have hwl := fullL_len (pwF P (rootN P l.length)) l.length
  clear ho1
  simp only [hwl]
  go_wp2
  go_loopg [9, 10] l.length (fun gk v i wr => ∃ (k : Nat), k + gk = l.length ∧ i = .int .i64 k ∧ wr.ownsRow w1.heap.size 2 1 v k ((fullL (smF P l (rootN P l.length) true) k).flatMap (encI .i64)) ∧ Below w1.heap.size w1 wr)
  case atStart => exact ⟨0, by omega, rfl, World.ownsRow_nil _ _ _ _, Below.refl _ _⟩
  case round =>
    obtain ⟨k, hk, rfl, hO, hb⟩ := hrel
    have hk' : k ≤ l.length := by omega
    have HK := Lib.hid hk
    clear hk
    have hsz := hb.size
    obtain ⟨A8, c8, rfl, hc8⟩ := own_shape' hO
    by_cases hlt : k < l.length
    · obtain ⟨gu, hgu⟩ : ∃ gu, gu = gk := ⟨gk, rfl⟩
      have HGU := Lib.hid hgu
      clear hgu
      obtain ⟨wo, hwo⟩ : ∃ wo, wo = wr := ⟨wr, rfl⟩
      rw [← hwo] at hO hb hsz ⊢
      clear hwo
      go_wp2
      go_loopg [11, 12] l.length (fun gk s j wr => ∃ (j' q : Nat) (s' : Int), j' + gk = l.length ∧ s = .int .i64 s' ∧ j = .int .i64 j' ∧ 0 ≤ s' ∧ s' < P ∧ Hid (s' = sumM (P : Int) (fun j => l.getD j 0 * pwF P (rootN P l.length) (bidx l.length true (j * k))) j') ∧ wr = wo.drewN q)
      case atStart => exact ⟨0, 0, 0, by omega, rfl, rfl, by omega, by omega, Lib.hid rfl, rfl⟩
      case round =>
        obtain ⟨j, q, s, hj, rfl, rfl, hs1, hs2, HS, rfl⟩ := hrel
        have hj' : j ≤ l.length := by omega
        have HJ := Lib.hid hj
        clear hj
        by_cases hlt2 : j < l.length
        · have hjk : j * k ≤ 64 * 64 := Nat.mul_le_mul (by omega) (by omega)
          obtain ⟨b1, off1, rfl, hlw1, hc1⟩ := (hx1.keep hb).at2 hlt2
          have hm := bidx_lt h1 true (j * k)
          obtain ⟨b2, off2, rfl, hlw2, hc2⟩ := (r1.keep hb).at2 (i := bidx l.length true (j * k)) (by rw [fullL_len]; exact hm)
          rw [fullL_getD _ _ _ _ hm] at hc2
          have bx := HB1.out j hlt2
          have by' := pwF_bd (P := P) (R := rootN P l.length) (by omega) (bidx l.length true (j * k))
          have HN := Lib.hid (show sumM (P : Int) (fun j => l.getD j 0 * pwF P (rootN P l.length) (bidx l.length true (j * k))) (j + 1) = (s + l.getD j 0 * pwF P (rootN P l.length) (bidx l.length true (j * k))) % P by rw [HS.out]; rfl)
          have hbi : (-((j * k : Nat) : Int)) % (l.length : Int) = (bidx l.length true (j * k) : Int) := by
            have hh := emod_bd (-((j * k : Nat) : Int)) h1
            show _ = ((((-((j * k : Nat) : Int)) % (l.length : Int)).toNat : Nat) : Int)
            omega
          have hw1 : IntKind.i64.wrap ((j : Int) * (k : Int)) = ((j * k : Nat) : Int) := mul_wrap (by omega) (by omega)
          generalize j * k = jk at *
          generalize bidx l.length true jk = m at *
          generalize l.getD j 0 = X at *
          generalize pwF P (rootN P l.length) m = Y at *
          have fm := fit_mul (s := s) h4 bx by'
          obtain ⟨Z, hZ⟩ : ∃ Z, Z = X * Y := ⟨_, rfl⟩
          have hw2 : IntKind.i64.wrap (X * Y) = Z := by rw [IntWalk.i64_in _ (by omega), hZ]
          rw [← hZ] at HN fm
          clear hZ
          have hpos : 0 < (P : Int) := by omega
          have e1 := Int.emod_nonneg (s + Z) (show (P : Int) ≠ 0 by omega)
          have e2 := Int.emod_lt_of_pos (s + Z) hpos
          have hAt : ∀ wq : World, Calls Try.prog 62 #[.int .i64 (-(jk : Int)), .int .i64 l.length] wq fun e w' => e = .returned (.int .i64 (m : Int)) ∧ wq = w' := by
            intro wq
            have := at_any (-(jk : Int)) l.length wq h1 (by omega) (by omega)
            rw [hbi] at this
            exact this
          have HAT := Lib.hid hAt
          clear hAt hbi
          go_wp2
          go_quiet ((go_at_call 62; first | exact quiet_left (HAT.out _) | exact quiet_add_left (HAT.out _)))
          go_wp2
          go_roundg (gk - 1)
          case rel => exact ⟨j + 1, _, (s + Z) % P, by have := HJ.out; omega, rfl, by go_num, e1, e2, Lib.hid HN.out.symm, rfl⟩
          case measure => have := HJ.out; omega
        · have hfin : s = smF P l (rootN P l.length) true k := by rw [HS.out, show j = l.length by omega]; rfl
          have HFN := Lib.hid hfin
          clear hfin
          go_wp2_with (at_builtin; refine wpList_append_own _ rfl _ _ 31 rfl w1.heap.size 2 i0 _ 1 8 Try.underlying31 hi0 hz0 hz1 hz2 rfl (by decide) _ k _ rfl (World.ownsRow.alloc (show (wo.drewN q).ownsRow _ _ _ _ _ _ from hO) _) ⟨wo.heap.size, 0, none⟩ 1 1 (encI .i64 s) rfl rfl (by exact encI_news (wo.drewN q) _ _ _) (encI_one _ _) (by unfold maxLen; omega) (by omega) (by simp; omega) ?_; intro v2 w2 hown2 hgrow2 _)
          go_roundg (gu - 1)
          case rel => exact ⟨k + 1, by have := HK.out; have := HGU.out; omega, by go_num, by rw [fullL_succ, flat_snoc, ← HFN.out]; exact hown2, own_below (balloc (below_drewN hb q) _) (World.ownsRow.alloc (show (wo.drewN q).ownsRow _ _ _ _ _ _ from hO) _) hgrow2 (Nat.le_refl _) (by simp; omega)⟩
          case measure => have := HK.out; have := HGU.out; omega
    · obtain rfl : k = l.length := by omega
      go_wp2
      go_ret
      exact ⟨A8, c8, by rw [fullL_len]; rfl, by rw [fullL_len]; exact hc8, by rw [fullL_len]; exact hO.mono hb1.size, bstep hb1 hb⟩
end Go.Proofs.Ytnhjeelcgfobnaa
namespace Go.Proofs.Ytnhjeelcgfobnaa
open Go.RowKit Num
set_option maxRecDepth 8000
set_option linter.unusedVariables false

theorem bidx_false (n x : Nat) : bidx n false x = x % n := by
  unfold bidx
  rw [if_neg (by simp), ← Int.natCast_emod, Int.toNat_natCast]
theorem smF_false (P : Nat) (l : List Int) (R k : Nat) : smF P l R false k = trF P l (pwF P R) k := by
  unfold smF trF
  exact sumM_congr (fun j _ => by simp only [bidx_false])
noncomputable def fwdL (P : Nat) (l : List Int) : List Int := fullL (trF P l (pwF P (rootN P l.length))) l.length
theorem fwdL_len (P : Nat) (l : List Int) : (fwdL P l).length = l.length := fullL_len _ _
noncomputable def fwdS (p : Int) (l : List Int) : List Int × Int := if chkL p l = 0 then (fwdL p.toNat l, 0) else ([], chkL p l)
theorem RetFE.own {w w' : World} {A : Option Addr} {c n : Nat} {l : List Int} {x : Int} {r : List Int × Int} (hr : r = (l, x)) (hn : l.length = n) (h : RI .i64 w' A l) (hb : Below w.heap.size w w') : RetFE w r (.returned (.tuple #[.slice A n c, .int .i64 x])) w' := by
  subst hr; subst hn; exact ⟨A, c, rfl, h, hb⟩
theorem RetFE.no {w w' : World} {x : Int} {r : List Int × Int} (hr : r = ([], x)) (hb : Below w.heap.size w w') : RetFE w r (.returned (.tuple #[.slice none 0 0, .int .i64 x])) w' := by
  subst hr; exact ⟨Option.none, 0, rfl, RI.nil, hb⟩
theorem trF_bd {P : Nat} (hP : 0 < P) (l : List Int) (pw : Nat → Int) (k : Nat) : 0 ≤ trF P l pw k ∧ trF P l pw k < P := sumM_bd (by omega) _ _

theorem fwd_any (p : Int) (A : Option Addr) (c : Nat) (l : List Int) (w : World) (hx : RI .i64 w A l) (hl : l.length ≤ 9223372036854775807) (hp1 : -9223372036854775808 ≤ p) (hp2 : p ≤ 9223372036854775807) :
    Calls Try.prog 44 #[.int .i64 p, .slice A l.length c] w (RetFE w (fwdS p l)) := by
  rcases chkL_cases p l with ⟨e0, P, rfl, hF⟩ | e0
  · have c0 : (chkL (P : Int) l != 0) = false := by rw [e0]; rfl
    have HS := Lib.hid (show fwdS (P : Int) l = (fwdL P l, 0) by unfold fwdS; rw [if_pos e0]; rfl)
    have h1 := hF.l1
    have h2 := hF.l64
    have h3 := hF.pr.1
    have h4 := hF.le
    have hlt := rootN_lt (P := P) (n := l.length) (by omega)
    have HR := Lib.hid (rootS_fit hF)
    have hC := fun w => ringRoot_any (P : Int) (l.length : Int) w (by omega) (by omega) (by omega)
    simp only [HR.out] at hC
    have HC := Lib.hid hC
    have HF := Lib.hid hF
    clear hC hF e0
    have hwl := fullL_len (pwF P (rootN P l.length)) l.length
    go_enter Try.func44, Try.ntmps44
    go_wp2_with fail
    refine (chkF_any _ _ _ _ _ hx hl (by omega) (by omega)).mono ?_
    rintro _ w1 ⟨rfl, hb1⟩
    go_wp2_with fail
    refine (HC.out _).mono ?_
    rintro _ w2 ⟨rfl, hb2⟩
    have hB2 := bstep hb1 hb2
    clear hb1 hb2
    go_wp2_with fail
    refine (powers_any P (rootN P l.length) l.length _ h3 h4 hlt (by omega)).mono ?_
    rintro _ w3 ⟨g3, rfl, hg3, hk3, hb3⟩
    have r3 := blk_RI hk3
    have hB3 := bstep hB2 hb3
    clear hB2 hb3 hk3
    simp only [hwl]
    have hT := transform_any P A (some ⟨g3, 0, none⟩) c l.length l (pwF P (rootN P l.length)) w3 h3 h4 (hx.keep hB3) r3 h1 h2 HF.out.el (fun j _ => pwF_bd (by omega) j)
    go_wp2_with fail
    refine (hT).mono ?_
    rintro _ w4 ⟨g4, rfl, hg4, hk4, hb4⟩
    go_wp2
    go_ret2
    exact RetFE.own HS.out rfl (blk_RI hk4) (bstep hB3 hb4)
  · have c0 : (chkL p l != 0) = true := by rw [bne_iff_ne]; exact e0
    have HS := Lib.hid (show fwdS p l = ([], chkL p l) by unfold fwdS; rw [if_neg e0])
    clear e0
    go_enter Try.func44, Try.ntmps44
    go_wp2_with fail
    refine (chkF_any _ _ _ _ _ hx hl hp1 hp2).mono ?_
    rintro _ w1 ⟨rfl, hb1⟩
    go_wp2
    go_ret2
    exact RetFE.no HS.out hb1
theorem refFwd_any (p : Int) (A : Option Addr) (c : Nat) (l : List Int) (w : World) (hx : RI .i64 w A l) (hl : l.length ≤ 9223372036854775807) (hp1 : -9223372036854775808 ≤ p) (hp2 : p ≤ 9223372036854775807) :
    Calls Try.prog 46 #[.int .i64 p, .slice A l.length c] w (RetFE w (fwdS p l)) := by
  rcases chkL_cases p l with ⟨e0, P, rfl, hF⟩ | e0
  · have c0 : (chkL (P : Int) l != 0) = false := by rw [e0]; rfl
    have HS := Lib.hid (show fwdS (P : Int) l = (fullL (smF P l (rootN P l.length) false) l.length, 0) by
      unfold fwdS; rw [if_pos e0]
      show (fwdL P l, (0 : Int)) = _
      unfold fwdL
      rw [fullL_congr (fun i _ => smF_false P l (rootN P l.length) i)])
    have HF := Lib.hid hF
    clear hF e0
    have h4 := HF.out.le
    go_enter Try.func46, Try.ntmps46
    go_wp2_with fail
    refine (refChk_any _ _ _ _ _ hx hl (by omega) (by omega)).mono ?_
    rintro _ w1 ⟨rfl, hb1⟩
    go_wp2_with fail
    refine (refSums_fwd P _ _ l _ (hx.keep hb1) HF.out).mono ?_
    rintro _ w2 ⟨A2, c2, rfl, hc2, ho2, hb2⟩
    go_wp2
    go_ret2
    exact RetFE.own HS.out rfl (own_RI ho2) (bstep hb1 hb2)
  · have c0 : (chkL p l != 0) = true := by rw [bne_iff_ne]; exact e0
    have HS := Lib.hid (show fwdS p l = ([], chkL p l) by unfold fwdS; rw [if_neg e0])
    clear e0
    go_enter Try.func46, Try.ntmps46
    go_wp2_with fail
    refine (refChk_any _ _ _ _ _ hx hl hp1 hp2).mono ?_
    rintro _ w1 ⟨rfl, hb1⟩
    go_wp2_with fail
    refine (refChk_any _ _ _ _ _ (hx.keep hb1) hl hp1 hp2).mono ?_
    rintro _ w2 ⟨rfl, hb2⟩
    go_wp2
    go_ret2
    exact RetFE.no HS.out (bstep hb1 hb2)
end Go.Proofs.Ytnhjeelcgfobnaa
namespace Go.Proofs.Ytnhjeelcgfobnaa
open Go.RowKit Num
set_option maxRecDepth 8000
set_option linter.unusedVariables false

/-- the inverse -/
def invN (P A : Nat) : Nat := A ^ (P - 2) % P
theorem invN_mul {P A : Nat} (hP : Pr P) (h0 : 0 < A) (hA : A < P) : A * invN P A % P = 1 := by
  have h2 := hP.1
  unfold invN
  rw [Nat.mul_mod, Nat.mod_mod, ← Nat.mul_mod, Nat.mul_comm, ← Nat.pow_succ, show (P - 2).succ = P - 1 by omega]
  exact fermat1 hP (hP.not_dvd_lt h0 hA)
theorem invN_lt {P A : Nat} (h : 0 < P) : invN P A < P := Nat.mod_lt _ h
theorem invS_val {P A : Nat} (hP : Pr P) (h3 : P ≤ 2000000000) (h0 : 0 < A) (hA : A < P) : invS (P : Int) (A : Int) = (((invN P A : Nat) : Int), 0) := by
  unfold invS
  rw [if_pos (show bothE (P : Int) (A : Int) = 0 by unfold bothE; rw [if_pos (okP_iff.2 ⟨P, rfl, hP.1, h3, hP⟩), if_neg (by omega)]), if_neg (by omega), Int.toNat_natCast, Int.toNat_natCast]
  rfl
theorem root_pos {P : Nat} {l : List Int} (h : Fit P l) : 0 < rootN P l.length := by
  have ho := rootN_ord h.pr (Nat.dvd_of_mod_eq_zero h.dv)
  have h1 := h.l1
  rcases Nat.eq_zero_or_pos (rootN P l.length) with h0 | h0
  · have := ho.one
    rw [h0, Nat.zero_pow (by omega), Nat.zero_mod] at this
    omega
  · exact h0
theorem len_lt_P {P : Nat} {l : List Int} (h : Fit P l) : l.length < P := by
  have h1 := h.pr.1
  have := Nat.le_of_dvd (by omega) (Nat.dvd_of_mod_eq_zero h.dv)
  omega
/-- (x y) = 1 and y z = 1 give x = z -/
theorem cancel_one {P x y z : Nat} (h1 : 1 < P) (a : x * y % P = 1) (b : z * y % P = 1) : x % P = z % P := by
  have e1 : 1 % P = 1 := Nat.mod_eq_of_lt h1
  have a1 : (x * y * z) % P = z % P := mul_mod_one (a.trans e1.symm)
  have b1 : (z * y * x) % P = x % P := mul_mod_one (b.trans e1.symm)
  rw [← a1, ← b1]
  congr 1; grind
theorem pow_mul_one {P x y : Nat} (h1 : 1 < P) (h : x * y % P = 1) (e : Nat) : x ^ e * y ^ e % P = 1 := by
  have e1 : 1 % P = 1 := Nat.mod_eq_of_lt h1
  rw [← Nat.mul_pow, Nat.pow_mod, h, Nat.one_pow, e1]
theorem pw_back {P R n x : Nat} (hP : Pr P) (h0 : 0 < R) (hR : R < P) (hn : 1 ≤ n) (ho : R ^ n % P = 1) : pwF P R (bidx n true x) = pwF P (invN P R) (x % n) := by
  have h2 := hP.1
  have hm := invN_mul hP h0 hR
  have hlt := Nat.mod_lt x (show 0 < n by omega)
  have hb : bidx n true x = (n - x % n) % n := by
    unfold bidx
    rw [if_pos rfl]
    have h3 : (-(x : Int)) % (n : Int) = (((n - x % n) % n : Nat) : Int) := by
      have e : -(x : Int) = ((n - x % n : Nat) : Int) + (n : Int) * (-((x / n : Nat) : Int) - 1) := by
        have := Nat.div_add_mod x n
        have h4 : (x : Int) = (n : Int) * ((x / n : Nat) : Int) + ((x % n : Nat) : Int) := by rw [← Int.natCast_mul, ← Int.natCast_add, this]
        rw [Int.mul_sub, Int.mul_neg, Int.mul_one]
        omega
      rw [e, Int.add_mul_emod_self_left, ← Int.natCast_emod]
    rw [h3, Int.toNat_natCast]
  rw [hb]
  unfold pwF
  congr 1
  generalize x % n = e at *
  rcases Nat.eq_zero_or_pos e with he | he
  · subst he; rw [Nat.sub_zero, Nat.mod_self, Nat.pow_zero, Nat.pow_zero]
  · rw [Nat.mod_eq_of_lt (show n - e < n by omega)]
    refine cancel_one (y := R ^ e) (by omega) ?_ ?_
    · rw [← Nat.pow_add, show n - e + e = n by omega]; exact ho
    · rw [Nat.mul_comm]; exact pow_mul_one (by omega) hm e
theorem smF_true {P : Nat} {l : List Int} (h : Fit P l) (k : Nat) : smF P l (rootN P l.length) true k = trF P l (pwF P (invN P (rootN P l.length))) k := by
  unfold smF trF
  have ho := rootN_ord h.pr (Nat.dvd_of_mod_eq_zero h.dv)
  exact sumM_congr (fun j _ => by simp only [pw_back h.pr (root_pos h) (rootN_lt (by have := h.pr.1; omega)) h.l1 ho.one])

noncomputable def bkF (P : Nat) (l : List Int) (k : Nat) : Int := trF P l (pwF P (invN P (rootN P l.length))) k * ((invN P l.length : Nat) : Int) % (P : Int)
noncomputable def bkL (P : Nat) (l : List Int) : List Int := fullL (bkF P l) l.length
noncomputable def bkS (p : Int) (l : List Int) : List Int × Int := if chkL p l = 0 then (bkL p.toNat l, 0) else ([], chkL p l)
/-- a list of which the first k numbers are those of f, the others those of g -/
def mixL (f g : Nat → Int) (n k : Nat) : List Int := (List.range n).map (fun i => if i < k then f i else g i)
theorem mixL_len (f g : Nat → Int) (n k : Nat) : (mixL f g n k).length = n := by simp [mixL]
theorem mixL_start (f g : Nat → Int) (n : Nat) : mixL f g n 0 = fullL g n := by simp [mixL, fullL]
theorem mixL_end (f g : Nat → Int) (n k : Nat) (h : n ≤ k) : mixL f g n k = fullL f n := by
  apply List.ext_getElem (by simp [mixL, fullL])
  intro i h1 h2
  have : i < n := by simpa [mixL] using h1
  simp only [mixL, fullL, List.getElem_map, List.getElem_range]
  rw [if_pos (by omega)]
theorem mixL_at (f g : Nat → Int) {n k : Nat} (h : k < n) : (mixL f g n k).getD k 0 = g k := by
  rw [getD_lt _ _ (by rw [mixL_len]; exact h)]
  simp [mixL]
theorem mixL_set (f g : Nat → Int) (n k : Nat) (y : Int) (hy : y = f k) : (mixL f g n k).set k y = mixL f g n (k + 1) := by
  subst hy
  apply List.ext_getElem (by simp [mixL])
  intro i h1 h2
  simp only [mixL, List.getElem_set, List.getElem_map, List.getElem_range]
  by_cases e : k = i
  · subst e; rw [if_pos rfl, if_pos (by omega)]
  · rw [if_neg e]
    by_cases h : i < k
    · rw [if_pos h, if_pos (by omega)]
    · rw [if_neg h, if_neg (by omega)]

set_option maxHeartbeats 1000000 in
theorem back_any (p : Int) (A : Option Addr) (c : Nat) (l : List Int) (w : World) (hx : RI .i64 w A l) (hl : l.length ≤ 9223372036854775807) (hp1 : -9223372036854775808 ≤ p) (hp2 : p ≤ 9223372036854775807) :
    Calls Try.prog 30 #[.int .i64 p, .slice A l.length c] w (RetFE w (bkS p l)) := by
  rcases chkL_cases p l with ⟨e0, P, rfl, hF⟩ | e0
  · have c0 : (chkL (P : Int) l != 0) = false := by rw [e0]; rfl
    have HS := Lib.hid (show bkS (P : Int) l = (bkL P l, 0) by unfold bkS; rw [if_pos e0]; rfl)
    have h1 := hF.l1
    have h2 := hF.l64
    have h3 := hF.pr.1
    have h4 := hF.le
    have hlt := rootN_lt (P := P) (n := l.length) (by omega)
    have hnP := len_lt_P hF
    have hil := invN_lt (P := P) (A := rootN P l.length) (by omega)
    have hpl := invN_lt (P := P) (A := l.length) (by omega)
    have HR := Lib.hid (rootS_fit hF)
    have HI := Lib.hid (invS_val hF.pr h4 (root_pos hF) hlt)
    have HJ := Lib.hid (invS_val hF.pr h4 (show 0 < l.length by omega) hnP)
    have hC := fun w => ringRoot_any (P : Int) (l.length : Int) w (by omega) (by omega) (by omega)
    have hD := fun w => ringInv_any (P : Int) ((rootN P l.length : Nat) : Int) w (by omega) (by omega)
    have hE := fun w => ringInv_any (P : Int) (l.length : Int) w (by omega) (by omega)
    simp only [HR.out] at hC
    simp only [HI.out] at hD
    simp only [HJ.out] at hE
    have HC := Lib.hid hC
    have HD := Lib.hid hD
    have HEE := Lib.hid hE
    have HF := Lib.hid hF
    clear hC hD hE hF e0
    have hwl := fullL_len (pwF P (invN P (rootN P l.length))) l.length
    have HBK := Lib.hid (show bkF P l = fun k => trF P l (pwF P (invN P (rootN P l.length))) k * ((invN P l.length : Nat) : Int) % (P : Int) from rfl)
    go_enter Try.func30, Try.ntmps30
    go_wp2_with fail
    refine (chkF_any _ _ _ _ _ hx hl (by omega) (by omega)).mono ?_
    rintro _ w1 ⟨rfl, hb1⟩
    go_wp2_with fail
    refine (HC.out _).mono ?_
    rintro _ w2 ⟨rfl, hb2⟩
    have hB2 := bstep hb1 hb2
    clear hb1 hb2
    go_wp2_with fail
    refine (HD.out _).mono ?_
    rintro _ w2a ⟨rfl, hb2a⟩
    have hB2a := bstep hB2 hb2a
    clear hB2 hb2a
    go_wp2_with fail
    refine (HEE.out _).mono ?_
    rintro _ w2b ⟨rfl, hb2b⟩
    have hB2b := bstep hB2a hb2b
    clear hB2a hb2b
    go_wp2_with fail
    refine (powers_any P (invN P (rootN P l.length)) l.length _ h3 h4 hil (by omega)).mono ?_
    rintro _ w3 ⟨g3, rfl, hg3, hk3, hb3⟩
    have r3 := blk_RI hk3
    have hB3 := bstep hB2b hb3
    clear hB2b hb3 hk3
    simp only [hwl]
    have hT := transform_any P A (some ⟨g3, 0, none⟩) c l.length l (pwF P (invN P (rootN P l.length))) w3 h3 h4 (hx.keep hB3) r3 h1 h2 HF.out.el (fun j _ => pwF_bd (by omega) j)
    go_wp2_with fail
    refine (hT).mono ?_
    rintro _ w4 ⟨g4, rfl, hg4, hk4, hb4⟩
    have hB4 := bstep hB3 hb4
    have hg4' : w.heap.size ≤ g4 := Nat.le_trans hB3.size hg4
    have htl := fullL_len (trF P l (pwF P (invN P (rootN P l.length)))) l.length
    simp only [htl]
    rw [← mixL_start (bkF P l) (trF P l (pwF P (invN P (rootN P l.length)))) l.length] at hk4
    have HTB := Lib.hid (fun k => trF_bd (P := P) (by omega) l (pwF P (invN P (rootN P l.length))) k)
    generalize invN P (rootN P l.length) = BB at *
    generalize invN P l.length = PT at *
    generalize trF P l (pwF P BB) = TR at *
    go_wp2
    go_loopg [58] l.length (fun gk i wr => ∃ k : Nat, k + gk = l.length ∧ i = .int .i64 k ∧ Blk wr g4 2 ((mixL (bkF P l) TR l.length k).flatMap (encI .i64)).toArray ∧ Below w.heap.size w wr)
    case atStart => exact ⟨0, by omega, rfl, hk4, hB4⟩
    case round =>
      obtain ⟨k, hk, rfl, hO, hb⟩ := hrel
      have hk' : k ≤ l.length := by omega
      have HK := Lib.hid hk
      clear hk
      by_cases hlt2 : k < l.length
      · have o0 := blkI_at hO (j := k) (by rw [mixL_len]; exact hlt2)
        rw [mixL_at _ _ hlt2] at o0
        have of0 := hO.frozen k
        have hgl := hO.lt
        have bx := HTB.out k
        have HY := Lib.hid (show TR k * (PT : Int) % (P : Int) = bkF P l k by rw [HBK.out])
        generalize TR k = X at *
        have fm := fit_mul (s := 0) (x := X) (y := (PT : Int)) h4 bx (by omega)
        obtain ⟨Z, hZ⟩ : ∃ Z, Z = X * (PT : Int) := ⟨_, rfl⟩
        have hw2 : IntKind.i64.wrap (X * (PT : Int)) = Z := by rw [IntWalk.i64_in _ (by omega), hZ]
        rw [← hZ] at HY fm
        clear hZ
        have HM := Lib.hid (mixL_set (bkF P l) TR l.length k (Z % (P : Int)) HY.out)
        go_wp2
        all_goals
          go_roundg (gk - 1)
          case rel => exact ⟨k + 1, by have := HK.out; omega, by go_num, by rw [← HM.out]; exact blkI_set hO (by rw [mixL_len]; exact hlt2) _, hb.setCell (p := ⟨g4, k, none⟩) hg4' _⟩
          case measure => have := HK.out; omega
      · rw [mixL_end _ _ _ _ (by omega)] at hO
        go_wp2
        go_ret2
        exact RetFE.own HS.out (fullL_len _ _) (blk_RI hO) hb
  · have c0 : (chkL p l != 0) = true := by rw [bne_iff_ne]; exact e0
    have HS := Lib.hid (show bkS p l = ([], chkL p l) by unfold bkS; rw [if_neg e0])
    clear e0
    go_enter Try.func30, Try.ntmps30
    go_wp2_with fail
    refine (chkF_any _ _ _ _ _ hx hl hp1 hp2).mono ?_
    rintro _ w1 ⟨rfl, hb1⟩
    go_wp2
    go_ret2
    exact RetFE.no HS.out hb1

theorem own_set {w : World} {base : Nat} {g cap n : Nat} {l : List Int} {k : Nat} (hn : l.length = n) (hk : k < n) (h : w.ownsRow base 2 1 (.slice (some ⟨g, 0, none⟩) n cap) n (l.flatMap (encI .i64))) (x : Int) :
    (w.setCell ⟨g, k, none⟩ (.int .i64 x)).ownsRow base 2 1 (.slice (some ⟨g, 0, none⟩) n cap) n ((l.set k x).flatMap (encI .i64)) := by
  have h1 := (h.stored k (.int .i64 x)).1
  have e1 := flat_set (encI .i64) 1 (encI_len .i64) l k 0 (by omega) (by omega) (.int .i64 x) x rfl
  rw [Nat.mul_one, Nat.add_zero] at e1
  rw [e1] at h1
  exact h1
set_option maxHeartbeats 1000000 in
theorem refBack_any (p : Int) (A : Option Addr) (c : Nat) (l : List Int) (w : World) (hx : RI .i64 w A l) (hl : l.length ≤ 9223372036854775807) (hp1 : -9223372036854775808 ≤ p) (hp2 : p ≤ 9223372036854775807) :
    Calls Try.prog 48 #[.int .i64 p, .slice A l.length c] w (RetFE w (bkS p l)) := by
  rcases chkL_cases p l with ⟨e0, P, rfl, hF⟩ | e0
  · have c0 : (chkL (P : Int) l != 0) = false := by rw [e0]; rfl
    have HS := Lib.hid (show bkS (P : Int) l = (bkL P l, 0) by unfold bkS; rw [if_pos e0]; rfl)
    have h1 := hF.l1
    have h2 := hF.l64
    have h3 := hF.pr.1
    have h4 := hF.le
    have hnP := len_lt_P hF
    have hpl := invN_lt (P := P) (A := l.length) (by omega)
    have HJ := Lib.hid (invS_val hF.pr h4 (show 0 < l.length by omega) hnP)
    have hE := fun w => refInv_any (P : Int) (l.length : Int) w (by omega) (by omega)
    simp only [HJ.out] at hE
    have HEE := Lib.hid hE
    have HF := Lib.hid hF
    have g1 : (l.length : Int) % (P : Int) = (l.length : Int) := Int.emod_eq_of_lt (by omega) (by omega)
    clear hE hF e0
    have HBK := Lib.hid (show bkF P l = fun k => smF P l (rootN P l.length) true k * ((invN P l.length : Nat) : Int) % (P : Int) by
      funext k; unfold bkF; rw [smF_true HF.out])
    have htl := fullL_len (smF P l (rootN P l.length) true) l.length
    have HTB := Lib.hid (fun k => show 0 ≤ smF P l (rootN P l.length) true k ∧ smF P l (rootN P l.length) true k < P from sumM_bd (by omega) _ _)
    go_enter Try.func48, Try.ntmps48
    go_wp2_with fail
    refine (refChk_any _ _ _ _ _ hx hl (by omega) (by omega)).mono ?_
    rintro _ w1 ⟨rfl, hb1⟩
    go_wp2_with fail
    refine (refSums_back P _ _ l _ (hx.keep hb1) HF.out).mono ?_
    rintro _ w2 ⟨A2, c2, rfl, hc2, ho2, hb2⟩
    simp only [htl] at hc2 ho2 ⊢
    have hB2 := bstep hb1 hb2
    have ho2' := ho2.mono hb1.size
    clear ho2 hb1 hb2
    obtain ⟨g4, rfl, hg4, hg5⟩ := own_some ho2' (by omega)
    go_wp2_with fail
    refine (HEE.out _).mono ?_
    rintro _ w3 ⟨rfl, hb3⟩
    have hB3 := bstep hB2 hb3
    have ho3 := own_keep ho2' hb3
    clear hB2 hb3 ho2'
    rw [← mixL_start (bkF P l) (smF P l (rootN P l.length) true) l.length] at ho3
    generalize invN P l.length = PT at *
    generalize smF P l (rootN P l.length) true = TR at *
    go_wp2
    go_loopg [9] l.length (fun gk i wr => ∃ k : Nat, k + gk = l.length ∧ i = .int .i64 k ∧ wr.ownsRow w.heap.size 2 1 (.slice (some ⟨g4, 0, none⟩) l.length c2) l.length ((mixL (bkF P l) TR l.length k).flatMap (encI .i64)) ∧ Below w.heap.size w wr)
    case atStart => exact ⟨0, by omega, rfl, ho3, hB3⟩
    case round =>
      obtain ⟨k, hk, rfl, hO, hb⟩ := hrel
      have hk' : k ≤ l.length := by omega
      have HK := Lib.hid hk
      clear hk
      by_cases hlt2 : k < l.length
      · have o0 := own_at (encI_len .i64) (l := mixL (bkF P l) TR l.length k) (by rw [mixL_len]; exact hO) (j := k) (i := 0) (by rw [mixL_len]; exact hlt2) (by omega)
        simp only [encI, List.getElem?_cons_zero, Nat.mul_one, Nat.add_zero] at o0
        rw [← getD_lt _ 0 (by rw [mixL_len]; exact hlt2), mixL_at _ _ hlt2] at o0
        have of0 := hO.frozenAt k
        have hgl : g4 < wr.heap.size := (hO.lt g4 rfl).2
        have bx := HTB.out k
        have HY := Lib.hid (show TR k * (PT : Int) % (P : Int) = bkF P l k by rw [HBK.out])
        generalize TR k = X at *
        have fm := fit_mul (s := 0) (x := X) (y := (PT : Int)) h4 bx (by omega)
        obtain ⟨Z, hZ⟩ : ∃ Z, Z = X * (PT : Int) := ⟨_, rfl⟩
        have hw2 : IntKind.i64.wrap (X * (PT : Int)) = Z := by rw [IntWalk.i64_in _ (by omega), hZ]
        rw [← hZ] at HY fm
        clear hZ
        have HM := Lib.hid (mixL_set (bkF P l) TR l.length k (Z % (P : Int)) HY.out)
        have HW := Lib.hid (own_set (mixL_len _ _ _ _) hlt2 hO (Z % (P : Int)))
        go_wp2
        all_goals
          go_roundg (gk - 1)
          case rel => exact ⟨k + 1, by have := HK.out; omega, by go_num, by rw [← HM.out]; exact HW.out, hb.setCell (p := ⟨g4, k, none⟩) hg4 _⟩
          case measure => have := HK.out; omega
      · rw [mixL_end _ _ _ _ (by omega)] at hO
        go_wp2
        go_ret2
        exact RetFE.own HS.out (fullL_len _ _) (own_RI_at (fullL_len _ _) hO) hb
  · have c0 : (chkL p l != 0) = true := by rw [bne_iff_ne]; exact e0
    have HS := Lib.hid (show bkS p l = ([], chkL p l) by unfold bkS; rw [if_neg e0])
    clear e0
    go_enter Try.func48, Try.ntmps48
    go_wp2_with fail
    refine (refChk_any _ _ _ _ _ hx hl hp1 hp2).mono ?_
    rintro _ w1 ⟨rfl, hb1⟩
    go_wp2_with fail
    refine (refChk_any _ _ _ _ _ (hx.keep hb1) hl hp1 hp2).mono ?_
    rintro _ w2 ⟨rfl, hb2⟩
    go_wp2
    go_ret2
    exact RetFE.no HS.out (bstep hb1 hb2)
end Go.Proofs.Ytnhjeelcgfobnaa
