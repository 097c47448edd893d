/-
  Layer 12 (bank): the walk of BankChannels.
-/
import Derived.Test.YtnhjeelcgfobnaaBkZ
namespace Go.Proofs.Ytnhjeelcgfobnaa
open Go.RowKit Num Dft
set_option maxRecDepth 8000
set_option linter.unusedVariables false
set_option linter.unusedSimpArgs false
namespace Bk
open Lol Crs

theorem info_bool12 : (Try.prog.info? 4).map (fun i => (i.zero, i.size, i.bytes)) = some (some (.bool false), 1, 1) := by kernel_rfl
theorem blkB_at {w : World} {e : TypeId} {g : Nat} {l : List Bool} (h : Blk w g e (l.flatMap encB).toArray) {j : Nat} (hj : j < l.length) : w.cell? ⟨g, j, none⟩ = some (.bool (l.getD j false)) := by
  rw [h.cell, flatB, getD_lt _ _ hj]
  simp [List.getElem?_eq_getElem hj]
theorem blkB_set {w : World} {e : TypeId} {g : Nat} {l : List Bool} (h : Blk w g e (l.flatMap encB).toArray) {j : Nat} (hj : j < l.length) (x : Bool) : Blk (w.setCell ⟨g, j, none⟩ (.bool x)) g e ((l.set j x).flatMap encB).toArray := by
  have h1 := h.put j (.bool x)
  have e1 := flat_set encB 1 encB_len l j 0 (by omega) hj (.bool x) x rfl
  rw [Nat.mul_one, Nat.add_zero] at e1
  rw [List.setIfInBounds_toArray, e1] at h1
  exact h1
theorem notL_full (kp : List Bool) : fullL (fun k => !kp.getD k false) kp.length = notL kp := by
  apply List.ext_getElem (by rw [fullL_len, notL_len])
  intro j h1 h2
  rw [fullL_get]
  have hj : j < kp.length := by rw [notL_len] at h2; exact h2
  rw [getD_lt _ _ hj]
  simp [notL]
theorem sum_bd {P N : Nat} {s u : List Int} (h : Strm P N s) (h' : Strm P N u) (hl : s.length = u.length) {j : Nat} (hj : j < s.length) : -6 ≤ s.getD j 0 + u.getD j 0 ∧ s.getD j 0 + u.getD j 0 ≤ 6 := by
  have h1 := h.el j hj
  have h2 := h'.el j (by omega)
  omega
set_option maxRecDepth 20000 in
set_option maxHeartbeats 4000000 in
theorem bankChannels_walk (p n : Int) (A : Option Addr) (cs : Nat) (s : List Int) (B : Option Addr) (cu : Nat) (u : List Int) (K : Option Addr) (ck : Nat) (kp : List Bool) (w : World)
    (hp : -9223372036854775808 ≤ p ∧ p ≤ 9223372036854775807) (_ : -9223372036854775808 ≤ n ∧ n ≤ 9223372036854775807)
    (hs : RI .i64 w A s) (hls : s.length ≤ 9223372036854775807) (_ : ∀ x ∈ s, (Lit.int .i64 x).wf = true) (hcs : s.length ≤ cs)
    (hu : RI .i64 w B u) (hlu : u.length ≤ 9223372036854775807) (_ : ∀ x ∈ u, (Lit.int .i64 x).wf = true) (hcu : u.length ≤ cu) (hk : RBo w K kp) (_ : kp.length ≤ 9223372036854775807) :
    Calls Try.prog 9 #[.int .i64 p, .int .i64 n, .slice A s.length cs, .slice B u.length cu, .slice K kp.length ck] w fun e w' => e = .returned (.bool true) ∧ Below w.heap.size w w' := by
  have HF1 := Lib.hid (fun w hs => fit12_any p n A cs s w hp.1 hp.2 hs)
  have HF2 := Lib.hid (fun w hs => fit12_any p n B cu u w hp.1 hp.2 hs)
  cases hf1 : fitB p n s
  · rw [hf1] at HF1
    go_enter Try.func9, Try.ntmps9
    go_wp2_with fail
    refine (HF1.out _ hs).mono ?_
    rintro _ w1 ⟨rfl, hb1⟩
    go_wp2_with fail
    refine (alive12 _).mono ?_
    rintro _ w3 ⟨rfl, hb3⟩
    go_wp2
    go_ret
    exact ⟨rfl, bstep hb1 hb3⟩
  rw [hf1] at HF1
  cases hf2 : fitB p n u
  · rw [hf2] at HF2
    go_enter Try.func9, Try.ntmps9
    go_wp2_with fail
    refine (HF1.out _ hs).mono ?_
    rintro _ w1 ⟨rfl, hb1⟩
    go_wp2_with fail
    refine (HF2.out _ (hu.keep hb1)).mono ?_
    rintro _ w2 ⟨rfl, hb2⟩
    go_wp2_with fail
    refine (alive12 _).mono ?_
    rintro _ w3 ⟨rfl, hb3⟩
    go_wp2
    go_ret
    exact ⟨rfl, bstep (bstep hb1 hb2) hb3⟩
  rw [hf2] at HF2
  by_cases hl : s.length = u.length
  · have e1 : ((s.length : Int) != (u.length : Int)) = false := by simp [hl]
    by_cases hkn : (kp.length : Int) = n
    · subst hkn
      have e2 : ((kp.length : Int) != (kp.length : Int)) = false := by simp
      obtain ⟨h128, P, N, rfl, eN0, hS⟩ := fit_yes hf1
      obtain ⟨_, P', N', eP, eN, hU⟩ := fit_yes hf2
      obtain rfl : P = P' := by omega
      obtain rfl : N = N' := by omega
      have hkl : kp.length = N := by omega
      clear eN0 eN eP hf1 hf2
      have h7 := hS.h7
      have hP2 := hS.le
      have hpr := hS.pr
      have hn1 := hS.n1
      have hn16 := hS.n16
      have b1 := bank_split hS
      have b2 := bank_split hU
      have hd : ((P : Int) - 1) % (N : Int) = 0 := by have := rem_mod (P := P) (n := N) (by omega); have := hS.dv; omega
      have l1 := splitL_len P N s
      have l2 : (splitL P N u).length = s.length / N := by rw [splitL_len, hl]
      have bx := bank_kp (by omega) hn1 hn16 hd b1 kp
      have byy := bank_kp (by omega) hn1 hn16 hd b1 (notL kp)
      have lx : (kpL N (splitL P N s) kp).length = s.length / N := by rw [kpL_len, l1]
      have ly : (kpL N (splitL P N s) (notL kp)).length = s.length / N := by rw [kpL_len, l1]
      have vadd : addS (P : Int) (kpL N (splitL P N s) kp) (kpL N (splitL P N s) (notL kp)) = (splitL P N s, 0) := by
        rw [add_ok h7 hP2 hpr bx byy (by rw [lx, ly]), kpL_len, keep_both h7 b1 hkl]
      have vtw : keepS (P : Int) (kpL N (splitL P N s) kp) kp = (kpL N (splitL P N s) kp, 0) := by rw [keep_ok2 h7 hP2 hpr bx hkl, keep_twice b1]
      have vbo := add_ok h7 hP2 hpr b1 b2 (by rw [l1, l2])
      have lb : (grd (addF P (splitL P N s) (splitL P N u)) N (splitL P N s).length).length = s.length / N := by rw [grd_len, l1]
      have HMA := Lib.hid (fun h13 => merge_add hS hU hl h13)
      have SBB := small_bank b1
      have SBX := small_bank bx
      have HS1 := Lib.hid (split_w P kp.length s (splitL P N s) 0 s.length (s.length / N) (by rw [hkl]; exact split_ok hS) rfl l1 hp.1 hp.2 (by omega))
      have HS2 := Lib.hid (split_w P kp.length u (splitL P N u) 0 u.length (s.length / N) (by rw [hkl]; exact split_ok hU) rfl l2 hp.1 hp.2 (by omega))
      have HK1 := Lib.hid (keep_w P (splitL P N s) kp (kpL N (splitL P N s) kp) 0 (s.length / N) kp.length (s.length / N) (keep_ok2 h7 hP2 hpr b1 hkl) l1 rfl lx hp.1 hp.2)
      have HK2 := Lib.hid (keep_w P (splitL P N s) (notL kp) (kpL N (splitL P N s) (notL kp)) 0 (s.length / N) kp.length (s.length / N) (keep_ok2 h7 hP2 hpr b1 (by rw [notL_len]; exact hkl)) l1 (notL_len kp) ly hp.1 hp.2)
      have HAD := Lib.hid (add_w P _ _ _ 0 (s.length / N) (s.length / N) (s.length / N) vadd lx ly l1 hp.1 hp.2)
      have HKT := Lib.hid (keep_w P _ kp _ 0 (s.length / N) kp.length (s.length / N) vtw lx rfl lx hp.1 hp.2)
      have HAB := Lib.hid (add_w P _ _ _ 0 (s.length / N) (s.length / N) (s.length / N) vbo l1 l2 lb hp.1 hp.2)
      have HSB := Lib.hid (same12_w (splitL P N s) (s.length / N) l1 SBB)
      have HSX := Lib.hid (same12_w (kpL N (splitL P N s) kp) (s.length / N) lx SBX)
      have HBD := Lib.hid (fun j (hj : j < s.length) => sum_bd hS hU hl hj)
      have HMG : Hid (∀ A c w, RLL .i64 w A (grd (addF P (splitL P N s) (splitL P N u)) N (splitL P N s).length) → Calls Try.prog 22 #[.int .i64 (P : Int), .slice A (s.length / N) c] w (RetC w (mergeS P (grd (addF P (splitL P N s) (splitL P N u)) N (splitL P N s).length)))) := Lib.hid (fun A c w hx => by
        have := mergeC_any (P : Int) A c _ w hp.1 hp.2 hx
        rw [lb] at this
        exact this)
      have HRM := Lib.hid (merge_small (P : Int) (grd (addF P (splitL P N s) (splitL P N u)) N (splitL P N s).length))
      clear hS hU b1 b2 bx byy vadd vtw vbo lb l1 l2 lx ly SBB SBX hpr hd
      generalize mergeS (P : Int) (grd (addF P (splitL P N s) (splitL P N u)) N (splitL P N s).length) = RM at *
      generalize grd (addF P (splitL P N s) (splitL P N u)) N (splitL P N s).length = BB at *
      generalize kpL N (splitL P N s) kp = KX at *
      generalize kpL N (splitL P N s) (notL kp) = KY at *
      generalize splitL P N s = L at *
      generalize splitL P N u = L2 at *
      have hM256 : s.length / N ≤ 256 := by have := Nat.div_le_self s.length N; omega
      generalize s.length / N = M at *
      have hkk : kp.length ≤ 16 := by omega
      have HKL := Lib.hid hkl
      have HNF := Lib.hid (notL_full kp)
      have HLE := Lib.hid hl
      clear hkl hn1 hn16 hl
      obtain ⟨i0, hi0, hz0, hz1, hz2⟩ := info_parts info_bool12
      have hmk := mk_row (P := Try.prog) 40 4 Try.underlying40 hi0 hz0 hz1 hz2 encB encB_len (by omega) false rfl kp.length (by omega) (by omega)
      go_enter Try.func9, Try.ntmps9
      go_wp2_with fail
      refine (HF1.out _ hs).mono ?_
      rintro _ w1 ⟨rfl, hb1⟩
      go_wp2_with fail
      refine (HF2.out _ (hu.keep hb1)).mono ?_
      rintro _ w2 ⟨rfl, hb2⟩
      have hB2 := bstep hb1 hb2
      clear hb1 hb2
      go_wp2_with fail
      refine (HS1.out _ _ hcs _ (hs.keep hB2)).mono ?_
      rintro _ w3 ⟨A3, c3, rfl, r3, hb3⟩
      have hB3 := bstep hB2 hb3
      clear hb3 hB2
      go_wp2_with fail
      refine (HS2.out _ _ hcu _ (hu.keep hB3)).mono ?_
      rintro _ w4 ⟨A4, c4, rfl, r4, hb4⟩
      have hB4 := bstep hB3 hb4
      replace r3 := r3.keep hb4
      clear hb4 hB3
      go_wp2
      have hk4 := hk.keep hB4
      generalize hnn : kp.length = nn at *
      go_loopg [16] nn (fun gk i wr => ∃ k : Nat, k + gk = nn ∧ i = .int .i64 k ∧ Blk wr w4.heap.size 4 ((partL (fun k => !kp.getD k false) false nn k).flatMap encB).toArray ∧ Below w4.heap.size w4 wr)
      case atStart => exact ⟨0, by omega, rfl, by rw [partL_start]; exact Blk.new w4 4 _, balloc (Below.refl _ _) _⟩
      case round =>
        obtain ⟨k, hkx, rfl, hR, hb⟩ := hrel
        have hk' : k ≤ nn := by omega
        have HKK := Lib.hid hkx
        clear hkx hmk
        have hRl := hR.lt
        by_cases hlk : k < nn
        · obtain ⟨b3, off3, rfl, hlw3, hc3⟩ := hk4 (by omega)
          replace hc3 := hc3 k (by omega)
          have hc5 := (hb.cell (p := ⟨b3, off3 + k, none⟩) hlw3).trans hc3
          have r0 := blkB_at hR (j := k) (by rw [partL_len]; exact hlk)
          have r1 := hR.frozen k
          have HPS := Lib.hid (partL_set (fun k => !kp.getD k false) false nn k (!kp.getD k false) rfl)
          generalize kp.getD k false = z at *
          go_wp2
          go_roundg (gk - 1)
          case rel => exact ⟨k + 1, by have := HKK.out; omega, by go_num, by rw [← HPS.out]; exact blkB_set hR (by rw [partL_len]; exact hlk) _, hb.setCell (p := ⟨w4.heap.size, k, none⟩) (Nat.le_refl _) _⟩
          case measure => have := HKK.out; omega
        · rw [partL_end _ _ _ _ (by omega)] at hR
          rw [HNF.out] at hR
          have rk := blk_RBo hR
          have hB5 := bstep hB4 hb
          replace r3 := r3.keep hb
          replace r4 := r4.keep hb
          clear hR hb hRl
          generalize w4.heap.size = g9 at *
          go_wp2_with fail
          refine (HK1.out _ _ _ _ _ r3 (hk.keep hB5)).mono ?_
          rintro _ w6 ⟨A6, c6, rfl, r6, hb6⟩
          have hB6 := bstep hB5 hb6
          replace r3 := r3.keep hb6
          replace r4 := r4.keep hb6
          replace rk := rk.keep hb6
          clear hb6 hB5
          go_wp2_with fail
          refine (HK2.out _ _ _ _ _ r3 rk).mono ?_
          rintro _ w7 ⟨A7, c7, rfl, r7, hb7⟩
          have hB7 := bstep hB6 hb7
          replace r3 := r3.keep hb7
          replace r4 := r4.keep hb7
          replace r6 := r6.keep hb7
          clear hb7 hB6 rk
          go_wp2_with fail
          refine (HAD.out _ _ _ _ _ r6 r7).mono ?_
          rintro _ w8 ⟨A8, c8, rfl, r8, hb8⟩
          have hB8 := bstep hB7 hb8
          replace r3 := r3.keep hb8
          replace r4 := r4.keep hb8
          replace r6 := r6.keep hb8
          clear hb8 hB7 r7
          go_wp2_with fail
          refine (HKT.out _ _ _ _ _ r6 (hk.keep hB8)).mono ?_
          rintro _ w9 ⟨A9, c9, rfl, r9, hb9⟩
          have hB9 := bstep hB8 hb9
          replace r3 := r3.keep hb9
          replace r4 := r4.keep hb9
          replace r6 := r6.keep hb9
          replace r8 := r8.keep hb9
          clear hb9 hB8
          go_wp2_with fail
          refine (HSB.out _ _ _ _ _ r8 r3).mono ?_
          rintro _ _ ⟨rfl, q1, rfl⟩
          have hbq : Below w9.heap.size w9 (World.drewN w9 q1) := below_drewN (Below.refl _ _) _
          go_wp2_with fail
          refine (HSX.out _ _ _ _ _ (r9.keep hbq) (r6.keep hbq)).mono ?_
          rintro _ _ ⟨rfl, q2, rfl⟩
          have hbq2 : ∀ q, Below w9.heap.size w9 (World.drewN w9 q) := fun q => below_drewN (Below.refl _ _) q
          go_wp2_with fail
          (try simp only [World.drewN_drewN])
          obtain ⟨q, hq⟩ : ∃ q, q = q1 + q2 := ⟨_, rfl⟩
          (try rw [← hq])
          refine (HAB.out _ _ _ _ _ (r3.keep (hbq2 _)) (r4.keep (hbq2 _))).mono ?_
          rintro _ w10 ⟨A10, c10, rfl, r10, hb10⟩
          have hB10 := bstep (bstep hB9 (hbq2 _)) hb10
          clear hb10 hB9 hbq hbq2 r3 r4 r6 r8 r9 hq
          go_wp2_with fail
          refine (HMG.out _ _ _ r10).mono ?_
          rintro _ w11 ⟨A11, c11, rfl, r11, hc11, hb11⟩
          have hB11 := bstep hB10 hb11
          clear hb11 hB10 r10
          have s11 := hs.keep hB11
          have u11 := hu.keep hB11
          obtain ⟨i1, hi1, hy0, hy1, hy2⟩ := info_parts info_int12

          go_wp2
          go_loopg [29, 30] s.length (fun gk v i wr => ∃ k : Nat, k + gk = s.length ∧ i = .int .i64 k ∧ wr.ownsRow w11.heap.size 3 1 v k ((fullL (fun j => s.getD j 0 + u.getD j 0) k).flatMap (encI .i64)) ∧ Below w11.heap.size w11 wr)
          case atStart => exact ⟨0, by omega, rfl, World.ownsRow_nil _ _ _ _, Below.refl _ _⟩
          case round =>
            obtain ⟨k2, hk2, rfl, hO, hb⟩ := hrel
            have hk2' : k2 ≤ s.length := by omega
            have HK2 := Lib.hid hk2
            clear hk2
            have hsz := hb.size
            obtain ⟨A8, c8, rfl, hc8⟩ := own_shape' hO
            by_cases hlt : k2 < s.length
            · obtain ⟨b1, off1, rfl, hlw1, hc1⟩ := s11.at2 hlt
              obtain ⟨b2, off2, rfl, hlw2, hc2⟩ := u11.at2 (i := k2) (by rw [← HLE.out]; exact hlt)
              have hltu : k2 < u.length := by rw [← HLE.out]; exact hlt
              have bd := HBD.out k2 hlt
              have HFU := Lib.hid (show fullL (fun j => s.getD j 0 + u.getD j 0) (k2 + 1) = fullL (fun j => s.getD j 0 + u.getD j 0) k2 ++ [s.getD k2 0 + u.getD k2 0] from fullL_succ _ _)
              generalize hX : s.getD k2 0 = X at *
              generalize hY : u.getD k2 0 = Y at *
              clear hX hY
              obtain ⟨Z, hZ⟩ : ∃ Z, Z = X + Y := ⟨_, rfl⟩
              have hw2 : IntKind.i64.wrap (X + Y) = Z := by rw [IntWalk.i64_in _ (by omega), hZ]
              rw [← hZ] at HFU bd
              clear hZ
              have HQ := Lib.hid (fun W (hBW : Below w11.heap.size w11 W) => (show W.cell? ⟨b1, off1 + k2, none⟩ = some (.int .i64 X) ∧ W.cell? ⟨b2, off2 + k2, none⟩ = some (.int .i64 Y) from
                ⟨(hBW.cell (p := ⟨b1, off1 + k2, none⟩) hlw1).trans hc1, (hBW.cell (p := ⟨b2, off2 + k2, none⟩) hlw2).trans hc2⟩))
              go_wp2
              go_region_held3 (fun W => W.cell? ⟨b1, off1 + k2, none⟩ = some (.int .i64 X) ∧ W.cell? ⟨b2, off2 + k2, none⟩ = some (.int .i64 Y))
                (first | exact HQ.out _ hb.drew | exact HQ.out _ hb | exact HQ.out _ (balloc hb _).drew | exact HQ.out _ (balloc hb _) | exact HQ.out _ hB4 | go_keep | fail)
                ((refine step_append_lies _ (by rfl) (.tmp 167) (.tmp 177) _ (by rfl) w11.heap.size 3 i1 _ 1 8 Try.underlying39 hi1 hy0 hy1 hy2 rfl (by omega) _ k2 _ (by rfl) (World.ownsRow.drew (hO.alloc (.cells #[.int .i64 Z] 3))) ⟨wr.heap.size, 0, none⟩ 1 1 (encI .i64 Z) (by rfl) (by rfl) (encI_news wr _ _ _) (encI_one _ _) (by omega) (by unfold maxLen; omega) (by omega) (by simp [World.drew]; omega) (wr.heap.size + 1) (by simp [World.drew]) ?_; intro g4 c4 w4' hown4 hgrow4 hat4 hlt4; have hB4 := own_below (balloc hb (.cells #[.int .i64 Z] 3)).drew (World.ownsRow.drew (hO.alloc (.cells #[.int .i64 Z] 3))) hgrow4 (Nat.le_refl _) (by simp [World.drew]; omega)))
              all_goals go_wp2
              all_goals
                go_roundg (gk - 1)
                case rel => exact ⟨k2 + 1, by have := HK2.out; omega, by go_num, by rw [HFU.out, flat_snoc]; exact hown4, hB4⟩
                case measure => have := HK2.out; omega
            · have ek : k2 = s.length := by omega
              subst ek
              have hR := own_RI_at (fullL_len _ _) hO
              have hR2 : RI .i64 wr A8 (sumL s u) := hR
              have hsl := sumL_len s u
              have hB12 := bstep hB11 hb
              have r12 := r11.keep hb
              clear hR hO s11 u11 r11
              rcases (show (P : Int) < 13 ∨ 13 ≤ (P : Int) by omega) with h13 | h13
              · have d13 : decide ((P : Int) < 13) = true := decide_eq_true h13
                have d13' : decide (P < 13) = true := decide_eq_true (by omega)
                go_wp2_with fail
                refine (alive12 _).mono ?_
                rintro _ w13 ⟨rfl, hb13⟩
                go_wp2
                go_ret
                exact ⟨rfl, bstep hB12 hb13⟩
              · have d13 : decide ((P : Int) < 13) = false := decide_eq_false (by omega)
                have d13' : decide (P < 13) = false := decide_eq_false (by omega)
                have hrm := HMA.out (by omega)
                have HSM := Lib.hid (fun w hx => samples_any A8 c8 (sumL s u) w (by rw [hsl]; omega) hx)
                have HSS := Lib.hid (sameStreams_w (sumL s u) s.length hsl (by omega))
                rw [hsl] at HSM
                generalize sumL s u = SL at *
                cases hbad : SL.any badS
                · rw [hbad, if_neg (by simp)] at hrm
                  subst hrm
                  rw [hbad] at HSM
                  simp only [hsl] at r12 ⊢
                  clear hbad
                  go_wp2_with fail
                  refine (HSM.out _ hR2).mono ?_
                  rintro _ _ ⟨rfl, rfl⟩
                  go_wp2_with fail
                  refine (HSS.out _ _ _ _ _ r12 hR2).mono ?_
                  rintro _ _ ⟨rfl, q5, rfl⟩
                  have hB13 : Below w.heap.size w (World.drewN wr q5) := below_drewN hB12 _
                  go_wp2_with fail
                  refine (alive12 _).mono ?_
                  rintro _ w13 ⟨rfl, hb13⟩
                  go_wp2
                  go_ret
                  exact ⟨by simp, bstep hB13 hb13⟩
                · rw [hbad, if_pos rfl] at hrm
                  subst hrm
                  rw [hbad] at HSM
                  clear hbad
                  go_wp2_with fail
                  refine (HSM.out _ hR2).mono ?_
                  rintro _ _ ⟨rfl, rfl⟩
                  go_wp2_with fail
                  refine (alive12 _).mono ?_
                  rintro _ w13 ⟨rfl, hb13⟩
                  go_wp2
                  go_ret
                  exact ⟨by simp, bstep hB12 hb13⟩
    · have e2 : ((kp.length : Int) != n) = true := by rw [bne_iff_ne]; exact hkn
      clear hkn hl
      go_enter Try.func9, Try.ntmps9
      go_wp2_with fail
      refine (HF1.out _ hs).mono ?_
      rintro _ w1 ⟨rfl, hb1⟩
      go_wp2_with fail
      refine (HF2.out _ (hu.keep hb1)).mono ?_
      rintro _ w2 ⟨rfl, hb2⟩
      go_wp2_with fail
      refine (alive12 _).mono ?_
      rintro _ w3 ⟨rfl, hb3⟩
      go_wp2
      go_ret
      exact ⟨rfl, bstep (bstep hb1 hb2) hb3⟩
  · have e1 : ((s.length : Int) != (u.length : Int)) = true := by rw [bne_iff_ne]; omega
    clear hl
    go_enter Try.func9, Try.ntmps9
    go_wp2_with fail
    refine (HF1.out _ hs).mono ?_
    rintro _ w1 ⟨rfl, hb1⟩
    go_wp2_with fail
    refine (HF2.out _ (hu.keep hb1)).mono ?_
    rintro _ w2 ⟨rfl, hb2⟩
    go_wp2_with fail
    refine (alive12 _).mono ?_
    rintro _ w3 ⟨rfl, hb3⟩
    go_wp2
    go_ret
    exact ⟨rfl, bstep (bstep hb1 hb2) hb3⟩
end Bk
end Go.Proofs.Ytnhjeelcgfobnaa
