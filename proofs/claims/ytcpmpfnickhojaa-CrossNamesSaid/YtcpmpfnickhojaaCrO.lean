/-
  CrossAdds: the walk.
-/
import Derived.Test.YtcpmpfnickhojaaCrN
namespace Go.Proofs.Ytcpmpfnickhojaa
open Go.RowKit Num Dft
set_option linter.unusedVariables false
set_option linter.unusedSimpArgs false
namespace Crs
open Lol

theorem spectrum_n (n : Nat) (A : Option Addr) (c : Nat) (xs r : List Int) (w : World) (hn : xs.length = n) (hr : spcL xs = r) (he : streamErr xs = 0) (h32 : n ≤ 32) (hx : RI .i64 w A xs) :
    Calls Try.prog 10 #[.slice A n c] w fun e w' => ∃ A c, e = .returned (.tuple #[.slice A 64 c, .int .i64 0]) ∧ RI .i64 w' A r ∧ Below w.heap.size w w' := by
  subst hn; subst hr
  exact (spectrum_w A c xs w he h32 hx).mono fun _ _ ⟨A', c', h1, h2, _, h3⟩ => ⟨A', c', h1, h2.ri, h3⟩
theorem phase_w (A : Option Addr) (c : Nat) (xs r : List Int) (D : Nat) (w : World) (hD : D < 64) (hr : fullL (phF 7681 (spcL xs) D) 64 = r) (hx : RI .i64 w A (spcL xs)) :
    Calls Try.prog 26 #[.int .i64 7681, .slice A 64 c, .int .i64 (D : Int)] w fun e w' => ∃ A c, e = .returned (.tuple #[.slice A 64 c, .int .i64 0]) ∧ RI .i64 w' A r ∧ Below w.heap.size w w' := by
  have h := phaseN_any 7681 A c (spcL xs) (D : Int) w hx (by rw [spcL_len]; omega) (by omega) (by omega) (by omega)
  rw [ph_sp hD, spcL_len, hr] at h
  have hl : r.length = 64 := by rw [← hr]; exact fullL_len _ _
  refine h.mono ?_
  rintro e w' ⟨A', c', rfl, h1, _, h2⟩
  exact ⟨A', c', by simp only [hl], h1.ri, h2⟩
theorem same17_yes (A B : Option Addr) (c d n m : Nat) (xs : List Int) (hn : xs.length = n) (hm : xs.length = m) (w : World) (hx : RI .i64 w A xs) (hy : RI .i64 w B xs) (hl : n ≤ 140737488355328) :
    Calls Try.prog 18 #[.slice A n c, .slice B m d] w fun e w' => e = .returned (.bool true) ∧ Below w.heap.size w w' := by
  subst hn; subst hm
  have := same17_any A B c d xs xs w hx hy hl hl
  rw [decide_eq_true rfl] at this
  exact this.mono fun _ _ ⟨h1, n, h2⟩ => ⟨h1, by subst h2; exact below_drewN (Below.refl _ _) n⟩
theorem valid17_yes (A : Option Addr) (c : Nat) (xs : List Int) (w : World) (hx : RI .i64 w A (spcL xs)) : Calls Try.prog 27 #[.slice A 64 c] w fun e w' => e = .returned (.bool true) ∧ w = w' := by
  have h := refValid_any A c (spcL xs) w hx (by rw [spcL_len]; omega)
  rw [sp_spc, spcL_len] at h
  exact h
theorem check13_n (n : Nat) (A : Option Addr) (c : Nat) (xs : List Int) (w : World) (hn : xs.length = n) (hx : RI .i64 w A xs) (hl : n ≤ 140737488355328) :
    Calls Try.prog 28 #[.slice A n c] w fun e w' => e = .returned (.int .i64 (streamErr xs)) ∧ w = w' := by
  subst hn; exact refCheck13_any A c xs w hx hl
set_option maxRecDepth 100000 in
set_option maxHeartbeats 8000000 in
theorem crossAdds_main (A : Option Addr) (c : Nat) (xs : List Int) (B : Option Addr) (d : Nat) (ys : List Int) (D : Nat) (w : World)
    (hx : RI .i64 w A xs) (hlx : xs.length ≤ 9223372036854775807) (hy : RI .i64 w B ys) (hly : ys.length ≤ 9223372036854775807) (hf : fit17 xs = true) (hf2 : fit17 ys = true) (h32 : xs.length ≤ 32) (hlen : ys.length = xs.length) (hD : D + xs.length ≤ 32) :
    Calls Try.prog 6 #[.slice A xs.length c, .slice B ys.length d, .int .i64 (D : Int)] w fun e w' => e = .returned (.bool true) ∧ Below w.heap.size w w' := by
  have he := fit17_yes hf
  have he2 := fit17_yes hf2
  have d1 : decide (32 < xs.length) = false := decide_eq_false (by omega)
  have d2 : ((ys.length : Int) != (xs.length : Int)) = false := by rw [hlen]; simp
  have d3 : decide ((D : Int) < 0) = false := decide_eq_false (by omega)
  have f0 : IntKind.i64.wrap (32 - (xs.length : Int)) = 32 - (xs.length : Int) := IntWalk.i64_in _ (by omega)
  have d4 : decide (32 - (xs.length : Int) < (D : Int)) = false := decide_eq_false (by omega)
  have HLEN := Lib.hid hlen
  have H1 := fun w hx => spectrum_n xs.length A c xs _ w rfl rfl he h32 hx
  have H2 := fun w hx => spectrum_n ys.length B d ys _ w rfl rfl he2 (by omega) hx
  have H3 := fun n A c w hn hx => spectrum_n n A c (movL D xs) _ w hn (spc_mov hD) (mov_stream he (by omega)) (by rw [← hn, movL_len]; exact hD) hx
  have H4 := fun A c w hx => phase_w A c xs _ D w (by omega) rfl hx
  have H5 := fun (hs : streamErr (sumXY xs ys) = 0) A c w hx => spectrum_n xs.length A c (sumXY xs ys) _ w (sumXY_len xs ys) rfl hs h32 hx
  have HV1 := fun A c w hx => valid17_yes A c xs w hx
  have HV2 := fun A c w hx => valid17_yes A c ys w hx
  have HADD := Lib.hid (fun k (hk : k < 64) => spc_add (xs := xs) (ys := ys) hlen.symm k hk)
  have HFI := Lib.hid (spc_first (xs := xs) (by omega))
  have HSB := Lib.hid (fun k => sum_bd he k)
  have HL1 := Lib.hid (spcL_len xs)
  have HL2 := Lib.hid (spcL_len ys)
  have HL3 := Lib.hid (spcL_len (sumXY xs ys))
  have HLP := Lib.hid (fullL_len (phF 7681 (spcL xs) D) 64)
  have HE1 := Lib.hid (fun k => strm_bd he k)
  have HE2 := Lib.hid (fun k => strm_bd he2 k)
  have HEL1 := Lib.hid (of_decide_eq_true (sp_spc xs)).2
  have HEL2 := Lib.hid (of_decide_eq_true (sp_spc ys)).2
  have HSXY : Hid (∀ k, k < xs.length → (fullL (fun k => xs.getD k 0 + ys.getD k 0) (k + 1)) = fullL (fun k => xs.getD k 0 + ys.getD k 0) k ++ [xs.getD k 0 + ys.getD k 0]) := Lib.hid (fun k _ => fullL_succ _ _)
  generalize fullL (phF 7681 (spcL xs) D) 64 = PH at *
  generalize spcL (sumXY xs ys) = SC at *
  generalize spcL xs = SA at *
  generalize spcL ys = SB at *
  obtain ⟨i0, hi0, hz0, hz1, hz2⟩ := info_parts info_int
  have hmk := mk_row (P := Try.prog) 22 3 Try.underlying22 hi0 hz0 hz1 hz2 (encI .i64) (encI_len .i64) (by omega) 0 rfl D (by omega) (by omega)
  clear he he2 hlen
  go_enter Try.func6, Try.ntmps6
  go_wp2_with fail
  refine (alive17 _).mono ?_
  rintro _ w1 ⟨rfl, hb1⟩
  go_wp2_with fail
  refine (fit17_any _ _ _ _ (hx.keep hb1) hlx).mono ?_
  rintro _ _ ⟨rfl, rfl⟩
  rw [hf]
  go_wp2_with fail
  refine (fit17_any _ _ _ _ (hy.keep hb1) hly).mono ?_
  rintro _ _ ⟨rfl, rfl⟩
  rw [hf2]
  clear hf hf2
  go_wp2_with fail
  refine (H1 _ (hx.keep hb1)).mono ?_
  rintro _ w2 ⟨A2, c2, rfl, r2, hb2⟩
  have hB2 := bstep hb1 hb2
  clear hb1 hb2 H1
  go_wp2_with fail
  refine (H2 _ (hy.keep hB2)).mono ?_
  rintro _ w3 ⟨A3, c3, rfl, r3, hb3⟩
  have hB3 := bstep hB2 hb3
  replace r2 := r2.keep hb3
  clear hb3 hB2 H2
  have hownD : (w3.alloc (.cells ((List.replicate D (0 : Int)).flatMap (encI .i64)).toArray 3)).ownsRow w3.heap.size 3 1 (.slice (some ⟨w3.heap.size, 0, none⟩) D D) D ((List.replicate D (0 : Int)).flatMap (encI .i64)) := by
    have := own_blk (size := 1) (n := D) (Blk.new w3 3 ((List.replicate D (0 : Int)).flatMap (encI .i64)).toArray) (Nat.le_refl _) (by simp [flat_len _ 1 (encI_len .i64)]) (by unfold maxLen; omega)
    simpa using this
  have hb4' : Below w3.heap.size w3 (w3.alloc (.cells ((List.replicate D (0 : Int)).flatMap (encI .i64)).toArray 3)) := balloc (Below.refl _ _) _
  go_wp2_with (at_builtin; refine wpList_append_RI _ rfl (.tmp 71) (.tmp 72) 22 rfl w3.heap.size 3 i0 _ 8 Try.underlying22 hi0 hz0 hz1 hz2 rfl .i64 _ D (List.replicate D 0) rfl hownD A c xs rfl ((hx.keep hB3).keep hb4') (by unfold maxLen; omega) (by omega) (by simp) ?_; intro v4 w4 hown4 hgrow4; obtain ⟨A4, c4, rfl, hc4⟩ := own_shape' hown4)
  have hb4 := own_below hb4' hownD hgrow4 (Nat.le_refl _) (by simp)
  have hB4 := bstep hB3 hb4
  have r4 : RI .i64 w4 A4 (movL D xs) := own_RI_at (movL_len D xs) hown4
  replace r2 := r2.keep hb4
  replace r3 := r3.keep hb4
  clear hb4 hB3 hb4' hownD hown4 hgrow4 hmk
  refine (H3 _ _ _ _ (movL_len D xs) r4).mono ?_
  rintro _ w5 ⟨A5, c5, rfl, r5, hb5⟩
  have hB5 := bstep hB4 hb5
  replace r2 := r2.keep hb5
  replace r3 := r3.keep hb5
  clear hb5 hB4 r4 H3
  go_wp2_with fail
  refine (H4 _ _ _ r2).mono ?_
  rintro _ w6 ⟨A6, c6, rfl, r6, hb6⟩
  have hB6 := bstep hB5 hb6
  replace r2 := r2.keep hb6
  replace r3 := r3.keep hb6
  replace r5 := r5.keep hb6
  clear hb6 hB5 H4
  go_wp2_with fail
  refine (HV1 _ _ _ r2).mono ?_
  rintro _ _ ⟨rfl, rfl⟩
  go_wp2_with fail
  refine (HV2 _ _ _ r3).mono ?_
  rintro _ _ ⟨rfl, rfl⟩
  go_wp2_with fail
  refine (same17_yes _ _ _ _ _ _ PH HLP.out HLP.out _ r5 r6 (by omega)).mono ?_
  rintro _ w7 ⟨rfl, hb7⟩
  have hB7 := bstep hB6 hb7
  replace r2 := r2.keep hb7
  replace r3 := r3.keep hb7
  clear hb7 hB6 r5 r6 HV1 HV2
  have rx := hx.keep hB7
  have ry := hy.keep hB7
  go_wp2
  go_loopg [16, 17, 18] xs.length (fun gk v s i wr => ∃ (k : Nat), k + gk = xs.length ∧ i = .int .i64 k ∧ s = .int .i64 (S (fun u => xs.getD u 0) k) ∧ wr.ownsRow w7.heap.size 3 1 v k ((fullL (fun k => xs.getD k 0 + ys.getD k 0) k).flatMap (encI .i64)) ∧ Below w7.heap.size w7 wr)
  case atStart => exact ⟨0, by omega, rfl, rfl, World.ownsRow_nil _ _ _ _, Below.refl _ _⟩
  case round =>
    obtain ⟨k, hk, rfl, rfl, hO, hb⟩ := hrel
    have hk' : k ≤ xs.length := by omega
    have HK := Lib.hid hk
    clear hk
    have hsz := hb.size
    have hsb := HSB.out k (by omega)
    obtain ⟨A8, c8, rfl, hc8⟩ := own_shape' hO
    by_cases hlt : k < xs.length
    · have hlty : k < ys.length := by rw [HLEN.out]; exact hlt
      obtain ⟨b1, o1, rfl, l1, h1⟩ := rx.at2 hlt
      obtain ⟨b2, o2, rfl, l2, h2⟩ := ry.at2 hlty
      have hx3 := HE1.out k
      have hy3 := HE2.out k
      have HN := Lib.hid (HSXY.out k hlt)
      have HSS := Lib.hid (show S (fun u => xs.getD u 0) (k + 1) = S (fun u => xs.getD u 0) k + xs.getD k 0 from rfl)
      generalize S (fun u => xs.getD u 0) k = T at *
      generalize xs.getD k 0 = X at *
      generalize ys.getD k 0 = Y at *
      have f1 : IntKind.i64.wrap (X + Y) = X + Y := IntWalk.i64_in _ (by omega)
      have f2 : IntKind.i64.wrap (T + X) = T + X := IntWalk.i64_in _ (by omega)
      have hcA : wr.cell? ⟨b1, o1 + k, none⟩ = some (.int .i64 X) := (hb.cell (p := ⟨b1, o1 + k, none⟩) l1).trans h1
      have hcB : wr.cell? ⟨b2, o2 + k, none⟩ = some (.int .i64 Y) := (hb.cell (p := ⟨b2, o2 + k, none⟩) l2).trans h2
      go_wp2
      go_region_held3 (fun w' => w'.cell? ⟨b1, o1 + k, none⟩ = some (.int .i64 X) ∧ w'.cell? ⟨b2, o2 + k, none⟩ = some (.int .i64 Y))
        (first | go_keep | exact ⟨hcA, hcB⟩ | exact ⟨(hB9.cell (p := ⟨b1, o1 + k, none⟩) l1).trans h1, (hB9.cell (p := ⟨b2, o2 + k, none⟩) l2).trans h2⟩ | fail)
        ((refine step_append_lies _ (by rfl) (.tmp 119) (.tmp 129) _ (by rfl) w7.heap.size 3 i0 _ 1 8 Try.underlying22 hi0 hz0 hz1 hz2 rfl (by omega) _ k _ (by rfl) (World.ownsRow.drew (hO.alloc (.cells #[.int .i64 (X + Y)] 3))) ⟨wr.heap.size, 0, none⟩ 1 1 (encI .i64 (X + Y)) (by rfl) (by rfl) (encI_news wr _ _ _) (encI_one _ _) (by omega) (by unfold maxLen; omega) (by omega) (by simp [World.drew]; omega) (wr.heap.size + 1) (by simp [World.drew]) ?_; intro g9 c9 w9 hown9 hgrow9 hat9 hlt9; have hB9 := own_below (balloc hb (.cells #[.int .i64 (X + Y)] 3)).drew (World.ownsRow.drew (hO.alloc (.cells #[.int .i64 (X + Y)] 3))) hgrow9 (Nat.le_refl _) (by simp [World.drew]; omega)))
      have hcA9 : w9.cell? ⟨b1, o1 + k, none⟩ = some (.int .i64 X) := (hB9.cell (p := ⟨b1, o1 + k, none⟩) l1).trans h1
      clear hcA hcB h1 h2
      go_wp2
      go_roundg (gk - 1)
      case rel => exact ⟨k + 1, by have := HK.out; omega, by go_num, by rw [HSS.out], by rw [HN.out, flat_snoc]; exact hown9, hB9⟩
      case measure => have := HK.out; omega
    · obtain rfl : k = xs.length := by omega
      have r8 : RI .i64 wr A8 (sumXY xs ys) := own_RI_at (fullL_len _ _) hO
      have hB8 := bstep hB7 hb
      replace r2 := r2.keep hb
      replace r3 := r3.keep hb
      obtain ⟨b2, o2, rfl, l2, h2⟩ := r2.at2 (i := 0) (by rw [HL1.out]; omega)
      rw [HFI.out, Nat.add_zero] at h2
      clear hO hB7 hb rx ry HSXY HSB HFI HE1 HE2 hlt HK
      generalize S (fun u => xs.getD u 0) xs.length = T at *
      have f5 : IntKind.i64.wrap (T + 7681) = T + 7681 := IntWalk.i64_in _ (by omega)
      have hTT : (T % 7681 != (T + 7681) % 7681) = false := by rw [Int.add_emod_right]; simp
      have hT0 : 0 ≤ T + 7681 := by omega
      have HC13 := fun w hx => check13_n xs.length A8 c8 (sumXY xs ys) w (sumXY_len xs ys) hx (by omega)
      by_cases hse : streamErr (sumXY xs ys) = 0
      · have H6 := H5 hse
        rw [hse] at HC13
        clear hse H5
        go_wp2_with fail
        refine (HC13 _ r8).mono ?_
        rintro _ _ ⟨rfl, rfl⟩
        go_wp2_with fail
        refine (H6 _ _ _ r8).mono ?_
        rintro _ w9 ⟨A9, c9, rfl, r9, hb9⟩
        have hB9 := bstep hB8 hb9
        replace r2 := r2.keep hb9
        replace r3 := r3.keep hb9
        clear hb9 hB8 r8 h2 hTT
        go_wp2
        go_loopg [21] 64 (fun gk i wr => ∃ (k q : Nat), k + gk = 64 ∧ i = .int .i64 k ∧ wr = w9.drewN q)
        case atStart => exact ⟨0, 0, by omega, rfl, rfl⟩
        case round =>
          obtain ⟨k, q, hk, rfl, rfl⟩ := hrel
          have hk' : k ≤ 64 := by omega
          have HK := Lib.hid hk
          clear hk
          by_cases hlt : k < 64
          · obtain ⟨b2', o2', e2, _, h2⟩ := r2.at2 (i := k) (by rw [HL1.out]; exact hlt)
            obtain ⟨rfl, rfl⟩ : b2 = b2' ∧ o2 = o2' := by injection e2 with e2; injection e2 with e5 e6; exact ⟨e5, e6⟩
            obtain ⟨b3, o3, rfl, _, h3⟩ := r3.at2 (i := k) (by rw [HL2.out]; exact hlt)
            obtain ⟨b9, o9, rfl, _, h9⟩ := r9.at2 (i := k) (by rw [HL3.out]; exact hlt)
            rw [HADD.out k hlt] at h9
            have hbx := HEL1.out k (by rw [HL1.out]; exact hlt)
            have hby := HEL2.out k (by rw [HL2.out]; exact hlt)
            generalize SA.getD k 0 = X at *
            generalize SB.getD k 0 = Y at *
            have f6 : IntKind.i64.wrap (X + Y) = X + Y := IntWalk.i64_in _ (by omega)
            have f7 : (X + Y).tmod 7681 = (X + Y) % 7681 := Int.tmod_eq_emod_of_nonneg (by omega)
            have hvv : ((X + Y) % 7681 != (X + Y) % 7681) = false := by simp
            clear e2
            go_wp2
            go_quiet (fail)
            go_wp2
            go_roundg (gk - 1)
            case rel => exact ⟨k + 1, _, by have := HK.out; omega, by go_num, rfl⟩
            case measure => have := HK.out; omega
          · go_wp2
            go_ret
            exact ⟨rfl, below_drewN hB9 _⟩
      · have e9 : (streamErr (sumXY xs ys) != 0) = true := by simpa using hse
        clear hse H5
        go_wp2_with fail
        refine (HC13 _ r8).mono ?_
        rintro _ _ ⟨rfl, rfl⟩
        go_wp2
        go_ret
        exact ⟨rfl, hB8⟩
set_option maxRecDepth 100000 in
set_option maxHeartbeats 4000000 in
theorem crossAdds_walk (A : Option Addr) (c : Nat) (xs : List Int) (B : Option Addr) (d : Nat) (ys : List Int) (by_ : Int) (w : World)
    (hx : RI .i64 w A xs) (hlx : xs.length ≤ 9223372036854775807) (_ : ∀ x ∈ xs, (Lit.int .i64 x).wf = true)
    (hy : RI .i64 w B ys) (hly : ys.length ≤ 9223372036854775807) (_ : ∀ x ∈ ys, (Lit.int .i64 x).wf = true)
    (hby : -9223372036854775808 ≤ by_ ∧ by_ ≤ 9223372036854775807) :
    Calls Try.prog 6 #[.slice A xs.length c, .slice B ys.length d, .int .i64 by_] w fun e w' => e = .returned (.bool true) ∧ Below w.heap.size w w' := by
  cases hf : fit17 xs with
  | false =>
    go_enter Try.func6, Try.ntmps6
    go_wp2_with fail
    refine (alive17 _).mono ?_
    rintro _ w1 ⟨rfl, hb1⟩
    go_wp2_with fail
    refine (fit17_any _ _ _ _ (hx.keep hb1) hlx).mono ?_
    rintro _ _ ⟨rfl, rfl⟩
    rw [hf]
    go_wp2
    go_ret
    exact ⟨rfl, hb1⟩
  | true =>
    cases hf2 : fit17 ys with
    | false =>
      go_enter Try.func6, Try.ntmps6
      go_wp2_with fail
      refine (alive17 _).mono ?_
      rintro _ w1 ⟨rfl, hb1⟩
      go_wp2_with fail
      refine (fit17_any _ _ _ _ (hx.keep hb1) hlx).mono ?_
      rintro _ _ ⟨rfl, rfl⟩
      rw [hf]
      go_wp2_with fail
      refine (fit17_any _ _ _ _ (hy.keep hb1) hly).mono ?_
      rintro _ _ ⟨rfl, rfl⟩
      rw [hf2]
      go_wp2
      go_ret
      exact ⟨rfl, hb1⟩
    | true =>
      by_cases h32 : xs.length ≤ 32
      · have d1 : decide (32 < xs.length) = false := decide_eq_false (by omega)
        have f0 : IntKind.i64.wrap (32 - (xs.length : Int)) = 32 - (xs.length : Int) := IntWalk.i64_in _ (by omega)
        by_cases hlen : ys.length = xs.length
        · by_cases hb0 : 0 ≤ by_
          · obtain ⟨D, rfl⟩ := Int.eq_ofNat_of_zero_le hb0
            by_cases hD : D + xs.length ≤ 32
            · exact crossAdds_main A c xs B d ys D w hx hlx hy hly hf hf2 h32 hlen hD
            · have d2 : ((ys.length : Int) != (xs.length : Int)) = false := by rw [hlen]; simp
              have d3 : decide ((D : Int) < 0) = false := decide_eq_false (by omega)
              have d4 : decide (32 - (xs.length : Int) < (D : Int)) = true := decide_eq_true (by omega)
              clear hlen
              go_enter Try.func6, Try.ntmps6
              go_wp2_with fail
              refine (alive17 _).mono ?_
              rintro _ w1 ⟨rfl, hb1⟩
              go_wp2_with fail
              refine (fit17_any _ _ _ _ (hx.keep hb1) hlx).mono ?_
              rintro _ _ ⟨rfl, rfl⟩
              rw [hf]
              go_wp2_with fail
              refine (fit17_any _ _ _ _ (hy.keep hb1) hly).mono ?_
              rintro _ _ ⟨rfl, rfl⟩
              rw [hf2]
              go_wp2
              go_ret
              exact ⟨rfl, hb1⟩
          · have d2 : ((ys.length : Int) != (xs.length : Int)) = false := by rw [hlen]; simp
            have d3 : decide (by_ < 0) = true := decide_eq_true (by omega)
            clear hlen
            go_enter Try.func6, Try.ntmps6
            go_wp2_with fail
            refine (alive17 _).mono ?_
            rintro _ w1 ⟨rfl, hb1⟩
            go_wp2_with fail
            refine (fit17_any _ _ _ _ (hx.keep hb1) hlx).mono ?_
            rintro _ _ ⟨rfl, rfl⟩
            rw [hf]
            go_wp2_with fail
            refine (fit17_any _ _ _ _ (hy.keep hb1) hly).mono ?_
            rintro _ _ ⟨rfl, rfl⟩
            rw [hf2]
            go_wp2
            go_ret
            exact ⟨rfl, hb1⟩
        · have d2 : ((ys.length : Int) != (xs.length : Int)) = true := by rw [bne_iff_ne]; omega
          clear hlen
          go_enter Try.func6, Try.ntmps6
          go_wp2_with fail
          refine (alive17 _).mono ?_
          rintro _ w1 ⟨rfl, hb1⟩
          go_wp2_with fail
          refine (fit17_any _ _ _ _ (hx.keep hb1) hlx).mono ?_
          rintro _ _ ⟨rfl, rfl⟩
          rw [hf]
          go_wp2_with fail
          refine (fit17_any _ _ _ _ (hy.keep hb1) hly).mono ?_
          rintro _ _ ⟨rfl, rfl⟩
          rw [hf2]
          go_wp2
          go_ret
          exact ⟨rfl, hb1⟩
      · have d1 : decide (32 < xs.length) = true := decide_eq_true (by omega)
        go_enter Try.func6, Try.ntmps6
        go_wp2_with fail
        refine (alive17 _).mono ?_
        rintro _ w1 ⟨rfl, hb1⟩
        go_wp2_with fail
        refine (fit17_any _ _ _ _ (hx.keep hb1) hlx).mono ?_
        rintro _ _ ⟨rfl, rfl⟩
        rw [hf]
        go_wp2_with fail
        refine (fit17_any _ _ _ _ (hy.keep hb1) hly).mono ?_
        rintro _ _ ⟨rfl, rfl⟩
        rw [hf2]
        go_wp2
        go_ret
        exact ⟨rfl, hb1⟩
end Crs
end Go.Proofs.Ytcpmpfnickhojaa
