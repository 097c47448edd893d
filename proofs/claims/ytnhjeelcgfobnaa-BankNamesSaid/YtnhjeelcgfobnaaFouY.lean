/-
  Contracts of the reference's Forward and Phase that tell where the new row lies.
-/
import Derived.Test.YtnhjeelcgfobnaaPFouG
import Derived.Test.YtnhjeelcgfobnaaPFouG
namespace Go.Proofs.Ytnhjeelcgfobnaa
open Go.RowKit Num
set_option maxRecDepth 8000
set_option linter.unusedVariables false
set_option linter.unusedSimpArgs false

theorem own_RIo_at {k : IntKind} {w : World} {base : Nat} {e : TypeId} {A : Option Addr} {c n : Nat} {l : List Int} (hn : l.length = n) (h : w.ownsRow base e 1 (.slice A n c) n (l.flatMap (encI k))) : Lol.RIo k base w A l := by
  subst hn; exact Lol.own_RIo h
theorem refFwdN_any (p : Int) (A : Option Addr) (c : Nat) (l : List Int) (w : World) (hx : RI .i64 w A l) (hl : l.length ≤ 9223372036854775807) (hp1 : -9223372036854775808 ≤ p) (hp2 : p ≤ 9223372036854775807) :
    Calls Try.prog 46 #[.int .i64 p, .slice A l.length c] w (RetN w (fwdS p l)) := by
  rcases chkL_cases p l with ⟨e0, P, rfl, hF⟩ | e0
  · have c0 : (chkL (P : Int) l != 0) = false := by rw [e0]; rfl
    have HS := Lib.hid (show fwdS (P : Int) l = (fullL (smF P l (rootN P l.length) false) l.length, 0) by
      unfold fwdS; rw [if_pos e0]
      show (fwdL P l, (0 : Int)) = _
      unfold fwdL
      rw [fullL_congr (fun i _ => smF_false P l (rootN P l.length) i)])
    have HF := Lib.hid hF
    clear hF e0
    have h4 := HF.out.le
    go_enter Try.func46, Try.ntmps46
    go_wp2_with fail
    refine (refChk_any _ _ _ _ _ hx hl (by omega) (by omega)).mono ?_
    rintro _ w1 ⟨rfl, hb1⟩
    go_wp2_with fail
    refine (refSums_fwd P _ _ l _ (hx.keep hb1) HF.out).mono ?_
    rintro _ w2 ⟨A2, c2, rfl, hc2, ho2, hb2⟩
    go_wp2
    go_ret2
    exact RetN.row HS.out rfl ((Lol.own_RIo ho2).mono hb1.size) hc2 (bstep hb1 hb2)
  · have c0 : (chkL p l != 0) = true := by rw [bne_iff_ne]; exact e0
    have HS := Lib.hid (show fwdS p l = ([], chkL p l) by unfold fwdS; rw [if_neg e0])
    clear e0
    go_enter Try.func46, Try.ntmps46
    go_wp2_with fail
    refine (refChk_any _ _ _ _ _ hx hl hp1 hp2).mono ?_
    rintro _ w1 ⟨rfl, hb1⟩
    go_wp2_with fail
    refine (refChk_any _ _ _ _ _ (hx.keep hb1) hl hp1 hp2).mono ?_
    rintro _ w2 ⟨rfl, hb2⟩
    go_wp2
    go_ret2
    exact RetN.no HS.out (bstep hb1 hb2)
set_option maxHeartbeats 400000 in
theorem refPhaseN_any (p : Int) (A : Option Addr) (c : Nat) (l : List Int) (d : Int) (w : World) (hx : RI .i64 w A l) (hl : l.length ≤ 9223372036854775807) (hp1 : -9223372036854775808 ≤ p) (hp2 : p ≤ 9223372036854775807) (hd : -9223372036854775808 ≤ d ∧ d ≤ 9223372036854775807) :
    Calls Try.prog 39 #[.int .i64 p, .slice A l.length c, .int .i64 d] w (RetN w (phS p l d)) := by
  rcases chkL_cases p l with ⟨e0, P, rfl, hF⟩ | e0
  · have c0 : (chkL (P : Int) l != 0) = false := by rw [e0]; rfl
    have HS := Lib.hid (show phS (P : Int) l d = (fullL (phF P l (rotD d l.length)) l.length, 0) by unfold phS; rw [if_pos e0]; rfl)
    have h1 := hF.l1
    have h2 := hF.l64
    have h3 := hF.pr.1
    have h4 := hF.le
    have HF := Lib.hid hF
    clear e0 hF
    obtain ⟨i0, hi0, hz0, hz1, hz2⟩ := info_int64
    have hD := rotD_lt d h1
    have hW := fun w => at_any d l.length w h1 (by omega) hd
    simp only [rotD_cast d h1] at hW
    have HW := Lib.hid hW
    clear hW
    generalize rotD d l.length = D at *
    have hwl := fullL_len (pwF P (rootN P l.length)) l.length
    go_enter Try.func39, Try.ntmps39
    go_wp2_with fail
    refine (refChk_any _ _ _ _ _ hx hl (by omega) (by omega)).mono ?_
    rintro _ w0 ⟨rfl, hb0⟩
    go_wp2_with fail
    refine (root11_any P l _ HF.out).mono ?_
    rintro _ w1 ⟨A1, c1, rfl, hc1', ho1, hb1'⟩
    have hb1 := bstep hb0 hb1'
    have r1 := own_RI ho1
    have hx1 := hx.keep hb1
    clear ho1 hb0 hb1'
    simp only [hwl]
    go_wp2
    go_loopg [9, 10] l.length (fun gk v i wr => ∃ k : Nat, k + gk = l.length ∧ i = .int .i64 k ∧ wr.ownsRow w1.heap.size 2 1 v k ((fullL (phF P l D) k).flatMap (encI .i64)) ∧ Below w1.heap.size w1 wr)
    case atStart => exact ⟨0, by omega, rfl, World.ownsRow_nil _ _ _ _, Below.refl _ _⟩
    case round =>
      obtain ⟨k, hk, rfl, hO, hb⟩ := hrel
      have hk' : k ≤ l.length := by omega
      have HK := Lib.hid hk
      clear hk
      have hsz := hb.size
      obtain ⟨A8, c8, rfl, hc8⟩ := own_shape' hO
      by_cases hlt : k < l.length
      · obtain ⟨b1, off1, rfl, hlw1, hc1⟩ := hx1.at2 hlt
        have hm : D * k % l.length < l.length := Nat.mod_lt _ (by omega)
        have hdk : D * k ≤ 64 * 64 := Nat.mul_le_mul (by omega) (by omega)
        obtain ⟨b2, off2, rfl, hlw2, hc2⟩ := r1.at2 (i := D * k % l.length) (by rw [fullL_len]; exact hm)
        rw [fullL_getD _ _ _ _ hm] at hc2
        have bx := HF.out.el k hlt
        have by' := pwF_bd (P := P) (R := rootN P l.length) (by omega) (D * k % l.length)
        have HN := Lib.hid (show l.getD k 0 * pwF P (rootN P l.length) (D * k % l.length) % (P : Int) = phF P l D k from rfl)
        have hw1 : IntKind.i64.wrap ((D : Int) * (k : Int)) = ((D * k : Nat) : Int) := mul_wrap (by omega) (by omega)
        generalize D * k = jk at *
        have hAt : ∀ wq : World, Calls Try.prog 62 #[.int .i64 (jk : Int), .int .i64 l.length] wq fun e w' => e = .returned (.int .i64 ((jk % l.length : Nat) : Int)) ∧ wq = w' := by
          intro wq
          exact at_any (jk : Int) l.length wq h1 (by omega) (by omega)
        generalize jk % l.length = m at *
        have HAT := Lib.hid hAt
        clear hAt
        generalize l.getD k 0 = X at *
        generalize pwF P (rootN P l.length) m = Y at *
        have fm := fit_mul (s := 0) h4 bx by'
        obtain ⟨Z, hZ⟩ : ∃ Z, Z = X * Y := ⟨_, rfl⟩
        have hw2 : IntKind.i64.wrap (X * Y) = Z := by rw [IntWalk.i64_in _ (by omega), hZ]
        rw [← hZ] at HN fm
        clear hZ
        have HN2 := Lib.hid (show Z.tmod (P : Int) = phF P l D k by rw [Int.tmod_eq_emod_of_nonneg fm.1]; exact HN.out)
        have hzP : ((P : Int) == 0) = false := by rw [beq_eq_false_iff_ne]; omega
        have hzP2 : ¬ ((P : Int) = 0) := by omega
        have hzP3 : ¬ (P = 0) := by omega
        have hcA : wr.cell? ⟨b1, off1 + k, none⟩ = some (.int .i64 X) := (hb.cell (p := ⟨b1, off1 + k, none⟩) hlw1).trans hc1
        have hcB : wr.cell? ⟨b2, off2 + m, none⟩ = some (.int .i64 Y) := (hb.cell (p := ⟨b2, off2 + m, none⟩) hlw2).trans hc2
        go_wp2
        go_region_held3 (fun w' => w'.cell? ⟨b1, off1 + k, none⟩ = some (.int .i64 X) ∧ w'.cell? ⟨b2, off2 + m, none⟩ = some (.int .i64 Y))
          (first | go_keep | exact ⟨hcA, hcB⟩ | exact ⟨(hB4.cell (p := ⟨b1, off1 + k, none⟩) hlw1).trans hc1, (hB4.cell (p := ⟨b2, off2 + m, none⟩) hlw2).trans hc2⟩)
          ((first
            | (go_at_call 62; with_reducible refine (HW.out _).mono ?_; rintro e wq ⟨rfl, rfl⟩)
            | (go_at_call 62; with_reducible refine (HAT.out _).mono ?_; rintro e wq ⟨rfl, rfl⟩)
            | (refine step_append_lies _ (by rfl) (.tmp 28) (.tmp 48) _ (by rfl) w1.heap.size 2 i0 _ 1 8 Try.underlying31 hi0 hz0 hz1 hz2 rfl (by omega) _ k _ (by rfl) (World.ownsRow.drew (hO.alloc (.cells #[.int .i64 (Z.tmod (P : Int))] 2))) ⟨wr.heap.size, 0, none⟩ 1 1 (encI .i64 (Z.tmod (P : Int))) (by rfl) (by rfl) (encI_news wr _ _ _) (encI_one _ _) (by omega) (by unfold maxLen; omega) (by omega) (by simp [World.drew]; omega) (wr.heap.size + 1) (by simp [World.drew]) ?_; intro g4 c4 w4 hown4 hgrow4 hat4 hlt4; have hB4 := own_below (balloc hb (.cells #[.int .i64 (Z.tmod (P : Int))] 2)).drew (World.ownsRow.drew (hO.alloc (.cells #[.int .i64 (Z.tmod (P : Int))] 2))) hgrow4 (Nat.le_refl _) (by simp [World.drew]; omega))))
        all_goals go_wp2
        all_goals
          go_roundg (gk - 1)
          case rel => exact ⟨k + 1, by have := HK.out; omega, by go_num, by rw [fullL_succ, flat_snoc, ← HN2.out]; exact hown4, hB4⟩
          case measure => have := HK.out; omega
      · obtain rfl : k = l.length := by omega
        go_wp2
        go_ret2
        exact RetN.row HS.out (fullL_len _ _) ((own_RIo_at (fullL_len _ _) hO).mono hb1.size) hc8 (bstep hb1 hb)
  · have c0 : (chkL p l != 0) = true := by rw [bne_iff_ne]; exact e0
    have HS := Lib.hid (show phS p l d = ([], chkL p l) by unfold phS; rw [if_neg e0])
    clear e0
    go_enter Try.func39, Try.ntmps39
    go_wp2_with fail
    refine (refChk_any _ _ _ _ _ hx hl hp1 hp2).mono ?_
    rintro _ w1 ⟨rfl, hb1⟩
    go_wp2_with fail
    refine (refChk_any _ _ _ _ _ (hx.keep hb1) hl hp1 hp2).mono ?_
    rintro _ w2 ⟨rfl, hb2⟩
    go_wp2
    go_ret2
    exact RetN.no HS.out (bstep hb1 hb2)
end Go.Proofs.Ytnhjeelcgfobnaa
