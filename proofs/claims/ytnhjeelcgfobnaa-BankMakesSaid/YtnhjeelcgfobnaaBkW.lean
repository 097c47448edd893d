/-
  Layer 12 (bank): the walk of BankMakes.
-/
import Derived.Test.YtnhjeelcgfobnaaBkV
namespace Go.Proofs.Ytnhjeelcgfobnaa
open Go.RowKit Num
set_option maxRecDepth 8000
set_option linter.unusedVariables false
set_option linter.unusedSimpArgs false
namespace Bk
open Lol Crs

theorem Small.of {L : List (List Int)} (h1 : L.length ≤ 300) (h2 : ∀ l ∈ L, l.length ≤ 30) : Small L := ⟨by omega, fun l hl => by have := h2 l hl; omega⟩
set_option maxRecDepth 20000 in
set_option maxHeartbeats 4000000 in
theorem bankMakes_walk (p n : Int) (S : Option Addr) (cs : Nat) (s : List Int) (A : Option Addr) (c : Nat) (b : List (List Int)) (K : Option Addr) (ck : Nat) (kp : List Bool) (w : World)
    (hp : -9223372036854775808 ≤ p ∧ p ≤ 9223372036854775807) (_ : -9223372036854775808 ≤ n ∧ n ≤ 9223372036854775807)
    (hs : RI .i64 w S s) (hls : s.length ≤ 9223372036854775807) (_ : ∀ x ∈ s, (Lit.int .i64 x).wf = true) (hcap : s.length ≤ cs)
    (hx : RLL .i64 w A b) (_ : b.length ≤ 9223372036854775807) (hk : RBo w K kp) (_ : kp.length ≤ 9223372036854775807) :
    Calls Try.prog 4 #[.int .i64 p, .int .i64 n, .slice S s.length cs, .slice A b.length c, .slice K kp.length ck] w fun e w' => e = .returned (.bool true) ∧ Below w.heap.size w w' := by
  have HG1 := Lib.hid (fun w hx => great_any A c b w hx)
  cases hg1 : greatB b
  · rw [hg1] at HG1
    rcases (Decidable.em (s.length ≤ 300)).symm with h1 | h1
    · have d1 : decide (300 < s.length) = true := by simp; omega
      have d1' : decide (300 < (s.length : Int)) = true := by simp; omega
      go_enter Try.func4, Try.ntmps4
      go_wp2_with fail
      refine (HG1.out _ hx).mono ?_
      rintro _ _ ⟨rfl, rfl⟩
      go_wp2
      go_ret
      exact ⟨rfl, Below.refl _ _⟩
    have d1 : decide (300 < s.length) = false := by simp; omega
    have d1' : decide (300 < (s.length : Int)) = false := by simp; omega
    rcases (Decidable.em (kp.length ≤ 30)).symm with h2 | h2
    · have d2 : decide (30 < kp.length) = true := by simp; omega
      have d2' : decide (30 < (kp.length : Int)) = true := by simp; omega
      go_enter Try.func4, Try.ntmps4
      go_wp2_with fail
      refine (HG1.out _ hx).mono ?_
      rintro _ _ ⟨rfl, rfl⟩
      go_wp2
      go_ret
      exact ⟨rfl, Below.refl _ _⟩
    have d2 : decide (30 < kp.length) = false := by simp; omega
    have d2' : decide (30 < (kp.length : Int)) = false := by simp; omega
    obtain ⟨gb1, gb2⟩ := great_no hg1
    have HTW := Lib.hid (fun w hx => twin12_any A c b w hx gb1 gb2)
    have LB := Small.of gb1 gb2
    have HS1 := Lib.hid (fun w hs => split_any p n S cs s w hp.1 hp.2 hs hls hcap)
    have HS2 := Lib.hid (fun w hs => refSplit_any p n S cs s w hp.1 hp.2 hs)
    have HM1 := Lib.hid (fun w hx => merge_any p A c b w hp.1 hp.2 hx)
    have HM2 := Lib.hid (fun w hx => refMerge_any p A c b w hp.1 hp.2 hx)
    have HK1 := Lib.hid (fun w hx hk => keep_any p A c b K ck kp w hp.1 hp.2 hx hk)
    have HK2 := Lib.hid (fun w hx hk => refKeep_any p A c b K ck kp w hp.1 hp.2 hx hk)
    have L1 := split_smallS p n s
    have L2 := merge_small p b
    have L3 := keep_small p b kp
    obtain ⟨L4, L5⟩ := keep_small2 p b kp
    have HL5 := Lib.hid L5
    clear hg1 L5 gb1 gb2
    generalize splitS p n s = R1 at *
    generalize mergeS p b = R2 at *
    generalize keepS p b kp = R3 at *
    go_enter Try.func4, Try.ntmps4
    go_wp2_with fail
    refine (HG1.out _ hx).mono ?_
    rintro _ _ ⟨rfl, rfl⟩
    go_wp2_with fail
    refine (HTW.out _ hx).mono ?_
    rintro _ w0 ⟨⟨A0, k0, rfl, r0⟩, hB0⟩
    go_wp2_with fail
    refine (HS1.out _ (hs.keep hB0)).mono ?_
    rintro _ w1 ⟨A1, k1, rfl, r1, hb1⟩
    have hB1 := bstep hB0 hb1
    replace r0 := r0.keep hb1
    clear hb1 hB0
    go_wp2_with fail
    refine (HS2.out _ (hs.keep hB1)).mono ?_
    rintro _ w2 ⟨A2, k2, rfl, r2, hb2⟩
    have hB2 := bstep hB1 hb2
    replace r0 := r0.keep hb2
    replace r1 := r1.keep hb2
    clear hb2 hB1
    go_wp2_with fail
    refine (HM1.out _ (hx.keep hB2)).mono ?_
    rintro _ w3 ⟨A3, k3, rfl, r3, hb3⟩
    have hB3 := bstep hB2 hb3
    replace r0 := r0.keep hb3
    replace r1 := r1.keep hb3
    replace r2 := r2.keep hb3
    clear hb3 hB2
    go_wp2_with fail
    refine (HM2.out _ (hx.keep hB3)).mono ?_
    rintro _ w4 ⟨A4, k4, rfl, r4, hb4⟩
    have hB4 := bstep hB3 hb4
    replace r0 := r0.keep hb4
    replace r1 := r1.keep hb4
    replace r2 := r2.keep hb4
    replace r3 := r3.keep hb4
    clear hb4 hB3
    go_wp2_with fail
    refine (HK1.out _ (hx.keep hB4) (hk.keep hB4)).mono ?_
    rintro _ w5 ⟨A5, k5, rfl, g5, hb5⟩
    have hO5 := over_grid g5 HL5.out
    have r5 : RLL .i64 w5 A5 R3.1 := by
      rcases g5 with g5 | ⟨g, raws, rfl, _, hk5, hG5⟩
      · rw [g5]; exact RLL.nil
      · exact blk_RLL hk5 hG5.els
    have r0' := r0
    have hx4 := hx.keep hB4
    have hB5 := bstep hB4 hb5
    replace r1 := r1.keep hb5
    replace r2 := r2.keep hb5
    replace r3 := r3.keep hb5
    replace r4 := r4.keep hb5
    clear g5
    go_wp2_with fail
    refine (HK2.out _ (hx.keep hB5) (hk.keep hB5)).mono ?_
    rintro _ w6 ⟨A6, k6, rfl, r6, hb6⟩
    have hb56 := bstep hb5 hb6
    replace r1 := r1.keep hb6
    replace r2 := r2.keep hb6
    replace r3 := r3.keep hb6
    replace r4 := r4.keep hb6
    replace r5 := r5.keep hb6
    replace hO5 := hO5.keep hb6
    clear hb6 hb5 hB5
    go_wp2_with fail
    refine (same12_any _ _ _ _ _ _ _ r1 r2 L1 L1).mono ?_
    rintro _ _ ⟨rfl, q1, rfl⟩
    go_wp2_with fail
    refine (sameStreams_any _ _ _ _ _ _ _ (r3.keep (below_drewN (Below.refl _ _) _)) (r4.keep (below_drewN (Below.refl _ _) _)) (by omega) (by omega)).mono ?_
    rintro _ _ ⟨rfl, q2, rfl⟩
    go_wp2_with fail
    refine (same12_any _ _ _ _ _ _ _ (r5.keep (below_drewN (Below.refl _ _) _)) (r6.keep (below_drewN (Below.refl _ _) _)) L3 L3).mono ?_
    rintro _ _ ⟨rfl, q3, rfl⟩
    go_wp2
    have hbZ : ∀ q, Below w4.heap.size w4 (World.drewN w6 q) := fun q => below_drewN hb56 q
    have hOZ : ∀ q, Over w4.heap.size A5 R3.1.length (World.drewN w6 q) := fun q => hO5.keep (below_drewN (Below.refl _ _) q)
    clear r1 r2 r3 r4 r5 r6 hO5 hb56
    go_loopg [24] R3.1.length (fun gk i wr => ∃ t : Nat, t + gk = R3.1.length ∧ i = .int .i64 t ∧ Over w4.heap.size A5 R3.1.length wr ∧ Below w4.heap.size w4 wr)
    case atStart => exact ⟨0, by omega, rfl, by first | exact hOZ _ | (simp only [World.drewN_drewN]; exact hOZ _), by first | exact hbZ _ | (simp only [World.drewN_drewN]; exact hbZ _)⟩
    case round =>
      clear hOZ hbZ
      obtain ⟨t, ht, rfl, hO, hb⟩ := hrel
      have ht' : t ≤ R3.1.length := by omega
      have HKK := Lib.hid ht
      clear ht
      by_cases hlt : t < R3.1.length
      · obtain ⟨g, raws, rfl, hgk, hrows⟩ := hO (by omega)
        obtain ⟨G, n5, cs5, e5, hG1, hG2, hG3, hG4⟩ := hrows t hlt
        have q0 := hgk.cell t
        rw [e5] at q0
        have hgl := hgk.lt
        have HGT := Lib.hid (fun (W : World) (hO : Over w4.heap.size (some ⟨g, 0, none⟩) R3.1.length W) (e : W.cell? ⟨g, t, none⟩ = some (.slice (some ⟨G, 0, none⟩) n5 n5)) => show ∃ cs, Blk W G 2 cs ∧ cs.size = n5 from by
          obtain ⟨g', raws', e', h1, h2⟩ := hO (by omega)
          injection e' with e'
          injection e' with e' _
          subst e'
          obtain ⟨G', n', cs', h3, h4, h5, h6, _⟩ := h2 t hlt
          rw [h1.cell, h3] at e
          injection e with e
          injection e with e e2 _
          injection e with e
          injection e with e _
          subst e
          subst e2
          exact ⟨cs', h5, h6⟩)
        obtain ⟨gu, rfl⟩ : ∃ gu : Nat, gu = gk := ⟨_, rfl⟩
        go_wp2
        go_loopg [25] n5 (fun gk i wr => ∃ x : Nat, x + gk = n5 ∧ i = .int .i64 x ∧ Over w4.heap.size (some ⟨g, 0, none⟩) R3.1.length wr ∧ Below w4.heap.size w4 wr ∧ wr.cell? ⟨g, t, none⟩ = some (.slice (some ⟨G, 0, none⟩) n5 n5))
        case atStart => exact ⟨0, by omega, rfl, hO, hb, q0⟩
        case round =>
          clear hO hb q0 hgl hgk hrows e5 hG2 hG3
          obtain ⟨x, hx5, rfl, hO, hb, q0⟩ := hrel
          have hx5' : x ≤ n5 := by omega
          have HKX := Lib.hid hx5
          clear hx5
          by_cases hlx : x < n5
          · obtain ⟨cs6, hG2, hG3⟩ := HGT.out _ hO q0
            have z0 : wr.cell? ⟨G, x, none⟩ = some (cs6[x]'(by omega)) := by rw [hG2.cell]; exact Array.getElem?_eq_getElem (by omega)
            have z1 := hG2.frozen x
            have z2 := hG2.lt
            have q9 : (wr.setCell ⟨G, x, none⟩ (.int .i64 (-1))).cell? ⟨g, t, none⟩ = some (.slice (some ⟨G, 0, none⟩) n5 n5) := by
              obtain ⟨g', raws', e', h1, h2⟩ := hO (by omega)
              injection e' with e'
              injection e' with e' _
              subst e'
              have hne : g ≠ G := by
                rintro rfl
                unfold Blk at h1 hG2
                rw [h1] at hG2
                injection hG2 with hG2
                injection hG2 with _ hG2 _
                exact absurd hG2 (by decide)
              rw [(h1.far (p := ⟨G, x, none⟩) hne (.int .i64 (-1))).cell, ← h1.cell]
              exact q0
            have hO9 := hO.store (x := x) hG2 (.int .i64 (-1))
            go_wp2
            go_roundg (gk - 1)
            case rel => exact ⟨x + 1, by have := HKX.out; omega, by go_num, hO9, hb.setCell (p := ⟨G, x, none⟩) hG1 _, q9⟩
            case measure => have := HKX.out; omega
          · go_wp2
            go_roundg (gu - 1)
            case rel => exact ⟨t + 1, by have := HKK.out; omega, by go_num, hO, hb⟩
            case measure => have := HKK.out; omega
      · have hxr := hx4.keep hb
        have r0r := r0'.keep hb
        go_wp2_with fail
        refine (same12_any _ _ _ _ _ _ _ hxr r0r LB LB).mono ?_
        rintro _ _ ⟨rfl, q4, rfl⟩
        go_wp2
        go_ret
        exact ⟨by simp, below_drewN (bstep hB4 hb) _⟩
  · rw [hg1] at HG1
    go_enter Try.func4, Try.ntmps4
    go_wp2_with fail
    refine (HG1.out _ hx).mono ?_
    rintro _ _ ⟨rfl, rfl⟩
    go_wp2
    go_ret
    exact ⟨rfl, Below.refl _ _⟩
end Bk
end Go.Proofs.Ytnhjeelcgfobnaa
