/-
  The walk of AlignOnce.
-/
import Derived.Test.YtbejkfeloffccaaAlignZ
namespace Go.Proofs.Ytbejkfeloffccaa
open Go.RowKit
set_option linter.unusedVariables false
set_option linter.unusedSimpArgs false

theorem alignCount_at (n : Int) (A : Option Addr) (c : Nat) (l : List (Int × List Int)) (h : countS l = (n, 0)) (w : World) (hx : RB w A l) (hl : l.length ≤ 140737488355328) (hall : ∀ b ∈ l, b.2.length ≤ 140737488355328) :
    Calls Try.prog 23 #[.slice A l.length c] w fun e w' => e = .returned (.tuple #[.int .i64 n, .int .i64 0]) ∧ Below w.heap.size w w' := by
  have := alignCount_any A c l w hx hl hall
  unfold CountPost at this
  rw [h] at this
  exact this
theorem at14_lowW (A : Option Addr) (c : Nat) (l : List (Int × List Int)) (t : Int) (w : World) (hx : RB w A l) (he : recErr l = 0) (ht : -9223372036854775808 ≤ t ∧ t ≤ 9223372036854775807) :
    Calls Try.prog 33 #[.slice A l.length c, .int .i64 t] w fun e w' => e = .returned (.int .i64 (sampAt l t)) ∧ Below w.heap.size w w' := low_of (at14_wide A c l t w hx he ht)
theorem at14_is (v : Int) (A : Option Addr) (c : Nat) (l : List (Int × List Int)) (t : Int) (h : sampAt l t = v) (w : World) (hx : RB w A l) (he : recErr l = 0) (ht : -9223372036854775808 ≤ t ∧ t ≤ 9223372036854775807) :
    Calls Try.prog 33 #[.slice A l.length c, .int .i64 t] w fun e w' => e = .returned (.int .i64 v) ∧ Below w.heap.size w w' := by
  subst h; exact at14_lowW A c l t w hx he ht
set_option maxRecDepth 100000 in
set_option maxHeartbeats 8000000 in
theorem alignOnce_main (A : Option Addr) (c : Nat) (l : List (Int × List Int)) (p : Int × List Int) (B : Option Addr) (cb : Nat) (t : Int) (w : World)
    (hx : RB w A l) (hcap : l.length ≤ c) (hlx : l.length ≤ 9223372036854775807) (hp : RI .i64 w B p.2) (hf : fitB l = true) (h3 : p.2.length ≤ 300) (hok : okB (p.1, p.2) = true) (ht : -9223372036854775808 ≤ t ∧ t ≤ 9223372036854775807) (he : (putS l p).2 = 0) :
    Calls Try.prog 7 #[.slice A l.length c, .agg #[.int .i64 p.1, .slice B p.2.length cb], .int .i64 t] w fun e w' => e = .returned (.bool true) ∧ Below w.heap.size w w' := by
  have hbX : Below w.heap.size w (w.alloc (.cells #[.int .i64 p.1, .slice B p.2.length cb] 47)) := balloc (Below.refl _ _) _
  have hk1 := Blk.new w 47 #[.int .i64 p.1, .slice B p.2.length cb]
  obtain ⟨hg, hr⟩ := fitB_yes hf
  obtain ⟨k1, k2⟩ := rec_small hr
  obtain ⟨p1, p2, p3, p4, _⟩ := okB_bd hok
  simp only at p1 p2 p3 p4
  have d3 : decide (300 < p.2.length) = false := decide_eq_false (by omega)
  have HC1 := fun w hx hy => alignPut_at _ A c l p (put_inv he).2.2.2.2.2 B cb w hx hcap hy (by omega) k2 (by omega)
  obtain ⟨x0, xa⟩ := put_again he
  obtain ⟨x1, x2⟩ := rec_small x0
  have hcl := count_law he
  have hcv := cov_law he t
  have hso := fun k hk h0 => samp_own (l := l) (b := p) (k := k) he hk h0
  have hsk := samp_kept (t := t) he
  have hnl : 0 ≤ cntB l l.length ∧ cntB l l.length ≤ 256 * l.length := cntB_bd (rec_apart hr) _ (Nat.le_refl _)
  have hown := cnt_bd p.2 p.2.length
  have hbo : 0 ≤ nzCnt (bothF l p) p.2.length ∧ nzCnt (bothF l p) p.2.length ≤ p.2.length := nzCnt_bd _ _
  have HCL := fun w hx => alignCount_at _ A c l (count_ok hr) w hx (by omega) k2
  have HX0 := Lib.hid x0
  have HX2 := Lib.hid x2
  have HR := Lib.hid hr
  have HCV := Lib.hid hcv
  have HSO := Lib.hid hso
  have HSK : Hid (sampAt l t ≠ 0 → sampAt (putL l p) t = sampAt l t) := Lib.hid hsk
  have HCNT := Lib.hid hcl
  clear he x2 hg hcv hso hsk
  generalize putL l p = X at *
  have HC2 := fun A c w hx hcap hy => alignPut_at _ A c X p xa B cb w hx hcap hy (by omega) HX2.out (by omega)
  have HCX := fun A c w hx => alignCount_at _ A c X (count_ok x0) w hx (by omega) HX2.out
  have HKX := fun A c w hx => refCheck14_any A c X w hx (by omega) HX2.out
  rw [x0] at HKX
  generalize hMe : cntB X X.length = M at *
  generalize hNe : cntB l l.length = N at *
  clear hMe hNe x0 xa hcl hr
  go_enter Try.func7, Try.ntmps7
  go_wp2_with fail
  refine (alive14 _).mono ?_
  rintro _ w1 ⟨rfl, hb1⟩
  have hB1 := bstep hbX hb1
  replace hk1 := hk1.keep hb1
  try clear qa0 qa1 fa0 fa1 fal
  have qa0 : World.cell? w1 ⟨w.heap.size, 0, none⟩ = some (.int .i64 p.1) := hk1.cell 0
  have fa0 := hk1.frozen 0
  have qa1 : World.cell? w1 ⟨w.heap.size, 1, none⟩ = some (.slice B p.2.length cb) := hk1.cell 1
  have fa1 := hk1.frozen 1
  have fal := hk1.lt
  go_wp2_with fail
  refine (fit14_any _ _ _ _ (hx.keep hB1) hlx).mono ?_
  rintro _ w2 ⟨rfl, hb2⟩
  have hB2 := bstep hB1 hb2
  replace hk1 := hk1.keep hb2
  try clear qa0 qa1 fa0 fa1 fal
  have qa0 : World.cell? w2 ⟨w.heap.size, 0, none⟩ = some (.int .i64 p.1) := hk1.cell 0
  have fa0 := hk1.frozen 0
  have qa1 : World.cell? w2 ⟨w.heap.size, 1, none⟩ = some (.slice B p.2.length cb) := hk1.cell 1
  have fa1 := hk1.frozen 1
  have fal := hk1.lt
  clear hb1 hb2 hB1 hbX
  go_wp2_with fail
  refine (Valid_any _ _ _ _ _ (hp.keep hB2) (by omega)).mono ?_
  rintro _ w2' ⟨rfl, hb2'⟩
  have hB2' := bstep hB2 hb2'
  replace hk1 := hk1.keep hb2'
  try clear qa0 qa1 fa0 fa1 fal
  have qa0 : World.cell? w2' ⟨w.heap.size, 0, none⟩ = some (.int .i64 p.1) := hk1.cell 0
  have fa0 := hk1.frozen 0
  have qa1 : World.cell? w2' ⟨w.heap.size, 1, none⟩ = some (.slice B p.2.length cb) := hk1.cell 1
  have fa1 := hk1.frozen 1
  have fal := hk1.lt
  clear hb2' hB2
  go_wp2_with fail
  refine (HC1 _ (hx.keep hB2') (hp.keep hB2')).mono ?_
  rintro _ w3 ⟨A3, c3, rfl, ro3, hcap3, hb3⟩
  have hB3 := bstep hB2' hb3
  have rb3 := ro3.rb
  replace hk1 := hk1.keep hb3
  try clear qa0 qa1 fa0 fa1 fal
  have qa0 : World.cell? w3 ⟨w.heap.size, 0, none⟩ = some (.int .i64 p.1) := hk1.cell 0
  have fa0 := hk1.frozen 0
  have qa1 : World.cell? w3 ⟨w.heap.size, 1, none⟩ = some (.slice B p.2.length cb) := hk1.cell 1
  have fa1 := hk1.frozen 1
  have fal := hk1.lt
  clear hb3 hB2' ro3 HC1
  go_wp2_with fail
  refine (HC2 _ _ _ rb3 hcap3 (hp.keep hB3)).mono ?_
  rintro _ w4 ⟨A4, c4, rfl, ro4, hcap4, hb4⟩
  have hB4 := bstep hB3 hb4
  replace rb3 := rb3.keep hb4
  have rb4 := ro4.rb
  replace hk1 := hk1.keep hb4
  try clear qa0 qa1 fa0 fa1 fal
  have qa0 : World.cell? w4 ⟨w.heap.size, 0, none⟩ = some (.int .i64 p.1) := hk1.cell 0
  have fa0 := hk1.frozen 0
  have qa1 : World.cell? w4 ⟨w.heap.size, 1, none⟩ = some (.slice B p.2.length cb) := hk1.cell 1
  have fa1 := hk1.frozen 1
  have fal := hk1.lt
  clear hb4 hB3 ro4 HC2
  go_wp2_with fail
  refine (HCL _ (hx.keep hB4)).mono ?_
  rintro _ w5 ⟨rfl, hb5⟩
  have hB5 := bstep hB4 hb5
  replace rb3 := rb3.keep hb5
  replace rb4 := rb4.keep hb5
  replace hk1 := hk1.keep hb5
  try clear qa0 qa1 fa0 fa1 fal
  have qa0 : World.cell? w5 ⟨w.heap.size, 0, none⟩ = some (.int .i64 p.1) := hk1.cell 0
  have fa0 := hk1.frozen 0
  have qa1 : World.cell? w5 ⟨w.heap.size, 1, none⟩ = some (.slice B p.2.length cb) := hk1.cell 1
  have fa1 := hk1.frozen 1
  have fal := hk1.lt
  clear hb5 hB4 HCL
  go_wp2_with fail
  refine (HCX _ _ _ rb3).mono ?_
  rintro _ w6 ⟨rfl, hb6⟩
  have hB6 := bstep hB5 hb6
  replace rb3 := rb3.keep hb6
  replace rb4 := rb4.keep hb6
  replace hk1 := hk1.keep hb6
  try clear qa0 qa1 fa0 fa1 fal
  have qa0 : World.cell? w6 ⟨w.heap.size, 0, none⟩ = some (.int .i64 p.1) := hk1.cell 0
  have fa0 := hk1.frozen 0
  have qa1 : World.cell? w6 ⟨w.heap.size, 1, none⟩ = some (.slice B p.2.length cb) := hk1.cell 1
  have fa1 := hk1.frozen 1
  have fal := hk1.lt
  clear hb6 hB5 HCX
  go_wp2_with fail
  refine (HKX _ _ _ rb3).mono ?_
  rintro _ w7 ⟨rfl, hb7⟩
  have hB7 := bstep hB6 hb7
  replace rb3 := rb3.keep hb7
  replace rb4 := rb4.keep hb7
  replace hk1 := hk1.keep hb7
  try clear qa0 qa1 fa0 fa1 fal
  have qa0 : World.cell? w7 ⟨w.heap.size, 0, none⟩ = some (.int .i64 p.1) := hk1.cell 0
  have fa0 := hk1.frozen 0
  have qa1 : World.cell? w7 ⟨w.heap.size, 1, none⟩ = some (.slice B p.2.length cb) := hk1.cell 1
  have fa1 := hk1.frozen 1
  have fal := hk1.lt
  clear hb7 hB6 HKX
  have hdu : decide (X = X) = true := by simp
  go_wp2_with fail
  refine (low_of (same14_any _ _ _ _ X X _ rb4 rb3 (by omega) (by omega) HX2.out HX2.out)).mono ?_
  rintro _ w8 ⟨rfl, hb8⟩
  have hB8 := bstep hB7 hb8
  replace rb3 := rb3.keep hb8
  replace hk1 := hk1.keep hb8
  try clear qa0 qa1 fa0 fa1 fal
  have qa0 : World.cell? w8 ⟨w.heap.size, 0, none⟩ = some (.int .i64 p.1) := hk1.cell 0
  have fa0 := hk1.frozen 0
  have qa1 : World.cell? w8 ⟨w.heap.size, 1, none⟩ = some (.slice B p.2.length cb) := hk1.cell 1
  have fa1 := hk1.frozen 1
  have fal := hk1.lt
  clear hb8 hB7 rb4
  clear qa0 qa1 fa0 fa1 fal
  go_wp2
  go_loopg [16, 17, 18] p.2.length (fun gk v1 v2 i wr => ∃ (k : Nat), k + gk = p.2.length ∧ i = .int .i64 k ∧ v1 = .int .i64 (cnt p.2 k) ∧ v2 = .int .i64 (nzCnt (bothF l p) k) ∧ Below w8.heap.size w8 wr)
  case atStart => exact ⟨0, by omega, rfl, rfl, rfl, Below.refl _ _⟩
  case round =>
    obtain ⟨k, hk, rfl, rfl, rfl, hb⟩ := hrel
    have hk' : k ≤ p.2.length := by omega
    have HK := Lib.hid hk
    clear hk
    have hB9 := bstep hB8 hb
    have hkr := hk1.keep hb
    have r3 := rb3.keep hb
    have cb1 := cnt_bd p.2 k
    have cb2 := nzCnt_bd (bothF l p) k
    have hs1 : cnt p.2 (k + 1) = cnt p.2 k + if p.2.getD k 0 = 0 then 0 else 1 := rfl
    have hs2 : nzCnt (bothF l p) (k + 1) = nzCnt (bothF l p) k + if bothF l p k = 0 then 0 else 1 := rfl
    by_cases hlt : k < p.2.length
    · have qa0 : World.cell? wr ⟨w.heap.size, 0, none⟩ = some (.int .i64 p.1) := hkr.cell 0
      have fa0 := hkr.frozen 0
      have qa1 : World.cell? wr ⟨w.heap.size, 1, none⟩ = some (.slice B p.2.length cb) := hkr.cell 1
      have fa1 := hkr.frozen 1
      have fal := hkr.lt
      obtain ⟨b1, off1, hBe, hlw1, hc1⟩ := (hp.keep hB9).at2 hlt
      subst hBe
      have HSOk := HSO.out k hlt
      have hbF : bothF l p k = if p.2.getD k 0 = 0 then 0 else sampAt l (p.1 + k) := rfl
      have f1 : IntKind.i64.wrap (p.1 + (k : Int)) = p.1 + k := IntWalk.i64_in _ (by omega)
      generalize p.2.getD k 0 = V at *
      by_cases hv : V = 0
      · have e1 : (V == 0) = true := by simp [hv]
        rw [if_pos hv] at hs1 hbF
        rw [hbF, if_pos rfl] at hs2
        have HS := Lib.hid (And.intro hs1 hs2)
        clear hs1 hs2 hbF hv HSOk
        go_wp2
        go_roundg (gk - 1)
        case rel => exact ⟨k + 1, by have := HK.out; omega, by go_num, by rw [HS.out.1, Int.add_zero], by rw [HS.out.2, Int.add_zero], hb⟩
        case measure => have := HK.out; omega
      · have e1 : (V == 0) = false := by simp [hv]
        rw [if_neg hv] at hs1 hbF
        have HX1 := Lib.hid (HSOk hv)
        have HH := Lib.hid (And.intro hs1 (And.intro hs2 hbF))
        clear hs1 hs2 hbF hv HSOk
        go_wp2_with fail
        refine (at14_lowW _ _ _ (p.1 + k) _ (hx.keep hB9) HR.out (by omega)).mono ?_
        rintro _ w9 ⟨rfl, hb9⟩
        have hB10 := bstep hB9 hb9
        have hbx := bstep hb hb9
        replace hkr := hkr.keep hb9
        have hc2 := (hb9.cell (p := ⟨b1, off1 + k, none⟩) hlw1).trans hc1
        have hs8 := hb9.size
        clear qa0 qa1 fa0 fa1 fal hc1
        have qa0 : World.cell? w9 ⟨w.heap.size, 0, none⟩ = some (.int .i64 p.1) := hkr.cell 0
        have fa0 := hkr.frozen 0
        have qa1 : World.cell? w9 ⟨w.heap.size, 1, none⟩ = some (.slice (some ⟨b1, off1, none⟩) p.2.length cb) := hkr.cell 1
        have fa1 := hkr.frozen 1
        have fal := hkr.lt
        have r9 := (r3.keep hb9).keep (Below.drew (Below.refl _ _))
        have HTB : Hid (-9223372036854775808 ≤ p.1 + (k : Int) ∧ p.1 + (k : Int) ≤ 9223372036854775807) := Lib.hid (by omega)
        have HSS : Hid (∀ W, Below w9.drew.heap.size w9.drew W → (W.cell? ⟨w.heap.size, 0, none⟩ = some (.int .i64 p.1) ∧ W.cell? ⟨w.heap.size, 1, none⟩ = some (.slice (some ⟨b1, off1, none⟩) p.2.length cb)) ∧ W.cell? ⟨b1, off1 + k, none⟩ = some (.int .i64 V)) := Lib.hid (fun W hW => ⟨⟨(hkr.keep (Below.drew (Below.refl _ _))).keep hW |>.cell 0, (hkr.keep (Below.drew (Below.refl _ _))).keep hW |>.cell 1⟩, (hW.cell (p := ⟨b1, off1 + k, none⟩) (show b1 < w9.heap.size from by omega)).trans hc2⟩)
        have hvv : (V != V) = false := by simp
        have hways : ((sampAt l (p.1 + k) != 0) = false ∧ Hid (nzCnt (bothF l p) (k + 1) = nzCnt (bothF l p) k)) ∨ ((sampAt l (p.1 + k) != 0) = true ∧ Hid (nzCnt (bothF l p) (k + 1) = nzCnt (bothF l p) k + 1)) := by
          by_cases hz : sampAt l (p.1 + k) = 0
          · exact .inl ⟨by simp [hz], Lib.hid (by rw [HH.out.2.1, HH.out.2.2, if_pos hz, Int.add_zero])⟩
          · exact .inr ⟨by simp [hz], Lib.hid (by rw [HH.out.2.1, HH.out.2.2, if_neg hz])⟩
        rcases hways with ⟨hz1, HZ⟩ | ⟨hz1, HZ⟩
        all_goals
          go_wp2
          go_region_held3 (fun W => (W.cell? ⟨w.heap.size, 0, none⟩ = some (.int .i64 p.1) ∧ W.cell? ⟨w.heap.size, 1, none⟩ = some (.slice (some ⟨b1, off1, none⟩) p.2.length cb)) ∧ W.cell? ⟨b1, off1 + k, none⟩ = some (.int .i64 V))
            (first | go_keep | exact HSS.out _ hb10 | fail)
            ((go_at_call 33; (with_reducible refine (at14_is V _ _ X (p.1 + k) HX1.out w9.drew r9 HX0.out HTB.out).mono ?_); rintro e w10 ⟨rfl, hb10⟩))
          go_wp2
          go_roundg (gk - 1)
          case rel => exact ⟨k + 1, by have := HK.out; omega, by go_num, by rw [HH.out.1], by rw [HZ.out], bstep hbx.drew hb10⟩
          case measure => have := HK.out; omega
    · obtain rfl : k = p.2.length := by omega
      clear hs1 hs2 cb1 cb2
      have qa0 : World.cell? wr ⟨w.heap.size, 0, none⟩ = some (.int .i64 p.1) := hkr.cell 0
      have fa0 := hkr.frozen 0
      have qa1 : World.cell? wr ⟨w.heap.size, 1, none⟩ = some (.slice B p.2.length cb) := hkr.cell 1
      have fa1 := hkr.frozen 1
      have fal := hkr.lt
      have hways : (covB l t = true ∧ covB X t = true) ∨ (covB l t = false ∧ covB X t = false ∧ decide (p.1 ≤ t) = false) ∨ (covB l t = false ∧ covB X t = false ∧ decide (p.1 ≤ t) = true ∧ decide (t < p.1 + (p.2.length : Int)) = false) ∨ (covB l t = false ∧ covB X t = true ∧ decide (p.1 ≤ t) = true ∧ decide (t < p.1 + (p.2.length : Int)) = true) := by
        have h := HCV.out
        unfold endB at h
        cases h1 : covB l t <;> cases h2 : decide (p.1 ≤ t) <;> cases h4 : decide (t < p.1 + (p.2.length : Int)) <;> rw [h1, h2, h4] at h <;> simp [h]
      have e9 : (M == N + cnt p.2 p.2.length - nzCnt (bothF l p) p.2.length) = true := by rw [beq_iff_eq]; exact HCNT.out
      have HSKz := HSK
      clear HCV hk' HK HSO HSK HCNT
      go_wp2_with fail
      refine (at14_lowW _ _ _ t _ (hx.keep hB9) HR.out ht).mono ?_
      rintro _ w9 ⟨rfl, hb9⟩
      have hB10 := bstep hB9 hb9
      replace r3 := r3.keep hb9
      replace hkr := hkr.keep hb9
      clear qa0 qa1 fa0 fa1 fal hb hB9
      by_cases hz : sampAt l t = 0
      · have hz1 : (sampAt l t != 0) = false := by simp [hz]
        clear hz
        rcases hways with ⟨v1, v2⟩ | ⟨v1, v2, v3⟩ | ⟨v1, v2, v3, v4⟩ | ⟨v1, v2, v3, v4⟩
        all_goals
          go_wp2_with fail
          refine (low_of (covers14_any _ _ X t _ r3 HX0.out ht)).mono ?_
          rintro _ w10 ⟨rfl, hb10⟩
          have hB11 := bstep hB10 hb10
          replace hkr := hkr.keep hb10
          go_wp2_with fail
          refine (low_of (covers14_any _ _ l t _ (hx.keep hB11) HR.out ht)).mono ?_
          rintro _ w11 ⟨rfl, hb11⟩
          have hB12 := bstep hB11 hb11
          replace hkr := hkr.keep hb11
          have qa0 : World.cell? w11 ⟨w.heap.size, 0, none⟩ = some (.int .i64 p.1) := hkr.cell 0
          have fa0 := hkr.frozen 0
          have qa1 : World.cell? w11 ⟨w.heap.size, 1, none⟩ = some (.slice B p.2.length cb) := hkr.cell 1
          have fa1 := hkr.frozen 1
          have fal := hkr.lt
          go_wp2
          go_ret
          exact ⟨rfl, hB12⟩
      · have hz1 : (sampAt l t != 0) = true := by simp [hz]
        have HV := HSKz.out hz
        have hvv : (sampAt l t != sampAt l t) = false := by simp
        have HZ := Lib.hid hz
        clear hz
        go_wp2_with fail
        refine (at14_is (sampAt l t) _ _ X t HV _ r3 HX0.out ht).mono ?_
        rintro _ w9' ⟨rfl, hb9'⟩
        replace hB10 := bstep hB10 hb9'
        replace r3 := r3.keep hb9'
        replace hkr := hkr.keep hb9'
        rcases hways with ⟨v1, v2⟩ | ⟨v1, v2, v3⟩ | ⟨v1, v2, v3, v4⟩ | ⟨v1, v2, v3, v4⟩
        all_goals
          go_wp2_with fail
          refine (low_of (covers14_any _ _ X t _ r3 HX0.out ht)).mono ?_
          rintro _ w10 ⟨rfl, hb10⟩
          have hB11 := bstep hB10 hb10
          replace hkr := hkr.keep hb10
          go_wp2_with fail
          refine (low_of (covers14_any _ _ l t _ (hx.keep hB11) HR.out ht)).mono ?_
          rintro _ w11 ⟨rfl, hb11⟩
          have hB12 := bstep hB11 hb11
          replace hkr := hkr.keep hb11
          have qa0 : World.cell? w11 ⟨w.heap.size, 0, none⟩ = some (.int .i64 p.1) := hkr.cell 0
          have fa0 := hkr.frozen 0
          have qa1 : World.cell? w11 ⟨w.heap.size, 1, none⟩ = some (.slice B p.2.length cb) := hkr.cell 1
          have fa1 := hkr.frozen 1
          have fal := hkr.lt
          go_wp2
          go_ret
          exact ⟨rfl, hB12⟩
end Go.Proofs.Ytbejkfeloffccaa
