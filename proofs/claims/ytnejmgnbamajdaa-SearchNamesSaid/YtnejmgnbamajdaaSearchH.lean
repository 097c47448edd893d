/-
  Contracts: search.Best, fringeref20.Best.
-/
import Derived.Test.YtnejmgnbamajdaaSearchG
namespace Go.Proofs.Ytnejmgnbamajdaa
open Go.RowKit
set_option linter.unusedVariables false

theorem cells5 {w : World} {g : Nat} {t : TypeId} {C : Cl} (h : Blk w g t (encC C).toArray) :
    (w.cell? ⟨g, 0, none⟩ = some (.int .i64 C.d) ∧ w.cell? ⟨g, 1, none⟩ = some (.int .i64 C.r) ∧ w.cell? ⟨g, 2, none⟩ = some (.int .i64 C.re) ∧ w.cell? ⟨g, 3, none⟩ = some (.int .i64 C.im) ∧ w.cell? ⟨g, 4, none⟩ = some (.int .i64 C.pw)) ∧ (w.frozen? ⟨g, 0, none⟩ = false ∧ w.frozen? ⟨g, 1, none⟩ = false ∧ w.frozen? ⟨g, 2, none⟩ = false ∧ w.frozen? ⟨g, 3, none⟩ = false ∧ w.frozen? ⟨g, 4, none⟩ = false) :=
  ⟨⟨h.cell 0, h.cell 1, h.cell 2, h.cell 3, h.cell 4⟩, h.frozen 0, h.frozen 1, h.frozen 2, h.frozen 3, h.frozen 4⟩
theorem put5 {w : World} {g : Nat} {t : TypeId} {C : Cl} (h : Blk w g t (encC C).toArray) (D : Cl) :
    Blk (((((w.setCell ⟨g, 0, none⟩ (.int .i64 D.d)).setCell ⟨g, 1, none⟩ (.int .i64 D.r)).setCell ⟨g, 2, none⟩ (.int .i64 D.re)).setCell ⟨g, 3, none⟩ (.int .i64 D.im)).setCell ⟨g, 4, none⟩ (.int .i64 D.pw)) g t (encC D).toArray :=
  ((((h.put 0 _).put 1 _).put 2 _).put 3 _).put 4 _
theorem far5 {w : World} {g g' : Nat} {t : TypeId} {cs : Array Value} (h : Blk w g t cs) (hne : g ≠ g') (a b c d e : Value) :
    Blk (((((w.setCell ⟨g', 0, none⟩ a).setCell ⟨g', 1, none⟩ b).setCell ⟨g', 2, none⟩ c).setCell ⟨g', 3, none⟩ d).setCell ⟨g', 4, none⟩ e) g t cs :=
  ((((h.far (p := ⟨g', 0, none⟩) hne _).far (p := ⟨g', 1, none⟩) hne _).far (p := ⟨g', 2, none⟩) hne _).far (p := ⟨g', 3, none⟩) hne _).far (p := ⟨g', 4, none⟩) hne _
theorem bset5 {B : Nat} {w W : World} (h : Below B w W) {g : Nat} (hg : B ≤ g) (a b c d e : Value) :
    Below B w (((((W.setCell ⟨g, 0, none⟩ a).setCell ⟨g, 1, none⟩ b).setCell ⟨g, 2, none⟩ c).setCell ⟨g, 3, none⟩ d).setCell ⟨g, 4, none⟩ e) :=
  ((((h.setCell (p := ⟨g, 0, none⟩) hg _).setCell (p := ⟨g, 1, none⟩) hg _).setCell (p := ⟨g, 2, none⟩) hg _).setCell (p := ⟨g, 3, none⟩) hg _).setCell (p := ⟨g, 4, none⟩) hg _
theorem bestTo_zero (l : List Cl) : bestTo l 0 = zeroC := rfl
theorem grid_bd {xs ys : List Int} {m : Nat} {s : Int} (hm : m ≤ 32) (j : Nat) (hj : j < gridN m) : -32 ≤ (gridAt xs ys m s j).d ∧ (gridAt xs ys m s j).d ≤ 32 := by
  unfold gridN at hj
  unfold gridAt
  rw [cellS_d]
  omega
theorem best_bd {xs ys : List Int} {m : Nat} {s : Int} (hm : m ≤ 32) (k : Nat) (hk : k ≤ gridN m) : -32 ≤ (bestTo (fullL (gridAt xs ys m s) (gridN m)) k).d ∧ (bestTo (fullL (gridAt xs ys m s) (gridN m)) k).d ≤ 32 := by
  rcases Nat.eq_zero_or_pos k with rfl | h
  · rw [bestTo_zero]; simp [zeroC]
  · obtain ⟨⟨j, hj, _, hb⟩, _⟩ := best_is (l := fullL (gridAt xs ys m s) (gridN m)) h (by rw [fullL_len]; exact hk)
    rw [← hb, fullL_get]
    exact grid_bd hm j (by simpa [fullL_len] using hj)

set_option maxHeartbeats 4000000 in
theorem searchBest_any (A B : Option Addr) (c e : Nat) (xs ys : List Int) (most s : Int) (w : World) (hx : RI .i64 w A xs) (hy : RI .i64 w B ys) (hl : xs.length ≤ 140737488355328) (hl2 : ys.length ≤ 140737488355328) :
    Calls Try.prog 21 #[.slice A xs.length c, .slice B ys.length e, .int .i64 most, .int .i64 s] w fun e w' => e = .returned (atV (bestSpec xs ys most s)) ∧ Below w.heap.size w w' := by
  have hb0 : Below w.heap.size w (w.alloc (.cells zeroCs 32)) := balloc (Below.refl _ _) _
  have hR0 : Blk (w.alloc (.cells zeroCs 32)) w.heap.size 32 (encC zeroC).toArray := Blk.new w _ _
  have hgr := searchGrid_any A B c e xs ys most s _ (hx.keep hb0) (hy.keep hb0) hl hl2
  by_cases hok : (gridSpec xs ys most s).2 = 0
  · have hask : askErr xs ys s = 0 ∧ 0 ≤ most ∧ most ≤ 32 := by
      unfold gridSpec at hok
      repeat' split at hok
      all_goals (simp only [] at hok; omega)
    obtain ⟨hE, hm1, hm2⟩ := hask
    obtain ⟨m, rfl⟩ := Int.eq_ofNat_of_zero_le hm1
    rw [grid_ok hE ⟨hm1, hm2⟩] at hgr
    have HE := Lib.hid hE
    clear hok hE
    go_enter Try.func21, Try.ntmps21
    go_wp2_with fail
    refine (hgr).mono ?_
    rintro _ w2 ⟨A2, c2, rfl, ho2, hb2⟩
    clear hgr
    simp only [] at ho2
    have hG := own_RR encC_len ho2
    have hL : (fullL (gridAt xs ys m s) (gridN m)).length = gridN m := fullL_len _ _
    rw [hL] at ho2 ⊢
    have hR2 := hR0.keep hb2
    have hB2 := bstep hb0 hb2
    have hN : gridN m = 8 * m + 4 := by unfold gridN; omega
    have HN := Lib.hid hN
    have HL := Lib.hid hL
    have hbig : gridN m ≤ 300 := by omega
    clear ho2 hb2 hR0 hb0 hN hL
    go_wp2
    go_loopg [13, 14, 29] (gridN m) (fun gk _ _ i wr => ∃ k : Nat, k + gk = gridN m ∧ i = .int .i64 k ∧ Blk wr w2.heap.size 72 (encC (bestTo (fullL (gridAt xs ys m s) (gridN m)) k)).toArray ∧ Below w2.heap.size w2 wr)
    case atStart => exact ⟨0, by omega, rfl, Blk.new w2 _ _, balloc (Below.refl _ _) _⟩
    case round =>
      obtain ⟨k, hk, rfl, hO, hb⟩ := hrel
      have hR := hR2.keep hb
      have hgR2 := hR2.lt
      have hk' : k ≤ gridN m := by omega
      have HK := Lib.hid hk
      clear hk
      have hgO := hO.lt
      have hgR := hR.lt
      have hsz := hb.size
      have hsz2 := hB2.size
      obtain ⟨b, hb'⟩ : ∃ b, b = bestTo (fullL (gridAt xs ys m s) (gridN m)) k := ⟨_, rfl⟩
      have hbd := best_bd (xs := xs) (ys := ys) (s := s) (m := m) (by omega) k hk'
      rw [← hb'] at hO hbd
      have HB := Lib.hid hb'
      clear hb'
      obtain ⟨⟨o0, o1, o2, o3, o4⟩, p0, p1, p2, p3, p4⟩ := cells5 hO
      by_cases hlt : k < gridN m
      · have hlt' : k < (fullL (gridAt xs ys m s) (gridN m)).length := by rw [HL.out]; exact hlt
        obtain ⟨b1, off1, rfl, hlw1, hcs⟩ := hG.at_ hlt'
        rw [fullL_get] at hcs
        have hgd := grid_bd (xs := xs) (ys := ys) (s := s) (m := m) (by omega) k hlt
        obtain ⟨C, hC⟩ : ∃ C, C = gridAt xs ys m s k := ⟨_, rfl⟩
        rw [← hC] at hcs hgd
        have HC := Lib.hid hC
        clear hC
        obtain ⟨a0, a1, a2, a3, a4⟩ := encC_at (fun i hi => (hb.cell (p := ⟨b1, _, none⟩) hlw1).trans (hcs i hi))
        by_cases h0 : k = 0
        · have t0 : ((k : Int) == 0) = true := by simp; omega
          have HZ := Lib.hid h0
          clear h0 hcs
          go_wp2
          go_roundg (gk - 1)
          case rel =>
            refine ⟨k + 1, by have := HK.out; omega, by go_num, ?_, bset5 hb (by omega) _ _ _ _ _⟩
            have e1 : bestTo (fullL (gridAt xs ys m s) (gridN m)) (k + 1) = C := by
              have h0 := HZ.out
              have h1 := HC.out
              rw [h0, bestTo_one (by omega), fullL_get, h1, h0]
            rw [e1]
            exact put5 hO C
          case measure => have := HK.out; omega
        · have t0 : ((k : Int) == 0) = false := by simp; omega
          go_wp2_with fail
          refine (isBetter_any C b _ (by omega) (by omega) (by omega) (by omega)).mono ?_
          rintro _ w3 ⟨rfl, hb3⟩
          have hO3 := hO.keep hb3
          have hB3 : Below w2.heap.size w2 w3 := bstep hb hb3
          obtain ⟨c0, c1, c2, c3, c4⟩ := encC_at (fun i hi => (hB3.cell (p := ⟨b1, _, none⟩) hlw1).trans (hcs i hi))
          obtain ⟨⟨u0, u1, u2, u3, u4⟩, v0, v1, v2, v3, v4⟩ := cells5 hO3
          have hg3 := hO3.lt
          have hs3 := hb3.size
          clear hcs a0 a1 a2 a3 a4 o0 o1 o2 o3 o4 p0 p1 p2 p3 p4
          have hn : bestTo (fullL (gridAt xs ys m s) (gridN m)) (k + 1) = if betterB C b then C else b := by
            rw [bestTo_succ (by omega) hlt', fullL_get, ← HC.out, ← HB.out]
          by_cases hbt : betterB C b = true
          · rw [if_pos hbt] at hn
            have HN2 := Lib.hid hn
            clear hn
            go_wp2
            go_roundg (gk - 1)
            case rel =>
              refine ⟨k + 1, by have := HK.out; omega, by go_num, ?_, bset5 hB3 (by omega) _ _ _ _ _⟩
              rw [HN2.out]
              exact put5 hO3 C
            case measure => have := HK.out; omega
          · rw [if_neg hbt] at hn
            have HN2 := Lib.hid hn
            have hbt' : betterB C b = false := by simpa using hbt
            clear hn hbt
            go_wp2
            go_roundg (gk - 1)
            case rel =>
              refine ⟨k + 1, by have := HK.out; omega, by go_num, ?_, hB3⟩
              rw [HN2.out]
              exact hO3
            case measure => have := HK.out; omega
      · have hkl : k = gridN m := by omega
        obtain ⟨⟨r0, r1, r2, r3, r4⟩, q0, q1, q2, q3, q4⟩ := cells5 hR
        have hbb : b = bestOf (fullL (gridAt xs ys m s) (gridN m)) := by rw [HB.out, bestTo_all _ _ (by rw [HL.out]; omega)]
        have HBB := Lib.hid hbb
        clear hbb hkl
        by_cases hz : b.pw = 0
        · have ez : (b.pw == 0) = true := by simp [hz]
          have HZ := Lib.hid hz
          clear hz
          go_wp2
          refine bodyPost_ret (v := atV (zeroC, 18)) (by simp [results, Try.results21, go_sem, r0, r1, r2, r3, r4, zeroC]) rfl ⟨?_, bset5 (bstep hB2 hb) (by omega) _ _ _ _ _⟩
          rw [best_none HE.out ⟨hm1, hm2⟩ (by rw [← HBB.out]; exact HZ.out)]
        · have ez : (b.pw == 0) = false := by simp [hz]
          have HZ := Lib.hid hz
          clear hz
          go_wp2
          refine bodyPost_ret (v := atV (b, 0)) (by simp [results, Try.results21, go_sem, r0, r1, r2, r3, r4]) rfl ⟨?_, bset5 (bstep hB2 hb) (by omega) _ _ _ _ _⟩
          rw [best_ok HE.out ⟨hm1, hm2⟩ (by rw [← HBB.out]; exact HZ.out), HBB.out]
  · have e1 : ((gridSpec xs ys most s).2 != 0) = true := by simp [hok]
    have hsp : bestSpec xs ys most s = (zeroC, (gridSpec xs ys most s).2) ∧ (gridSpec xs ys most s).1 = [] := by
      by_cases h1 : askErr xs ys s = 0
      · by_cases h2 : 0 ≤ most ∧ most ≤ 32
        · rw [grid_ok h1 h2] at hok; simp at hok
        · rw [grid_arg h1 h2, best_arg h1 h2]; exact ⟨rfl, rfl⟩
      · rw [grid_err h1, best_err h1]; exact ⟨rfl, rfl⟩
    have HS := Lib.hid hsp.1
    clear hok hsp
    obtain ⟨⟨r0, r1, r2, r3, r4⟩, q0, q1, q2, q3, q4⟩ := cells5 hR0
    go_enter Try.func21, Try.ntmps21
    go_wp2_with fail
    refine (hgr).mono ?_
    rintro _ w2 ⟨A2, c2, rfl, ho2, hb2⟩
    have hR2 := hR0.keep hb2
    obtain ⟨⟨r0, r1, r2, r3, r4⟩, q0, q1, q2, q3, q4⟩ := cells5 hR2
    have hg2 := hR2.lt
    have hB2 := bstep hb0 hb2
    clear ho2 hb2 hgr
    generalize (gridSpec xs ys most s).1.length = nn at *
    go_wp2
    refine bodyPost_ret (v := atV (zeroC, (gridSpec xs ys most s).2)) (by simp [results, Try.results21, go_sem, r0, r1, r2, r3, r4, zeroC]) rfl ⟨?_, bset5 hB2 (by omega) _ _ _ _ _⟩
    rw [HS.out]

theorem vis_at {k j r : Nat} (hj : j < 2) (hr : r < 4) : visD (8 * k + 4 * j + r) = (-1 + 2 * (j : Int)) * (k : Int) ∧ visR (8 * k + 4 * j + r) = (r : Int) := by
  unfold visD visR
  have h1 : (8 * k + 4 * j + r) / 4 % 2 = j := by omega
  have h2 : (8 * k + 4 * j + r) / 8 = k := by omega
  have h3 : (8 * k + 4 * j + r) % 4 = r := by omega
  rw [h1, h2, h3]
  rcases (show j = 0 ∨ j = 1 by omega) with rfl | rfl
  · simp
  · simp
set_option maxHeartbeats 4000000 in
theorem refBest_any (A B : Option Addr) (c e : Nat) (xs ys : List Int) (most s : Int) (w : World) (hx : RI .i64 w A xs) (hy : RI .i64 w B ys) (hl : xs.length ≤ 140737488355328) (hl2 : ys.length ≤ 140737488355328) :
    Calls Try.prog 22 #[.slice A xs.length c, .slice B ys.length e, .int .i64 most, .int .i64 s] w fun e w' => e = .returned (atV (bestSpec xs ys most s)) ∧ Below w.heap.size w w' := by
  have hb0 : Below w.heap.size w (w.alloc (.cells zeroCs 32)) := balloc (Below.refl _ _) _
  have hR0 : Blk (w.alloc (.cells zeroCs 32)) w.heap.size 32 (encC zeroC).toArray := Blk.new w _ _
  have hgr := refGrid_any none none 0 0 [] [] most 1 (w.alloc (.cells zeroCs 32)) RI.nil RI.nil (by simp) (by simp)
  have hnil : askErr [] [] 1 = 0 := by decide
  rcases (Decidable.em (askErr xs ys s = 0)).symm with he | he
  · have e1 : (askErr xs ys s != 0) = true := by simp [he]
    have HE := Lib.hid he
    clear he hnil
    go_enter Try.func22, Try.ntmps22
    go_wp2_with fail
    refine (hgr).mono ?_
    rintro _ w2 ⟨A2, c2, rfl, ho2, hb2⟩
    have hR2 := hR0.keep hb2
    have hB2 := bstep hb0 hb2
    obtain ⟨⟨r0, r1, r2, r3, r4⟩, q0, q1, q2, q3, q4⟩ := cells5 hR2
    have hg2 := hR2.lt
    clear ho2 hb2 hgr
    generalize (gridSpec [] [] most 1).1.length = nn at *
    generalize (gridSpec [] [] most 1).2 = ee at *
    go_wp2_with fail
    refine (asked20_any _ _ _ _ _ _ _ _ (hx.keep hB2) (hy.keep hB2) hl hl2).mono ?_
    rintro _ _ ⟨rfl, rfl⟩
    go_wp2_with fail
    refine (asked20_any _ _ _ _ _ _ _ _ (hx.keep hB2) (hy.keep hB2) hl hl2).mono ?_
    rintro _ _ ⟨rfl, rfl⟩
    go_wp2_with fail
    refine (asked20_any _ _ _ _ _ _ _ _ (hx.keep hB2) (hy.keep hB2) hl hl2).mono ?_
    rintro _ _ ⟨rfl, rfl⟩
    go_wp2
    refine bodyPost_ret (v := atV (zeroC, askErr xs ys s)) (by simp [results, Try.results22, go_sem, r0, r1, r2, r3, r4, zeroC]) rfl ⟨?_, bset5 hB2 (by omega) _ _ _ _ _⟩
    rw [best_err HE.out]
  have e1 : (askErr xs ys s != 0) = false := by simp [he]
  have HE := Lib.hid he
  clear he
  rcases (Decidable.em (0 ≤ most ∧ most ≤ 32)).symm with hm | hm
  · rw [grid_arg hnil hm] at hgr
    have HM := Lib.hid hm
    clear hm hnil
    go_enter Try.func22, Try.ntmps22
    go_wp2_with fail
    refine (hgr).mono ?_
    rintro _ w2 ⟨A2, c2, rfl, ho2, hb2⟩
    have hR2 := hR0.keep hb2
    have hB2 := bstep hb0 hb2
    obtain ⟨⟨r0, r1, r2, r3, r4⟩, q0, q1, q2, q3, q4⟩ := cells5 hR2
    have hg2 := hR2.lt
    clear ho2 hb2 hgr
    go_wp2_with fail
    refine (asked20_any _ _ _ _ _ _ _ _ (hx.keep hB2) (hy.keep hB2) hl hl2).mono ?_
    rintro _ _ ⟨rfl, rfl⟩
    go_wp2_with fail
    refine (asked20_any _ _ _ _ _ _ _ _ (hx.keep hB2) (hy.keep hB2) hl hl2).mono ?_
    rintro _ _ ⟨rfl, rfl⟩
    go_wp2
    refine bodyPost_ret (v := atV (zeroC, 2)) (by simp [results, Try.results22, go_sem, r0, r1, r2, r3, r4, zeroC]) rfl ⟨?_, bset5 hB2 (by omega) _ _ _ _ _⟩
    rw [best_arg HE.out HM.out]
  rw [grid_ok hnil hm] at hgr
  obtain ⟨hm1, hm2⟩ := hm
  obtain ⟨m, rfl⟩ := Int.eq_ofNat_of_zero_le hm1
  clear hnil
  go_enter Try.func22, Try.ntmps22
  go_wp2_with fail
  refine (hgr).mono ?_
  rintro _ w2 ⟨A2, c2, rfl, ho2, hb2⟩
  have hR2 := hR0.keep hb2
  have hB2 := bstep hb0 hb2
  have hg2 := hR2.lt
  clear ho2 hb2 hgr hR0 hb0
  generalize (fullL (gridAt [] [] m 1) (gridN m)).length = nn at *
  go_wp2_with fail
  refine (asked20_any _ _ _ _ _ _ _ _ (hx.keep hB2) (hy.keep hB2) hl hl2).mono ?_
  rintro _ _ ⟨rfl, rfl⟩
  go_wp2
  go_loopg [13, 14, 15, 16] (m + 1) (fun gk l _ _ _ wr => ∃ (k : Nat) (b : Cl), k + gk = m + 1 ∧ l = .int .i64 k ∧ Blk wr w2.heap.size 32 (encC b).toArray ∧ Below w2.heap.size w2 wr ∧ Hid (Looked xs ys s (8 * k) b))
  case atStart => exact ⟨0, zeroC, by omega, rfl, Blk.new w2 _ _, balloc (Below.refl _ _) _, Lib.hid (looked_zero xs ys s)⟩
  case round =>
    obtain ⟨k, b, hk, rfl, hO, hb, HLK⟩ := hrel
    have hk' : k ≤ m + 1 := by omega
    have HK := Lib.hid hk
    clear hk
    obtain ⟨gu, rfl⟩ : ∃ gu : Nat, gu = gk := ⟨_, rfl⟩
    obtain ⟨wo, rfl⟩ : ∃ wo : World, wo = wr := ⟨_, rfl⟩
    by_cases hlt : k < m + 1
    · have dk : decide (k ≤ m) = true := by simp; omega
      go_wp2
      go_loopg [14, 15, 16] 2 (fun gj l _ _ wr => ∃ (j : Nat) (b : Cl), j + gj = 2 ∧ l = .int .i64 (-1 + 2 * (j : Int)) ∧ Blk wr w2.heap.size 32 (encC b).toArray ∧ Below w2.heap.size w2 wr ∧ Hid (Looked xs ys s (8 * k + 4 * j) b))
      case atStart => exact ⟨0, b, by omega, rfl, hO, hb, HLK⟩
      case round =>
        clear hO hb HLK
        obtain ⟨j, b, hj, rfl, hO, hb, HLK⟩ := hrel
        have hj' : j ≤ 2 := by omega
        have HJ := Lib.hid hj
        clear hj
        obtain ⟨gv, rfl⟩ : ∃ gv : Nat, gv = gk := ⟨_, rfl⟩
        obtain ⟨wp, rfl⟩ : ∃ wp : World, wp = wr := ⟨_, rfl⟩
        by_cases hlt1 : j < 2
        · have dj : decide (-1 + 2 * (j : Int) ≤ 1) = true := by simp; omega
          go_wp2
          go_loopg [15, 16] 4 (fun gj l _ wr => ∃ (r : Nat) (b : Cl), r + gj = 4 ∧ l = .int .i64 r ∧ Blk wr w2.heap.size 32 (encC b).toArray ∧ Below w2.heap.size w2 wr ∧ Hid (Looked xs ys s (8 * k + 4 * j + r) b))
          case atStart => exact ⟨0, b, by omega, rfl, hO, hb, HLK⟩
          case round =>
            clear hO hb HLK
            obtain ⟨r, b, hr, rfl, hO, hb, HLK⟩ := hrel
            have hr' : r ≤ 4 := by omega
            have HR := Lib.hid hr
            clear hr
            by_cases hlt2 : r < 4
            · have hva := vis_at (k := k) hlt1 hlt2
              have hvi := vis_in (m := m) (t := 8 * k + 4 * j + r) (by omega)
              rw [hva.1] at hvi
              obtain ⟨D, hD⟩ : ∃ D : Int, D = (-1 + 2 * (j : Int)) * (k : Int) := ⟨_, rfl⟩
              have hD1 : -32 ≤ D ∧ D ≤ 32 := by omega
              have fD : IntKind.i64.wrap ((-1 + 2 * (j : Int)) * (k : Int)) = D := by rw [← hD]; exact IntWalk.i64_in _ (by omega)
              have HD := Lib.hid hD
              have HVA := Lib.hid hva
              clear hD hva hvi
              go_wp2_with fail
              refine (found_any _ _ _ _ _ _ D (r : Int) s _ (hx.keep (bstep hB2 hb)) (hy.keep (bstep hB2 hb)) HE.out hD1 (by omega)).mono ?_
              rintro _ w3 ⟨rfl, hb3⟩
              have hO3 := hO.keep hb3
              have hB3 : Below w2.heap.size w2 w3 := bstep hb hb3
              have hg3 := hO3.lt
              have hs3 := hB3.size
              obtain ⟨C, hC⟩ : ∃ C, C = cellS xs ys D r s := ⟨_, rfl⟩
              rw [← hC]
              have hvc : visC xs ys s (8 * k + 4 * j + r) = C := by unfold visC; rw [HVA.out.1, HVA.out.2, ← HD.out, hC]
              have HVC := Lib.hid hvc
              clear hC hvc fD
              obtain ⟨⟨u0, u1, u2, u3, u4⟩, v0, v1, v2, v3, v4⟩ := cells5 hO3
              by_cases hgt : b.pw < C.pw
              · have HL1 : Hid (Looked xs ys s (8 * k + 4 * j + (r + 1)) C) := Lib.hid (by have h1 := looked_more HLK.out (by rw [HVC.out]; exact hgt); rw [HVC.out] at h1; exact h1)
                go_wp2
                go_roundg (gk - 1)
                case rel =>
                  refine ⟨r + 1, C, by have := HR.out; omega, by go_num, ?_, ?_, HL1⟩
                  · exact (put5 hO3 C).alloc _
                  · exact balloc (bset5 hB3 (by omega) _ _ _ _ _) _
                case measure => have := HR.out; omega
              · have HL1 : Hid (Looked xs ys s (8 * k + 4 * j + (r + 1)) b) := Lib.hid (by have h1 := looked_same HLK.out (by rw [HVC.out]; exact hgt); exact h1)
                go_wp2
                go_roundg (gk - 1)
                case rel =>
                  refine ⟨r + 1, b, by have := HR.out; omega, by go_num, ?_, ?_, HL1⟩
                  · exact hO3.alloc _
                  · exact balloc hB3 _
                case measure => have := HR.out; omega
            · obtain rfl : r = 4 := by omega
              go_wp2
              go_roundg (gv - 1)
              case rel => exact ⟨j + 1, b, by have := HJ.out; omega, by go_num, hO, hb, by rw [show 8 * k + 4 * (j + 1) = 8 * k + 4 * j + 4 by omega]; exact HLK⟩
              case measure => have := HJ.out; omega
        · obtain rfl : j = 2 := by omega
          go_wp2
          go_roundg (gu - 1)
          case rel => exact ⟨k + 1, b, by have := HK.out; omega, by go_num, hO, hb, by rw [show 8 * (k + 1) = 8 * k + 4 * 2 by omega]; exact HLK⟩
          case measure => have := HK.out; omega
    · obtain rfl : k = m + 1 := by omega
      have hgO := hO.lt
      have hR := hR2.keep hb
      have hgR := hR.lt
      obtain ⟨⟨r0, r1, r2, r3, r4⟩, q0, q1, q2, q3, q4⟩ := cells5 hR
      obtain ⟨⟨o0, o1, o2, o3, o4⟩, p0, p1, p2, p3, p4⟩ := cells5 hO
      rcases looked_best HLK.out with ⟨hz, hbz⟩ | ⟨hz, hbz⟩
      · have ez : (b.pw == 0) = true := by simp [hz]
        have HZ := Lib.hid hbz
        clear hz hbz
        go_wp2
        refine bodyPost_ret (v := atV (zeroC, 18)) (by simp [results, Try.results22, go_sem, r0, r1, r2, r3, r4, zeroC]) rfl ⟨?_, bset5 (bstep hB2 hb) (by omega) _ _ _ _ _⟩
        rw [best_none HE.out ⟨hm1, hm2⟩ HZ.out]
      · have ez : (b.pw == 0) = false := by simp [hz]
        have HZ := Lib.hid hz
        have HBB := Lib.hid hbz
        clear hz hbz
        go_wp2
        refine bodyPost_ret (v := atV (b, 0)) (by simp [results, Try.results22, go_sem, r0, r1, r2, r3, r4]) rfl ⟨?_, bset5 (bstep hB2 hb) (by omega) _ _ _ _ _⟩
        rw [best_ok HE.out ⟨hm1, hm2⟩ (by rw [HBB.out]; exact HZ.out), HBB.out]
end Go.Proofs.Ytnejmgnbamajdaa
