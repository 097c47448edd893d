/-
  Layer 17, contracts: products.
  Layer 17, contracts: spread, correlate.
  Layer 17, contracts: correlate, Of.
-/
import Derived.Test.YtcpmpfnickhojaaPCrC
namespace Go.Proofs.Ytcpmpfnickhojaa
open Go.RowKit Num Dft
set_option linter.unusedVariables false
set_option linter.unusedSimpArgs false
namespace Crs
open Lol

theorem product_w (A B : Option Addr) (c d : Nat) (a b : List Int) (w : World) (ha : isSpB a = true) (hb : isSpB b = true) (hx : RI .i64 w A a) (hy : RI .i64 w B b) :
    Calls Try.prog 12 #[.slice A a.length c, .slice B b.length d] w fun e w' => ∃ A c, e = .returned (.tuple #[.slice A 64 c, .int .i64 0]) ∧ RIo .i64 w.heap.size w' A (prdL a b) ∧ Below w.heap.size w w' := by
  have h := product_any A B c d a b w hx hy (by rw [sp_len ha]; omega) (by rw [sp_len hb]; omega)
  rw [prd_ok ha hb] at h
  refine h.mono ?_
  rintro e w' ⟨A', c', rfl, h1, h2, h3⟩
  exact ⟨A', c', by simp only [prdL_len], h1, h3⟩
theorem pdL_zero (La Lb : List (List Int)) (b : Int) : pdL La Lb b 0 = List.replicate 64 0 := by
  refine list_ext_getD (d := 0) (by rw [pdL_len]; simp) (fun j hj => ?_)
  rw [pdL_len] at hj
  unfold pdL
  rw [fullL_getD _ _ _ _ hj, getD_lt _ _ (by simpa using hj)]
  rw [List.getElem_replicate]
  rfl
theorem pdL_skip {La Lb : List (List Int)} {b : Int} {i : Nat} (h : ¬ (0 ≤ (i : Int) + b ∧ (i : Int) + b < Lb.length)) : pdL La Lb b i = pdL La Lb b (i + 1) := by
  unfold pdL
  refine fullL_congr fun k _ => ?_
  have : pairB Lb.length b i = false := decide_eq_false h
  rw [pdF, if_neg (by rw [this]; simp)]
theorem pdF_step {La Lb : List (List Int)} {b : Int} {i j : Nat} (hj : (i : Int) + b = j) (h : j < Lb.length) (k : Nat) : pdF La Lb b k (i + 1) = (pdF La Lb b k i + prdF (La.getD i []) (Lb.getD j []) k) % 7681 := by
  have : pairB Lb.length b i = true := decide_eq_true (by omega)
  rw [pdF, if_pos this, hj, Int.toNat_natCast]
set_option maxRecDepth 20000 in
set_option maxHeartbeats 2000000 in
theorem products_any (A B : Option Addr) (c d : Nat) (La Lb : List (List Int)) (b : Int) (w : World) (hx : RLL .i64 w A La) (hy : RLL .i64 w B Lb) (hsa : ∀ i, i < La.length → isSpB (La.getD i []) = true) (hsb : ∀ i, i < Lb.length → isSpB (Lb.getD i []) = true) (hla : La.length ≤ 8) (hlb : Lb.length ≤ 8) (hb1 : -100 ≤ b) (hb2 : b ≤ 100) :
    Calls Try.prog 56 #[.slice A La.length c, .slice B Lb.length d, .int .i64 b] w fun e w' => ∃ A c, e = .returned (.tuple #[.slice A 64 c, .int .i64 0]) ∧ RI .i64 w' A (pdL La Lb b La.length) ∧ Below w.heap.size w w' := by
  have HSA := Lib.hid hsa
  have HSB := Lib.hid hsb
  have hmk := mk64
  have HZ := Lib.hid (pdL_zero La Lb b)
  clear hsa hsb
  go_enter Try.func56, Try.ntmps56
  go_wp2
  go_loopg [17] La.length (fun gk i wr => ∃ (k : Nat), k + gk = La.length ∧ i = .int .i64 k ∧ Blk wr w.heap.size 2 ((pdL La Lb b k).flatMap (encI .i64)).toArray ∧ Below w.heap.size w wr)
  case atStart => exact ⟨0, by omega, rfl, by rw [HZ.out]; exact Blk.new w 2 _, balloc (Below.refl _ _) _⟩
  case round =>
    obtain ⟨k, hk, rfl, hO, hb⟩ := hrel
    have hk' : k ≤ La.length := by omega
    have HK := Lib.hid hk
    clear hk hmk HZ
    have hsz := hO.lt
    by_cases hlt : k < La.length
    · have f1 : IntKind.i64.wrap ((k : Int) + b) = (k : Int) + b := IntWalk.i64_in _ (by omega)
      rcases (show (0 ≤ (k : Int) + b ∧ (k : Int) + b < Lb.length) ∨ (k : Int) + b < 0 ∨ (0 ≤ (k : Int) + b ∧ (Lb.length : Int) ≤ (k : Int) + b) by omega) with h | h | h
      · obtain ⟨j, hj⟩ : ∃ j : Nat, (k : Int) + b = j := ⟨((k : Int) + b).toNat, by omega⟩
        have hjl : j < Lb.length := by omega
        have f2 : IntKind.i64.wrap ((k : Int) + b) = (j : Int) := by rw [IntWalk.i64_in _ (by omega), hj]
        have d1 : decide ((j : Int) < 0) = false := decide_eq_false (by omega)
        have d2 : decide (Lb.length ≤ j) = false := decide_eq_false (by omega)
        have HST := Lib.hid (fun t => pdF_step (La := La) (Lb := Lb) (b := b) hj hjl t)
        obtain ⟨b1, off1, A1, c1, rfl, hlw1, hc1, hr1, _⟩ := hx.at_ hlt
        obtain ⟨b2, off2, A2, c2, rfl, hlw2, hc2, hr2, _⟩ := hy.at_ hjl
        have hsp1 := HSA.out k hlt
        have hsp2 := HSB.out j hjl
        rw [getD_lt _ _ hlt, getD_lt _ _ hjl] at HST
        rw [getD_lt _ _ hlt] at hsp1
        rw [getD_lt _ _ hjl] at hsp2
        have hl1 := sp_len hsp1
        have hl2 := sp_len hsp2
        have HPW := Lib.hid (fun (w : World) (hx : RI .i64 w A1 La[k]) (hy : RI .i64 w A2 Lb[j]) => product_w A1 A2 c1 c2 La[k] Lb[j] w hsp1 hsp2 hx hy)
        have HCC : Hid (∀ W, Below w.heap.size w W → W.cell? ⟨b1, off1 + k, none⟩ = some (.slice A1 La[k].length c1) ∧ W.cell? ⟨b2, off2 + j, none⟩ = some (.slice A2 Lb[j].length c2)) := Lib.hid (fun W hW => ⟨(hW.cell (p := ⟨b1, off1 + k, none⟩) hlw1).trans hc1, (hW.cell (p := ⟨b2, off2 + j, none⟩) hlw2).trans hc2⟩)
        clear hj h f1 hsp1 hsp2 hl1 hl2 hc1 hc2
        have hq := HCC.out _ hb
        have HQ := Lib.hid (HCC.out _ hb.drew)
        go_wp2
        go_region_held3 (fun W => W.cell? ⟨b1, off1 + k, none⟩ = some (.slice A1 La[k].length c1) ∧ W.cell? ⟨b2, off2 + j, none⟩ = some (.slice A2 Lb[j].length c2))
          (first | exact HQ.out | go_keep | exact HCC.out _ (bstep hb.drew hb3) | fail)
          ((go_at_call 12; (with_reducible refine (HPW.out wr.drew ((hr1.keep hb).keep (Below.drew (Below.refl _ _))) ((hr2.keep hb).keep (Below.drew (Below.refl _ _)))).mono ?_); rintro e w3 ⟨A3, c3, rfl, r3, hb3⟩))
        have hB3 : Below w.heap.size w w3 := bstep hb.drew hb3
        have r4 : RIo .i64 (w.heap.size + 1) w3 A3 (prdL La[k] Lb[j]) := r3.mono (show w.heap.size + 1 ≤ wr.heap.size from hsz)
        have hO4 : Blk w3 w.heap.size 2 ((mixL (fun t => pdF La Lb b t (k + 1)) (fun t => pdF La Lb b t k) 64 0).flatMap (encI .i64)).toArray := by
          rw [mixL_start]
          exact (hO.drew).keep hb3
        obtain ⟨gu, rfl⟩ : ∃ gu : Nat, gu = gk := ⟨_, rfl⟩
        clear hb3 hq HQ HCC HPW hO hb r3 hr1 hr2 hsz
        go_wp2
        go_loopg [51] 64 (fun gk2 i wr2 => ∃ (t : Nat), t + gk2 = 64 ∧ i = .int .i64 t ∧ Blk wr2 w.heap.size 2 ((mixL (fun t => pdF La Lb b t (k + 1)) (fun t => pdF La Lb b t k) 64 t).flatMap (encI .i64)).toArray ∧ RIo .i64 (w.heap.size + 1) wr2 A3 (prdL La[k] Lb[j]) ∧ Below w.heap.size w wr2)
        case atStart => exact ⟨0, by omega, rfl, hO4, r4, hB3⟩
        case round =>
          clear hO4 r4 hB3
          obtain ⟨t, ht, rfl, hO5, r5, hb5⟩ := hrel
          have ht' : t ≤ 64 := by omega
          have HT := Lib.hid ht
          clear ht
          by_cases hlt2 : t < 64
          · obtain ⟨b3, off3, rfl, hlw3, hc3⟩ := r5.ri.at2 (i := t) (by rw [prdL_len]; exact hlt2)
            have e3 : (prdL La[k] Lb[j]).getD t 0 = prdF La[k] Lb[j] t := fullL_getD _ _ _ _ hlt2
            rw [e3] at hc3
            have o0 := blkI_at hO5 (j := t) (by rw [mixL_len]; exact hlt2)
            rw [mixL_at _ _ hlt2] at o0
            have of0 := hO5.frozen t
            have hgl := hO5.lt
            have bx := pdF_bd La Lb b t k
            have by' : 0 ≤ prdF La[k] Lb[j] t ∧ prdF La[k] Lb[j] t < 7681 := ⟨Int.emod_nonneg _ (by omega), Int.emod_lt_of_pos _ (by omega)⟩
            have HN := Lib.hid (HST.out t).symm
            clear e3
            generalize pdF La Lb b t k = X at *
            generalize prdF La[k] Lb[j] t = Y at *
            have HM := Lib.hid (mixL_set (fun t => pdF La Lb b t (k + 1)) (fun t => pdF La Lb b t k) 64 t ((X + Y) % 7681) HN.out)
            go_wp2
            all_goals
              go_roundg (gk - 1)
              case rel => exact ⟨t + 1, by have := HT.out; omega, by go_num, by rw [← HM.out]; exact blkI_set hO5 (by rw [mixL_len]; exact hlt2) _, r5.far (p := ⟨w.heap.size, t, none⟩) (by simp) _, hb5.setCell (p := ⟨w.heap.size, t, none⟩) (Nat.le_refl _) _⟩
              case measure => have := HT.out; omega
          · rw [mixL_end _ _ _ _ (by omega)] at hO5
            clear HT ht' r5
            go_wp2
            go_roundg (gu - 1)
            case rel => exact ⟨k + 1, by have := HK.out; omega, by go_num, hO5, hb5⟩
            case measure => have := HK.out; omega
      · have d1 : decide ((k : Int) + b < 0) = true := decide_eq_true h
        have HSK := Lib.hid (pdL_skip (La := La) (Lb := Lb) (b := b) (i := k) (by omega))
        go_wp2
        go_roundg (gk - 1)
        case rel => exact ⟨k + 1, by have := HK.out; omega, by go_num, by rw [← HSK.out]; exact hO, hb⟩
        case measure => have := HK.out; omega
      · have d1 : decide ((k : Int) + b < 0) = false := decide_eq_false (by omega)
        have d2 : decide ((Lb.length : Int) ≤ (k : Int) + b) = true := decide_eq_true h.2
        have HSK := Lib.hid (pdL_skip (La := La) (Lb := Lb) (b := b) (i := k) (by omega))
        go_wp2
        go_roundg (gk - 1)
        case rel => exact ⟨k + 1, by have := HK.out; omega, by go_num, by rw [← HSK.out]; exact hO, hb⟩
        case measure => have := HK.out; omega
    · obtain rfl : k = La.length := by omega
      go_wp2
      go_ret2
      exact ⟨_, _, rfl, blk_RI hO, hb⟩
end Crs
end Go.Proofs.Ytcpmpfnickhojaa
namespace Go.Proofs.Ytcpmpfnickhojaa
open Go.RowKit Num Dft
set_option linter.unusedVariables false
set_option linter.unusedSimpArgs false
namespace Crs
open Lol

/-- What the lags are when the first K values have been spread. -/
def sprF (old vals : Nat → Int) (m : Nat) (b : Int) (K t : Nat) : Int := old t + S (fun k => if lagI k b = (t : Int) - m then vals k else 0) K
theorem sprF_zero (old vals : Nat → Int) (m : Nat) (b : Int) (t : Nat) : sprF old vals m b 0 t = old t := by unfold sprF; rw [S]; omega
theorem sprF_skip {old vals : Nat → Int} {m n : Nat} {b : Int} {K : Nat} (hn : n = 2 * m + 1) (h : lagI K b < -(m : Int) ∨ (m : Int) < lagI K b) : fullL (sprF old vals m b K) n = fullL (sprF old vals m b (K + 1)) n := by
  refine fullL_congr fun t ht => ?_
  unfold sprF
  rw [S, if_neg (by omega)]
  omega
theorem sprF_set {old vals : Nat → Int} {m n : Nat} {b : Int} {K t0 : Nat} (ht : t0 < n) (h : lagI K b = (t0 : Int) - m) : (fullL (sprF old vals m b K) n).set t0 (sprF old vals m b K t0 + vals K) = fullL (sprF old vals m b (K + 1)) n := by
  refine list_ext_getD (d := 0) (by simp [fullL]) (fun j hj => ?_)
  have hj' : j < n := by simpa [fullL] using hj
  rw [set_getD (by rw [fullL_len]; exact ht) (by rw [fullL_len]; exact hj'), fullL_getD _ _ _ _ hj', fullL_getD _ _ _ _ hj']
  by_cases e : t0 = j
  · subst e
    rw [if_pos rfl]
    unfold sprF
    rw [S, if_pos h]
    omega
  · rw [if_neg e]
    unfold sprF
    rw [S, if_neg (by omega)]
    omega
theorem sprF_bd {old vals : Nat → Int} (ho : ∀ t, -1000000 ≤ old t ∧ old t ≤ 1000000) (hv : ∀ k, -10000 ≤ vals k ∧ vals k ≤ 10000) (m : Nat) (b : Int) (K t : Nat) (hK : K ≤ 64) : -2000000 ≤ sprF old vals m b K t ∧ sprF old vals m b K t ≤ 2000000 := by
  have h := S_bd (f := fun k => if lagI k b = (t : Int) - m then vals k else 0) (n := K) (b := 10000) (fun k _ => by
    split
    · exact hv k
    · omega)
  have := ho t
  unfold sprF
  omega
set_option maxHeartbeats 2000000 in
theorem spread_any (g m n : Nat) (old vals : Nat → Int) (V : Option Addr) (c : Nat) (b bb : Int) (w : World) (hn : n = 2 * m + 1) (hm : m ≤ 255) (hbb : bb = 32 * b) (hb1 : -100 ≤ b) (hb2 : b ≤ 100) (ho : ∀ t, -1000000 ≤ old t ∧ old t ≤ 1000000) (hv : ∀ k, -10000 ≤ vals k ∧ vals k ≤ 10000)
    (hO : Blk w g 2 ((fullL old n).flatMap (encI .i64)).toArray) (hr : RIo .i64 (g + 1) w V (fullL vals 64)) :
    Calls Try.prog 57 #[.slice (some ⟨g, 0, none⟩) n n, .slice V 64 c, .int .i64 bb] w fun e w' => e = .returned (.tuple #[]) ∧ Blk w' g 2 ((fullL (sprF old vals m b 64) n).flatMap (encI .i64)).toArray ∧ Below g w w' := by
  have hq : (n : Int) / 2 = (m : Int) := by omega
  have hnb : n ≤ 511 := by omega
  have HNM := Lib.hid hn
  have HBB := Lib.hid hbb
  have HBD := Lib.hid (fun K t hK => sprF_bd ho hv m b K t hK)
  have HV := Lib.hid hv
  have hbb1 : -3200 ≤ bb := by omega
  have hbb2 : bb ≤ 3200 := by omega
  have hO0 : Blk w g 2 ((fullL (sprF old vals m b 0) n).flatMap (encI .i64)).toArray := by
    rw [fullL_congr (fun t _ => sprF_zero old vals m b t)]
    exact hO
  clear hn hbb ho hv hO
  go_enter Try.func57, Try.ntmps57
  go_wp2
  go_loopg [15] 64 (fun gk i wr => ∃ k : Nat, k + gk = 64 ∧ i = .int .i64 k ∧ Blk wr g 2 ((fullL (sprF old vals m b k) n).flatMap (encI .i64)).toArray ∧ RIo .i64 (g + 1) wr V (fullL vals 64) ∧ Below g w wr)
  case atStart => exact ⟨0, by omega, rfl, hO0, hr, Below.refl _ _⟩
  case round =>
    clear hO0 hr
    obtain ⟨k, hk, rfl, hO, hr, hb⟩ := hrel
    have hk' : k ≤ 64 := by omega
    have HK := Lib.hid hk
    clear hk
    by_cases hlt : k < 64
    · obtain ⟨b1, off1, rfl, hlw1, hc1⟩ := hr.ri.at2 (i := k) (by rw [fullL_len]; exact hlt)
      rw [fullL_getD _ _ _ _ hlt] at hc1
      have hvb := HV.out k
      have HLI : Hid (lagI k b = if 32 ≤ k then (k : Int) + bb - 64 else (k : Int) + bb) := Lib.hid (by
        unfold lagI; rw [HBB.out])
      obtain ⟨L1, hL1⟩ : ∃ L1, L1 = (k : Int) + bb := ⟨_, rfl⟩
      have f1 : IntKind.i64.wrap ((k : Int) + bb) = L1 := by rw [IntWalk.i64_in _ (by omega), hL1]
      have hL1b : -3200 ≤ L1 ∧ L1 ≤ 3300 := by omega
      rw [← hL1] at HLI
      clear hL1
      by_cases h32 : 32 ≤ k
      · have d0 : decide (32 ≤ k) = true := decide_eq_true h32
        have d0' : decide ((32 : Int) ≤ (k : Int)) = true := decide_eq_true (by omega)
        obtain ⟨L2, hL2⟩ : ∃ L2, L2 = L1 - 64 := ⟨_, rfl⟩
        have f2 : IntKind.i64.wrap (L1 - 64) = L2 := by rw [IntWalk.i64_in _ (by omega), hL2]
        have hL2b : -3300 ≤ L2 ∧ L2 ≤ 3300 := by omega
        have HLV := Lib.hid (show lagI k b = L2 by rw [HLI.out, if_pos h32, hL2])
        clear hL2 HLI h32
        rcases (show (-(m : Int) ≤ L2 ∧ L2 ≤ (m : Int)) ∨ L2 < -(m : Int) ∨ (-(m : Int) ≤ L2 ∧ (m : Int) < L2) by omega) with hin | hin | hin
        · have d1 : decide (-(m : Int) ≤ L2) = true := decide_eq_true hin.1
          have d2 : decide (L2 ≤ (m : Int)) = true := decide_eq_true hin.2
          obtain ⟨t0, ht0⟩ : ∃ t0 : Nat, (t0 : Int) = L2 + (m : Int) := ⟨(L2 + (m : Int)).toNat, by omega⟩
          have f3 : IntKind.i64.wrap (L2 + (m : Int)) = (t0 : Int) := by rw [IntWalk.i64_in _ (by omega), ht0]
          have ht1 : t0 < n := by rw [HNM.out]; omega
          have HM := Lib.hid (sprF_set (old := old) (vals := vals) ht1 (show lagI k b = (t0 : Int) - m by rw [HLV.out]; omega))
          have o0 := blkI_at hO (j := t0) (by rw [fullL_len]; exact ht1)
          rw [fullL_getD _ _ _ _ ht1] at o0
          have of0 := hO.frozen t0
          have hgl := hO.lt
          have hxb := HBD.out k t0 hk'
          have ht2 : (t0 : Int) < n := by omega
          clear ht0 hin
          go_wp2
          go_roundg (gk - 1)
          case rel => exact ⟨k + 1, by have := HK.out; omega, by go_num, by rw [← HM.out]; exact blkI_set hO (by rw [fullL_len]; exact ht1) _, hr.far (p := ⟨g, t0, none⟩) (by simp) _, hb.setCell (p := ⟨g, t0, none⟩) (Nat.le_refl _) _⟩
          case measure => have := HK.out; omega
        · have d1 : decide (-(m : Int) ≤ L2) = false := decide_eq_false (by omega)
          have HM := Lib.hid (sprF_skip (old := old) (vals := vals) (b := b) (K := k) HNM.out (by rw [HLV.out]; exact .inl hin))
          clear hin
          go_wp2
          go_roundg (gk - 1)
          case rel => exact ⟨k + 1, by have := HK.out; omega, by go_num, by rw [← HM.out]; exact hO, hr, hb⟩
          case measure => have := HK.out; omega
        · have d1 : decide (-(m : Int) ≤ L2) = true := decide_eq_true hin.1
          have d2 : decide (L2 ≤ (m : Int)) = false := decide_eq_false (by omega)
          have HM := Lib.hid (sprF_skip (old := old) (vals := vals) (b := b) (K := k) HNM.out (by rw [HLV.out]; exact .inr hin.2))
          clear hin
          go_wp2
          go_roundg (gk - 1)
          case rel => exact ⟨k + 1, by have := HK.out; omega, by go_num, by rw [← HM.out]; exact hO, hr, hb⟩
          case measure => have := HK.out; omega
      · have d0 : decide (32 ≤ k) = false := decide_eq_false h32
        have d0' : decide ((32 : Int) ≤ (k : Int)) = false := decide_eq_false (by omega)
        have HLV := Lib.hid (show lagI k b = L1 by rw [HLI.out, if_neg h32])
        clear HLI h32
        rcases (show (-(m : Int) ≤ L1 ∧ L1 ≤ (m : Int)) ∨ L1 < -(m : Int) ∨ (-(m : Int) ≤ L1 ∧ (m : Int) < L1) by omega) with hin | hin | hin
        · have d1 : decide (-(m : Int) ≤ L1) = true := decide_eq_true hin.1
          have d2 : decide (L1 ≤ (m : Int)) = true := decide_eq_true hin.2
          obtain ⟨t0, ht0⟩ : ∃ t0 : Nat, (t0 : Int) = L1 + (m : Int) := ⟨(L1 + (m : Int)).toNat, by omega⟩
          have f3 : IntKind.i64.wrap (L1 + (m : Int)) = (t0 : Int) := by rw [IntWalk.i64_in _ (by omega), ht0]
          have ht1 : t0 < n := by rw [HNM.out]; omega
          have HM := Lib.hid (sprF_set (old := old) (vals := vals) ht1 (show lagI k b = (t0 : Int) - m by rw [HLV.out]; omega))
          have o0 := blkI_at hO (j := t0) (by rw [fullL_len]; exact ht1)
          rw [fullL_getD _ _ _ _ ht1] at o0
          have of0 := hO.frozen t0
          have hgl := hO.lt
          have hxb := HBD.out k t0 hk'
          have ht2 : (t0 : Int) < n := by omega
          clear ht0 hin
          go_wp2
          go_roundg (gk - 1)
          case rel => exact ⟨k + 1, by have := HK.out; omega, by go_num, by rw [← HM.out]; exact blkI_set hO (by rw [fullL_len]; exact ht1) _, hr.far (p := ⟨g, t0, none⟩) (by simp) _, hb.setCell (p := ⟨g, t0, none⟩) (Nat.le_refl _) _⟩
          case measure => have := HK.out; omega
        · have d1 : decide (-(m : Int) ≤ L1) = false := decide_eq_false (by omega)
          have HM := Lib.hid (sprF_skip (old := old) (vals := vals) (b := b) (K := k) HNM.out (by rw [HLV.out]; exact .inl hin))
          clear hin
          go_wp2
          go_roundg (gk - 1)
          case rel => exact ⟨k + 1, by have := HK.out; omega, by go_num, by rw [← HM.out]; exact hO, hr, hb⟩
          case measure => have := HK.out; omega
        · have d1 : decide (-(m : Int) ≤ L1) = true := decide_eq_true hin.1
          have d2 : decide (L1 ≤ (m : Int)) = false := decide_eq_false (by omega)
          have HM := Lib.hid (sprF_skip (old := old) (vals := vals) (b := b) (K := k) HNM.out (by rw [HLV.out]; exact .inr hin.2))
          clear hin
          go_wp2
          go_roundg (gk - 1)
          case rel => exact ⟨k + 1, by have := HK.out; omega, by go_num, by rw [← HM.out]; exact hO, hr, hb⟩
          case measure => have := HK.out; omega
    · obtain rfl : k = 64 := by omega
      go_wp2
      go_end0
      exact ⟨rfl, hO, hb⟩
end Crs
end Go.Proofs.Ytcpmpfnickhojaa
namespace Go.Proofs.Ytcpmpfnickhojaa
open Go.RowKit Num Dft
set_option linter.unusedVariables false
set_option linter.unusedSimpArgs false
namespace Crs
open Lol

theorem values_w (A : Option Addr) (c : Nat) (a r : List Int) (w : World) (ha : isSpB a = true) (hr : vlL a = r) (hx : RI .i64 w A a) :
    Calls Try.prog 14 #[.slice A 64 c] w fun e w' => ∃ A c, e = .returned (.tuple #[.slice A 64 c, .int .i64 0]) ∧ RIo .i64 w.heap.size w' A r ∧ Below w.heap.size w w' := by
  have h := values_any A c a w hx (by rw [sp_len ha]; omega)
  rw [vl_ok ha, sp_len ha] at h
  subst hr
  refine h.mono ?_
  rintro e w' ⟨A', c', rfl, h1, h2, h3⟩
  exact ⟨A', c', by simp only [vlL_len], h1, h3⟩
theorem lgP_bd {xs ys : List Int} (hx : streamErr xs = 0) (hy : streamErr ys = 0) (m j t : Nat) (hj : j ≤ 16) : -1000000 ≤ lgP xs ys m j t ∧ lgP xs ys m j t ≤ 1000000 := by
  have h1 := (Lagw.streamErr_zero hx).1
  have hA : pcN xs ≤ 8 := by unfold pcN; omega
  have h := S_bd (f := fun j : Nat => spF xs ys (pcN xs) (pcN ys) ((t : Int) - m) ((j : Int) + 1 - (pcN xs : Int))) (n := j) (b := 2304) (fun i _ => by
    unfold spF
    by_cases hex : ∃ k0, k0 < 64 ∧ lagI k0 ((i : Int) + 1 - (pcN xs : Int)) = (t : Int) - m
    · obtain ⟨k0, hk0, hL⟩ := hex
      rw [S_one hk0 (fun k hk hne => if_neg fun e => hne ?_), if_pos hL]
      · have := by_bd (b := 9) (by omega) (prod_9 hx hy) (pcN xs) (pcN ys) ((i : Int) + 1 - (pcN xs : Int)) k0
        omega
      · unfold lagI at e hL
        split at e <;> split at hL <;> omega
    · rw [S_null fun k hk => if_neg fun e => hex ⟨k, hk, e⟩]
      omega)
  unfold lgP
  omega
theorem byF_10 {xs ys : List Int} (hx : streamErr xs = 0) (hy : streamErr ys = 0) (b : Int) (k : Nat) : -10000 ≤ byF xs ys (pcN xs) (pcN ys) b k ∧ byF xs ys (pcN xs) (pcN ys) b k ≤ 10000 := by
  have h1 := (Lagw.streamErr_zero hx).1
  have hA : pcN xs ≤ 8 := by unfold pcN; omega
  have := by_bd (b := 9) (by omega) (prod_9 hx hy) (pcN xs) (pcN ys) b k
  omega
theorem lgP_succ (xs ys : List Int) (m j : Nat) (n : Nat) : fullL (sprF (lgP xs ys m j) (byF xs ys (pcN xs) (pcN ys) ((j : Int) + 1 - (pcN xs : Int))) m ((j : Int) + 1 - (pcN xs : Int)) 64) n = fullL (lgP xs ys m (j + 1)) n := by
  refine fullL_congr fun t _ => ?_
  unfold sprF lgP
  rw [S]
  rfl
set_option maxHeartbeats 2000000 in
theorem correlate_any (A B : Option Addr) (c d n1 n2 : Nat) (xs ys : List Int) (m : Nat) (w : World) (hn1 : xs.length = n1) (hn2 : ys.length = n2) (hx : RI .i64 w A xs) (hy : RI .i64 w B ys) (hc : n1 ≤ c) (hd : n2 ≤ d) (he : streamErr xs = 0) (he2 : streamErr ys = 0) (hm : m ≤ 255) :
    Calls Try.prog 40 #[.slice A n1 c, .slice B n2 d, .int .i64 (m : Int)] w fun e w' => ∃ A c, e = .returned (.tuple #[.slice A (2 * m + 1) c, .int .i64 0]) ∧ RI .i64 w' A (fullL (lgF xs ys m) (2 * m + 1)) ∧ Below w.heap.size w w' := by
  subst hn1; subst hn2
  have hl5 := (Lagw.streamErr_zero he).1
  have hl6 := (Lagw.streamErr_zero he2).1
  have hA8 : pcN xs ≤ 8 := by unfold pcN; omega
  have hB8 : pcN ys ≤ 8 := by unfold pcN; omega
  obtain ⟨n, hn⟩ : ∃ n, n = 2 * m + 1 := ⟨_, rfl⟩
  have hmn : 2 * (m : Int) + 1 = (n : Int) := by omega
  have hnb : n ≤ 511 := by omega
  have HN := Lib.hid hn
  rw [← hn]
  clear hn
  obtain ⟨i0, hi0, hz0, hz1, hz2⟩ := info_int64
  have hmk := mk_row (P := Try.prog) 23 2 Try.underlying23 hi0 hz0 hz1 hz2 (encI .i64) (encI_len .i64) (by omega) 0 rfl n (by omega) (by omega)
  have HS1 := fun w hx => spectra_any A c xs w he hx hc
  have HS2 := fun w hx => spectra_any B d ys w he2 hx hd
  have HE := Lib.hid (And.intro he he2)
  have HP := Lib.hid (fun A c B d b w hx hy hb1 hb2 => products_any A B c d (spsL xs) (spsL ys) b w hx hy (fun i hi => by rw [spsL_len] at hi; rw [spsL_at _ hi]; exact sp_spc _) (fun i hi => by rw [spsL_len] at hi; rw [spsL_at _ hi]; exact sp_spc _) (by rw [spsL_len]; exact hA8) (by rw [spsL_len]; exact hB8) hb1 hb2)
  rw [spsL_len, spsL_len] at HP
  have HV := Lib.hid (fun b A c w hx => values_w A c (pdL (spsL xs) (spsL ys) b (pcN xs)) _ w (pdL_sp _ _ _ _) (by_val b (prod_9 he he2) hA8) hx)
  have hst : (List.replicate n (0 : Int)).flatMap (encI .i64) = (fullL (lgP xs ys m 0) n).flatMap (encI .i64) := by
    congr 1
    refine list_ext_getD (d := 0) (by rw [fullL_len]; simp) (fun j hj => ?_)
    have hj' : j < n := by simpa using hj
    rw [fullL_getD _ _ _ _ hj', getD_lt _ _ hj, List.getElem_replicate]
    rfl
  have HST := Lib.hid hst
  clear he he2 hst
  generalize hNA : pcN xs = NA at *
  generalize hNB : pcN ys = NB at *
  have HNA := Lib.hid hNA
  have HNB := Lib.hid hNB
  clear hNA hNB
  go_enter Try.func40, Try.ntmps40
  go_wp2_with fail
  refine (HS1 _ hx).mono ?_
  rintro _ w1 ⟨A1, c1, rfl, r1, hb1⟩
  go_wp2_with fail
  refine (HS2 _ (hy.keep hb1)).mono ?_
  rintro _ w2 ⟨A2, c2, rfl, r2, hb2⟩
  have hB2 := bstep hb1 hb2
  replace r1 := r1.keep hb2
  clear hb1 hb2 HS1 HS2
  have f1 : IntKind.i64.wrap (1 - (NA : Int)) = 1 - (NA : Int) := IntWalk.i64_in _ (by omega)
  go_wp2
  go_loopg [12] (NA + NB - 1) (fun gk i wr => ∃ (j : Nat), j + gk = NA + NB - 1 ∧ i = .int .i64 ((j : Int) + 1 - (NA : Int)) ∧ Blk wr w2.heap.size 2 ((fullL (lgP xs ys m j) n).flatMap (encI .i64)).toArray ∧ Below w2.heap.size w2 wr)
  case atStart => exact ⟨0, by omega, by simp, by rw [← HST.out]; exact Blk.new w2 2 _, balloc (Below.refl _ _) _⟩
  case round =>
    clear hmk HST
    obtain ⟨j, hj, rfl, hO, hb⟩ := hrel
    have hj' : j ≤ NA + NB - 1 := by omega
    have HJ := Lib.hid hj
    clear hj
    obtain ⟨b, hbe⟩ : ∃ b, b = (j : Int) + 1 - (NA : Int) := ⟨_, rfl⟩
    have hbb : -8 ≤ b ∧ b ≤ 20 := by omega
    have HBE := Lib.hid hbe
    rw [← hbe]
    by_cases hlt : j < NA + NB - 1
    · have d1 : decide (b < (NB : Int)) = true := decide_eq_true (by omega)
      have f3 : IntKind.i64.wrap (b * 32) = b * 32 := IntWalk.i64_in _ (by omega)
      have hgl := hO.lt
      clear hbe
      go_wp2_with fail
      refine (HP.out A1 c1 A2 c2 b _ (r1.keep hb) (r2.keep hb) (by omega) (by omega)).mono ?_
      rintro _ w3 ⟨A3, c3, rfl, r3, hb3⟩
      have hB3 := bstep hb hb3
      have hO3 := hO.keep hb3
      go_wp2_with fail
      refine (HV.out b _ _ _ r3).mono ?_
      rintro _ w4 ⟨A4, c4, rfl, r4, hb4⟩
      have hB4 := bstep hB3 hb4
      have hO4 := hO3.keep hb4
      have hsz3 := hb3.size
      clear hb hb3 hb4 hO hO3 r3
      have HBD1 := Lib.hid (fun t => lgP_bd HE.out.1 HE.out.2 m j t (by omega))
      have HBD2 : Hid (∀ k, -10000 ≤ byF xs ys NA NB b k ∧ byF xs ys NA NB b k ≤ 10000) := Lib.hid (fun k => by rw [← HNA.out, ← HNB.out]; exact byF_10 HE.out.1 HE.out.2 b k)
      go_wp2_with fail
      refine (spread_any w2.heap.size m n (lgP xs ys m j) (byF xs ys NA NB b) A4 c4 b (b * 32) w4 HN.out hm (Int.mul_comm _ _) (by omega) (by omega) HBD1.out HBD2.out hO4 (r4.mono (by omega))).mono ?_
      rintro _ w5 ⟨rfl, hO5, hb5⟩
      have hB5 : Below w2.heap.size w2 w5 := hB4.trans hb5
      have hO6 : Blk w5 w2.heap.size 2 ((fullL (lgP xs ys m (j + 1)) n).flatMap (encI .i64)).toArray := by
        rw [← lgP_succ, HNA.out, HNB.out, ← HBE.out]
        exact hO5
      have hnx : b + 1 = ((j + 1 : Nat) : Int) + 1 - (NA : Int) := by have := HBE.out; omega
      have HNX := Lib.hid hnx
      clear hnx hO5 hO4 hB4 hb5 r4
      go_wp2
      go_roundg (gk - 1)
      case rel => exact ⟨j + 1, by have := HJ.out; omega, by rw [HNX.out], hO6, hB5⟩
      case measure => have := HJ.out; omega
    · have d1 : decide (b < (NB : Int)) = false := decide_eq_false (by omega)
      obtain rfl : j = NA + NB - 1 := by omega
      have HEND := Lib.hid (fullL_congr (n := n) (fun t _ => lgP_end xs ys m t))
      rw [HNA.out, HNB.out] at HEND
      rw [HEND.out] at hO
      clear hbe HBE hlt
      go_wp2
      go_ret2
      exact ⟨_, _, rfl, blk_RI hO, bstep hB2 hb⟩
end Crs
end Go.Proofs.Ytcpmpfnickhojaa
