/-
  Layer 12 (bank), contracts: Merge of the program and of the reference.
-/
import Derived.Test.YtnhjeelcgfobnaaBkN
namespace Go.Proofs.Ytnhjeelcgfobnaa
open Go.RowKit Num
set_option maxRecDepth 8000
set_option linter.unusedVariables false
set_option linter.unusedSimpArgs false
namespace Bk
open Lol Crs

set_option maxHeartbeats 1000000 in
theorem refBackN_any (p : Int) (A : Option Addr) (c : Nat) (l : List Int) (w : World) (hx : RI .i64 w A l) (hl : l.length ≤ 9223372036854775807) (hp1 : -9223372036854775808 ≤ p) (hp2 : p ≤ 9223372036854775807) :
    Calls Try.prog 48 #[.int .i64 p, .slice A l.length c] w (RetN w (bkS p l)) := by
  rcases chkL_cases p l with ⟨e0, P, rfl, hF⟩ | e0
  · have c0 : (chkL (P : Int) l != 0) = false := by rw [e0]; rfl
    have HS := Lib.hid (show bkS (P : Int) l = (bkL P l, 0) by unfold bkS; rw [if_pos e0]; rfl)
    have h1 := hF.l1
    have h2 := hF.l64
    have h3 := hF.pr.1
    have h4 := hF.le
    have hnP := len_lt_P hF
    have hpl := invN_lt (P := P) (A := l.length) (by omega)
    have HJ := Lib.hid (invS_val hF.pr h4 (show 0 < l.length by omega) hnP)
    have hE := fun w => refInv_any (P : Int) (l.length : Int) w (by omega) (by omega)
    simp only [HJ.out] at hE
    have HEE := Lib.hid hE
    have HF := Lib.hid hF
    have g1 : (l.length : Int) % (P : Int) = (l.length : Int) := Int.emod_eq_of_lt (by omega) (by omega)
    clear hE hF e0
    have HBK := Lib.hid (show bkF P l = fun k => smF P l (rootN P l.length) true k * ((invN P l.length : Nat) : Int) % (P : Int) by
      funext k; unfold bkF; rw [smF_true HF.out])
    have htl := fullL_len (smF P l (rootN P l.length) true) l.length
    have HTB := Lib.hid (fun k => show 0 ≤ smF P l (rootN P l.length) true k ∧ smF P l (rootN P l.length) true k < P from sumM_bd (by omega) _ _)
    go_enter Try.func48, Try.ntmps48
    go_wp2_with fail
    refine (refChk_any _ _ _ _ _ hx hl (by omega) (by omega)).mono ?_
    rintro _ w1 ⟨rfl, hb1⟩
    go_wp2_with fail
    refine (refSums_back P _ _ l _ (hx.keep hb1) HF.out).mono ?_
    rintro _ w2 ⟨A2, c2, rfl, hc2, ho2, hb2⟩
    simp only [htl] at hc2 ho2 ⊢
    have hB2 := bstep hb1 hb2
    have ho2' := ho2.mono hb1.size
    clear ho2 hb1 hb2
    obtain ⟨g4, rfl, hg4, hg5⟩ := own_some ho2' (by omega)
    go_wp2_with fail
    refine (HEE.out _).mono ?_
    rintro _ w3 ⟨rfl, hb3⟩
    have hB3 := bstep hB2 hb3
    have ho3 := own_keep ho2' hb3
    clear hB2 hb3 ho2'
    rw [← mixL_start (bkF P l) (smF P l (rootN P l.length) true) l.length] at ho3
    generalize invN P l.length = PT at *
    generalize smF P l (rootN P l.length) true = TR at *
    go_wp2
    go_loopg [9] l.length (fun gk i wr => ∃ k : Nat, k + gk = l.length ∧ i = .int .i64 k ∧ wr.ownsRow w.heap.size 2 1 (.slice (some ⟨g4, 0, none⟩) l.length c2) l.length ((mixL (bkF P l) TR l.length k).flatMap (encI .i64)) ∧ Below w.heap.size w wr)
    case atStart => exact ⟨0, by omega, rfl, ho3, hB3⟩
    case round =>
      obtain ⟨k, hk, rfl, hO, hb⟩ := hrel
      have hk' : k ≤ l.length := by omega
      have HK := Lib.hid hk
      clear hk
      by_cases hlt2 : k < l.length
      · have o0 := own_at (encI_len .i64) (l := mixL (bkF P l) TR l.length k) (by rw [mixL_len]; exact hO) (j := k) (i := 0) (by rw [mixL_len]; exact hlt2) (by omega)
        simp only [encI, List.getElem?_cons_zero, Nat.mul_one, Nat.add_zero] at o0
        rw [← getD_lt _ 0 (by rw [mixL_len]; exact hlt2), mixL_at _ _ hlt2] at o0
        have of0 := hO.frozenAt k
        have hgl : g4 < wr.heap.size := (hO.lt g4 rfl).2
        have bx := HTB.out k
        have HY := Lib.hid (show TR k * (PT : Int) % (P : Int) = bkF P l k by rw [HBK.out])
        generalize TR k = X at *
        have fm := fit_mul (s := 0) (x := X) (y := (PT : Int)) h4 bx (by omega)
        obtain ⟨Z, hZ⟩ : ∃ Z, Z = X * (PT : Int) := ⟨_, rfl⟩
        have hw2 : IntKind.i64.wrap (X * (PT : Int)) = Z := by rw [IntWalk.i64_in _ (by omega), hZ]
        rw [← hZ] at HY fm
        clear hZ
        have HM := Lib.hid (mixL_set (bkF P l) TR l.length k (Z % (P : Int)) HY.out)
        have HW := Lib.hid (own_set (mixL_len _ _ _ _) hlt2 hO (Z % (P : Int)))
        go_wp2
        all_goals
          go_roundg (gk - 1)
          case rel => exact ⟨k + 1, by have := HK.out; omega, by go_num, by rw [← HM.out]; exact HW.out, hb.setCell (p := ⟨g4, k, none⟩) hg4 _⟩
          case measure => have := HK.out; omega
      · rw [mixL_end _ _ _ _ (by omega)] at hO
        go_wp2
        go_ret2
        exact RetN.row HS.out (fullL_len _ _) (own_RIo_at (fullL_len _ _) hO) hc2 hb
  · have c0 : (chkL p l != 0) = true := by rw [bne_iff_ne]; exact e0
    have HS := Lib.hid (show bkS p l = ([], chkL p l) by unfold bkS; rw [if_neg e0])
    clear e0
    go_enter Try.func48, Try.ntmps48
    go_wp2_with fail
    refine (refChk_any _ _ _ _ _ hx hl hp1 hp2).mono ?_
    rintro _ w1 ⟨rfl, hb1⟩
    go_wp2_with fail
    refine (refChk_any _ _ _ _ _ (hx.keep hb1) hl hp1 hp2).mono ?_
    rintro _ w2 ⟨rfl, hb2⟩
    go_wp2
    go_ret2
    exact RetN.no HS.out (bstep hb1 hb2)
theorem info_int12 : (Try.prog.info? 3).map (fun i => (i.zero, i.size, i.bytes)) = some (some (.int .i64 0), 1, 8) := by kernel_rfl
theorem mrg_snoc (P : Nat) {b : List (List Int)} {t : Nat} (h : t < b.length) : mrgL P (b.take (t + 1)) = mrgL P (b.take t) ++ mrR P b[t] := by
  unfold mrgL
  rw [List.take_succ_eq_append_getElem h, List.flatMap_append]
  simp
theorem mrg_take_len {P n : Nat} {b : List (List Int)} (h : ∀ t (ht : t < b.length), b[t].length = n) : ∀ t, t ≤ b.length → (mrgL P (b.take t)).length = t * n := by
  intro t
  induction t with
  | zero => intro _; simp [mrgL]
  | succ t ih => intro ht; rw [mrg_snoc P ht, List.length_append, ih (by omega), mrR_len, h t ht, Nat.succ_mul]
theorem bk_fit {P : Nat} {l : List Int} (h : Fit P l) {n : Nat} (hn : l.length = n) (A : Option Addr) (c : Nat) (w : World) (hx : RI .i64 w A l) :
    Calls Try.prog 30 #[.int .i64 (P : Int), .slice A n c] w fun e w' => ∃ A c, e = .returned (.tuple #[.slice A n c, .int .i64 0]) ∧ RI .i64 w' A (bkL P l) ∧ Below w.heap.size w w' := by
  have h1 := back_any (P : Int) A c l w hx (by have := h.l64; omega) (by omega) (by have := h.le; omega)
  have e : bkS (P : Int) l = (bkL P l, 0) := by unfold bkS; rw [if_pos (chkL_ok h)]; rfl
  have e2 : (bkL P l).length = l.length := fullL_len _ _
  rw [e] at h1
  subst hn
  refine h1.mono fun _ _ h2 => ?_
  obtain ⟨A', c', rfl, h3, h4⟩ := h2
  exact ⟨A', c', by simp only [e2], h3, h4⟩
theorem refBk_fit {P : Nat} {l : List Int} (h : Fit P l) {n : Nat} (hn : l.length = n) (A : Option Addr) (c : Nat) (w : World) (hx : RI .i64 w A l) :
    Calls Try.prog 48 #[.int .i64 (P : Int), .slice A n c] w (RetF w n (bkL P l)) := by
  have h1 := refBackN_any (P : Int) A c l w hx (by have := h.l64; omega) (by omega) (by have := h.le; omega)
  have e : bkS (P : Int) l = (bkL P l, 0) := by unfold bkS; rw [if_pos (chkL_ok h)]; rfl
  rw [e] at h1
  subst hn
  exact h1.mono fun _ _ h2 => RetN.f h2 (fullL_len _ _)
theorem sg_fit {P : Nat} {l : List Int} (h : Fit P l) {n : Nat} (hn : l.length = n) (A : Option Addr) (c : Nat) (w : World) (hx : RI .i64 w A (bkL P l)) :
    Calls Try.prog 47 #[.int .i64 (P : Int), .slice A n c] w (RetF w n (mrR P l)) := by
  have e2 : (bkL P l).length = l.length := fullL_len _ _
  have h1 := signedN_any (P : Int) A c (bkL P l) w hx (by rw [e2]; have := h.l64; omega) (by omega) (by have := h.le; omega)
  have e : sgS (P : Int) (bkL P l) = (mrR P l, 0) := by
    unfold sgS
    rw [if_pos (chkL_ok (fit_bk h))]
    show (fullL (sgF P (bkL P l)) (bkL P l).length, (0 : Int)) = _
    rw [e2]
    rfl
  rw [e, e2] at h1
  subst hn
  exact h1.mono fun _ _ h2 => RetN.f h2 (mrR_len P l)
theorem flat_snocI (l : List Int) (x : Int) : (l ++ [x]).flatMap (encI .i64) = l.flatMap (encI .i64) ++ encI .i64 x := by
  simp [List.flatMap_append]
theorem take_one {l : List Int} {k : Nat} (h : k < l.length) : l.take (k + 1) = l.take k ++ [l.getD k 0] := by
  rw [List.take_succ_eq_append_getElem h, getD_lt _ _ h]
theorem any_app {a b : List Int} (h : b.any badS = true) : (a ++ b).any badS = true := by rw [List.any_append, h, Bool.or_true]
theorem mrg_any {P : Nat} {b : List (List Int)} {t : Nat} (h : t < b.length) (h2 : (mrR P b[t]).any badS = true) : (mrgL P b).any badS = true := by
  unfold mrgL
  rw [List.any_flatMap, List.any_eq_true]
  exact ⟨b[t], List.getElem_mem h, h2⟩
/-- a row of numbers, not longer than its capacity, and an error -/
def RetC (w : World) (r : List Int × Int) (e : Ending) (w' : World) : Prop :=
  ∃ A c, e = .returned (.tuple #[.slice A r.1.length c, .int .i64 r.2]) ∧ RI .i64 w' A r.1 ∧ r.1.length ≤ c ∧ Below w.heap.size w w'
theorem RetC.no {w w' : World} {x : Int} {r : List Int × Int} (hr : r = ([], x)) (hb : Below w.heap.size w w') : RetC w r (.returned (.tuple #[.slice none 0 0, .int .i64 x])) w' := by
  subst hr; exact ⟨none, 0, rfl, fun h => absurd h (by simp), Nat.le_refl _, hb⟩
theorem RetC.own {w w' : World} {A : Option Addr} {c n : Nat} {l : List Int} {x : Int} {r : List Int × Int} (hr : r = (l, x)) (hn : l.length = n) (h : RI .i64 w' A l) (hc : n ≤ c) (hb : Below w.heap.size w w') : RetC w r (.returned (.tuple #[.slice A n c, .int .i64 x])) w' := by
  subst hr; subst hn; exact ⟨A, c, rfl, h, hc, hb⟩
theorem RetC.fe {w : World} {r : List Int × Int} {e : Ending} {w' : World} (h : RetC w r e w') : RetFE w r e w' := by
  obtain ⟨A, c, he, h1, _, h2⟩ := h
  exact ⟨A, c, he, h1, h2⟩
theorem mg_all {l : List Int} : ∀ {N : Nat}, l.length ≤ N → l.take N = l := fun h => List.take_of_length_le h
set_option maxHeartbeats 4000000 in
theorem mergeC_any (p : Int) (A : Option Addr) (c : Nat) (b : List (List Int)) (w : World) (hp1 : -9223372036854775808 ≤ p) (hp2 : p ≤ 9223372036854775807) (hx : RLL .i64 w A b) :
    Calls Try.prog 22 #[.int .i64 p, .slice A b.length c] w (RetC w (mergeS p b)) := by
  have hbF : Below w.heap.size w (w.alloc (.cells #[.slice A b.length c] 22)) := balloc (Below.refl _ _) _
  have HC := Lib.hid (fun g w hk hx => banks1_any p A c b g 22 w hp1 hp2 hk hx)
  by_cases h0 : bothE12 p b = 0
  · obtain ⟨P, rfl, h7, hP2, hP, hBk⟩ := both_zero h0
    have hN256 := hBk.len
    have hw16 := hBk.wid16
    have c0 : (bothE12 (P : Int) b != 0) = false := by rw [h0]; rfl
    have HT : Hid (mergeS P b = if 256 < b.length * wid b then ([], 4) else if (mrgL P b).any badS = true then ([], 16) else (mrgL P b, 0)) := Lib.hid (by unfold mergeS; rw [if_neg (by simp [h0])]; rfl)
    have HW := Lib.hid (fun w (h : RLL .i64 w A b) => width_any A c b w h)
    have HFT := Lib.hid (fun t (ht : t < b.length) => hBk.fit hP hP2 ht)
    have HRL := Lib.hid (fun t (ht : t < b.length) => (hBk.row t ht).1)
    have hmu : b.length * wid b ≤ 256 * 16 := Nat.mul_le_mul hN256 hw16
    have hwm : IntKind.i64.wrap ((b.length : Int) * (wid b : Int)) = ((b.length * wid b : Nat) : Int) := by
      rw [← Int.natCast_mul, IntWalk.i64_in _ (by omega)]
    have HML := Lib.hid (fun t (ht : t ≤ b.length) => mrg_take_len (P := P) HRL.out t ht)
    clear h0 hBk hP
    generalize wid b = n at *
    have HMUL := Lib.hid (fun t (ht : t ≤ b.length) => Nat.mul_le_mul_right n ht)
    generalize b.length * n = q at *
    by_cases hq : 256 < q
    · have d1 : decide (256 < q) = true := decide_eq_true hq
      have d1i : decide (256 < (q : Int)) = true := decide_eq_true (by omega)
      have HS : Hid (mergeS P b = ([], 4)) := Lib.hid (by rw [HT.out, if_pos hq])
      clear hq
      go_enter Try.func22, Try.ntmps22
      go_wp2_with fail
      refine (HC.out _ _ (Blk.new _ _ _) (hx.keep hbF)).mono ?_
      rintro _ w1 ⟨rfl, hb1⟩
      have hB1 := bstep hbF hb1
      have hx1 := hx.keep hB1
      go_wp2_with fail
      refine (HW.out _ hx1).mono ?_
      rintro _ _ ⟨rfl, rfl⟩
      go_wp2
      go_ret2
      exact RetC.no HS.out hB1
    · have d1 : decide (256 < q) = false := decide_eq_false hq
      have d1i : decide (256 < (q : Int)) = false := decide_eq_false (by omega)
      have HT2 : Hid (mergeS P b = if (mrgL P b).any badS = true then ([], 16) else (mrgL P b, 0)) := Lib.hid (by rw [HT.out, if_neg hq])
      obtain ⟨i0, hi0, hz0, hz1, hz2⟩ := info_parts info_int12
      have hq2 : q ≤ 256 := by omega
      clear hq
      go_enter Try.func22, Try.ntmps22
      go_wp2_with fail
      refine (HC.out _ _ (Blk.new _ _ _) (hx.keep hbF)).mono ?_
      rintro _ w1 ⟨rfl, hb1⟩
      have hB1 := bstep hbF hb1
      have hx1 := hx.keep hB1
      go_wp2_with fail
      refine (HW.out _ hx1).mono ?_
      rintro _ _ ⟨rfl, rfl⟩
      go_wp2
      (try clear d1 d1i)
      go_loopg [7, 29] b.length (fun gk v i wr => ∃ t : Nat, t + gk = b.length ∧ i = .int .i64 t ∧ wr.ownsRow w1.heap.size 3 1 v (t * n) ((mrgL P (b.take t)).flatMap (encI .i64)) ∧ Below w1.heap.size w1 wr ∧ Hid ((mrgL P (b.take t)).any badS = false))
      case atStart => exact ⟨0, by omega, rfl, by rw [Nat.zero_mul]; exact World.ownsRow_nil _ _ _ _, Below.refl _ _, Lib.hid rfl⟩
      case round =>
        obtain ⟨t, ht, rfl, hO, hb, HG⟩ := hrel
        have ht' : t ≤ b.length := by omega
        have HK := Lib.hid ht
        clear ht
        have hsz := hb.size
        obtain ⟨As, cs, rfl, hcs⟩ := own_shape' hO
        by_cases hlt : t < b.length
        · obtain ⟨b1, off1, A', c', rfl, hlw1, hc1, hr, hcap1⟩ := hx1.at_ (i := t) hlt
          have hc2 := (hb.cell (p := ⟨b1, off1 + t, none⟩) hlw1).trans hc1
          have er := HRL.out t hlt
          have hF := HFT.out t hlt
          have HBK := Lib.hid (fun A c w hx => bk_fit hF er A c w hx)
          have HSG := Lib.hid (fun A c w hx => sg_fit hF er A c w hx)
          have HSN := Lib.hid (mrg_snoc P hlt)
          have HAN := Lib.hid (fun h => mrg_any (P := P) hlt h)
          have HSM := Lib.hid (Nat.succ_mul t n)
          have hmb := HMUL.out (t + 1) hlt
          rw [HSM.out] at hmb
          have hml := mrR_len P b[t]
          rw [er] at hml hc1 hc2 hcap1
          clear hF
          generalize hl : b[t] = l at *
          clear hl
          generalize mrR P l = R at *
          have hrr := hr.keep hb
          go_wp2_with fail
          refine (HBK.out A' c' wr hrr).mono ?_
          rintro _ w2 ⟨A2, c2, rfl, r2, hb2⟩
          go_wp2_with fail
          refine (HSG.out A2 c2 w2 r2).mono ?_
          rintro _ w3 ⟨A3, c3, rfl, r3, hcp3, hb3⟩
          have hO2 := own_keep hO hb2
          have hne3 := r3.apart hO2 (Nat.le_refl _)
          have hE3 : Els .i64 w2.heap.size w3 (Value.slice As (t * n) cs).ownBlock [.slice A3 n c3] [R] := by
            have h := (Els.nil (k := .i64) (base := w2.heap.size) (w := w3) (own := (Value.slice As (t * n) cs).ownBlock)).snoc r3 (by rw [hml]; exact hcp3) hne3
            rw [hml] at h
            exact h
          have hb23 := bstep hb2 hb3
          have hB3 := bstep hb hb23
          have hO3 := own_keep hO hb23
          obtain ⟨gu, hgu⟩ : ∃ gu, gu = gk := ⟨gk, rfl⟩
          have HGU := Lib.hid hgu
          clear hgu hO hO2 hc2 hrr r2 r3 hne3 hb2 hb3 hb23 hb
          generalize hlo : t * n = lo at *
          have HLO := Lib.hid hlo
          clear hlo
          have hnq : lo + n ≤ 256 := by omega
          have HRN := Lib.hid hml
          clear hml
          go_wp2
          go_loopg [7, 53] n (fun gk v i wr => ∃ k : Nat, k + gk = n ∧ i = .int .i64 k ∧ wr.ownsRow w1.heap.size 3 1 v (lo + k) ((mrgL P (b.take t) ++ R.take k).flatMap (encI .i64)) ∧ Els .i64 w2.heap.size wr v.ownBlock [.slice A3 n c3] [R] ∧ Below w1.heap.size w1 wr ∧ Hid ((mrgL P (b.take t) ++ R.take k).any badS = false))
          case atStart => exact ⟨0, by omega, rfl, by rw [List.take_zero, List.append_nil]; exact hO3, hE3, hB3, Lib.hid (by rw [List.take_zero, List.append_nil]; exact HG.out)⟩
          case round =>
            clear hO3 hE3 hB3
            obtain ⟨k, hk, rfl, hO, hE, hb, HG2⟩ := hrel
            have hk' : k ≤ n := by omega
            have HKK := Lib.hid hk
            clear hk
            have hsz := hb.size
            obtain ⟨A8, c8, rfl, hc8⟩ := own_shape' hO
            by_cases hlk : k < n
            · have hkR : k < R.length := by rw [HRN.out]; exact hlk
              obtain ⟨A9, c9, e9, r9, _, _⟩ := hE.2 0 (by simp) (by simp)
              simp only [List.getElem_cons_zero] at e9 r9
              obtain ⟨b5, off5, e5, hlw5, hc5⟩ := r9.ri.at2 hkR
              have e10 : A3 = some ⟨b5, off5, none⟩ := by injection e9 with e9; rw [e9]; exact e5
              subst e10
              clear e9 r9 e5
              have HTK := Lib.hid (take_one hkR)
              have HB := Lib.hid (fun h : R.getD k 0 < -3 ∨ 3 < R.getD k 0 => show mergeS P b = ([], 16) by rw [HT2.out, if_pos (HAN.out (any_badS_at hkR (badS_yes h)))])
              have HG3 := Lib.hid (fun h : -3 ≤ R.getD k 0 ∧ R.getD k 0 ≤ 3 => show (mrgL P (b.take t) ++ R.take (k + 1)).any badS = false by
                rw [HTK.out, ← List.append_assoc, List.any_append, HG2.out, List.any_cons, badS_no h]
                rfl)
              generalize R.getD k 0 = x at *
              rcases (show x < -3 ∨ (-3 ≤ x ∧ 3 < x) ∨ (-3 ≤ x ∧ x ≤ 3) by omega) with h | ⟨h, h'⟩ | ⟨h, h'⟩
              · have d1 : decide (x < -3) = true := decide_eq_true h
                have HS := Lib.hid (HB.out (.inl h))
                go_wp2
                go_ret2
                exact RetC.no HS.out (bstep hB1 hb)
              · have d1 : decide (x < -3) = false := decide_eq_false (by omega)
                have d2 : decide (3 < x) = true := decide_eq_true h'
                have HS := Lib.hid (HB.out (.inr h'))
                go_wp2
                go_ret2
                exact RetC.no HS.out (bstep hB1 hb)
              · have d1 : decide (x < -3) = false := decide_eq_false (by omega)
                have d2 : decide (3 < x) = false := decide_eq_false (by omega)
                have HE := Lib.hid (HG3.out ⟨h, h'⟩)
                go_wp2_with (at_builtin; refine wpList_append_lies _ rfl (.tmp 63) (.tmp 65) 39 rfl w1.heap.size 3 i0 _ 1 8 Try.underlying39 hi0 hz0 hz1 hz2 rfl (by decide) _ (lo + k) _ rfl (hO.alloc _) ⟨wr.heap.size, 0, none⟩ 1 1 (encI .i64 x) rfl rfl (encI_news _ _ _ _) (encI_one _ _) (by omega) (by unfold maxLen; omega) (by omega) (by simp; omega) (wr.heap.size + 1) (by simp) ?_; intro g4 c4 w4 hown4 hgrow4 hat4 hlt4)
                have hB4 := own_below (balloc hb (.cells #[.int .i64 x] 3)) (hO.alloc _) hgrow4 (Nat.le_refl _) (by simp; omega)
                have hE4 := (hE.keep (balloc (Below.refl _ _) (.cells #[.int .i64 x] 3))).grown (own' := some g4) hgrow4 (hat4.elim (fun e => .inl e.symm) (fun e => .inr ⟨g4, rfl, by rw [e]; simp⟩))
                go_roundg (gk - 1)
                case rel => exact ⟨k + 1, by have := HKK.out; omega, by go_num, by rw [HTK.out, ← List.append_assoc, flat_snocI]; exact hown4, hE4, hB4, HE⟩
                case measure => have := HKK.out; omega
            · have ek : k = n := by omega
              subst ek
              have HTA := Lib.hid (mg_all (Nat.le_of_eq HRN.out))
              go_wp2
              go_roundg (gu - 1)
              case rel => exact ⟨t + 1, by have := HK.out; have := HGU.out; omega, by go_num, by rw [HSM.out, HSN.out, ← HTA.out]; exact hO, hb, Lib.hid (by rw [HSN.out, ← HTA.out]; exact HG2.out)⟩
              case measure => have := HK.out; have := HGU.out; omega
        · obtain rfl : t = b.length := by omega
          have HS : Hid (mergeS P b = (mrgL P b, 0)) := Lib.hid (by rw [HT2.out, if_neg]; rw [← List.take_length (l := b), HG.out]; simp)
          have hlen := HML.out b.length (Nat.le_refl _)
          rw [List.take_length] at hO hlen
          have hR := own_RI_at hlen hO
          go_wp2
          go_ret2
          exact RetC.own HS.out hlen hR hcs (bstep hB1 hb)
  · have c0 : (bothE12 p b != 0) = true := by rw [bne_iff_ne]; exact h0
    have HS : Hid (mergeS p b = ([], bothE12 p b)) := Lib.hid (by unfold mergeS; rw [if_pos h0])
    clear h0
    go_enter Try.func22, Try.ntmps22
    go_wp2_with fail
    refine (HC.out _ _ (Blk.new _ _ _) (hx.keep hbF)).mono ?_
    rintro _ w1 ⟨rfl, hb1⟩
    have hB1 := bstep hbF hb1
    have hx1 := hx.keep hB1
    go_wp2
    go_ret2
    exact RetC.no HS.out hB1
theorem merge_any (p : Int) (A : Option Addr) (c : Nat) (b : List (List Int)) (w : World) (hp1 : -9223372036854775808 ≤ p) (hp2 : p ≤ 9223372036854775807) (hx : RLL .i64 w A b) :
    Calls Try.prog 22 #[.int .i64 p, .slice A b.length c] w (RetFE w (mergeS p b)) := (mergeC_any p A c b w hp1 hp2 hx).mono fun _ _ h => h.fe
set_option maxHeartbeats 4000000 in
theorem refMerge_any (p : Int) (A : Option Addr) (c : Nat) (b : List (List Int)) (w : World) (hp1 : -9223372036854775808 ≤ p) (hp2 : p ≤ 9223372036854775807) (hx : RLL .i64 w A b) :
    Calls Try.prog 23 #[.int .i64 p, .slice A b.length c] w (RetFE w (mergeS p b)) := by
  have HC := Lib.hid (fun w hx => refBoth_any p A c b w hp1 hp2 hx)
  by_cases h0 : bothE12 p b = 0
  · obtain ⟨P, rfl, h7, hP2, hP, hBk⟩ := both_zero h0
    have hN256 := hBk.len
    have hw16 := hBk.wid16
    have c0 : (bothE12 (P : Int) b != 0) = false := by rw [h0]; rfl
    have HT : Hid (mergeS P b = if 256 < b.length * wid b then ([], 4) else if (mrgL P b).any badS = true then ([], 16) else (mrgL P b, 0)) := Lib.hid (by unfold mergeS; rw [if_neg (by simp [h0])]; rfl)
    by_cases hN : b.length = 0
    · have d1 : decide (0 < (b.length : Int)) = false := decide_eq_false (by omega)
      have d1' : decide (0 < b.length) = false := decide_eq_false (by omega)
      have HS : Hid (mergeS P b = ([], 0)) := Lib.hid (by rw [HT.out, List.eq_nil_of_length_eq_zero hN]; rfl)
      have HSA : Hid (∀ w, Calls Try.prog 31 #[.slice none 0 0] w fun e w' => e = .returned (.bool true) ∧ w = w') := Lib.hid (fun w => samples_any none 0 [] w (by simp) RI.nil)
      clear h0 hBk hP hN HT
      go_enter Try.func23, Try.ntmps23
      go_wp2_with fail
      refine (HC.out _ hx).mono ?_
      rintro _ w1 ⟨rfl, hb1⟩
      have hx1 := hx.keep hb1
      go_wp2
      refine wp_loop_rounds 1 ?_
      rw [rounds_succ]
      have d2 : decide ((0 : Int) < (b.length : Int)) = false := d1
      go_wp2_with fail
      refine (HSA.out _).mono ?_
      rintro _ w5 ⟨rfl, rfl⟩
      go_wp2
      go_ret2
      exact RetFE.no HS.out hb1
    · have d1 : decide (0 < (b.length : Int)) = true := decide_eq_true (by omega)
      have d1' : decide (0 < b.length) = true := decide_eq_true (by omega)
      have hNp : 0 < b.length := by omega
      have ew := wid_at hNp
      have HFT := Lib.hid (fun t (ht : t < b.length) => hBk.fit hP hP2 ht)
      have HRL := Lib.hid (fun t (ht : t < b.length) => (hBk.row t ht).1)
      have hmu : b.length * wid b ≤ 256 * 16 := Nat.mul_le_mul hN256 hw16
      have hwm : IntKind.i64.wrap ((b.length : Int) * (wid b : Int)) = ((b.length * wid b : Nat) : Int) := by
        rw [← Int.natCast_mul, IntWalk.i64_in _ (by omega)]
      have HML := Lib.hid (fun t (ht : t ≤ b.length) => mrg_take_len (P := P) HRL.out t ht)
      clear h0 hBk hP hN
      by_cases hq : 256 < b.length * wid b
      · have HS : Hid (mergeS P b = ([], 4)) := Lib.hid (by rw [HT.out, if_pos hq])
        go_enter Try.func23, Try.ntmps23
        go_wp2_with fail
        refine (HC.out _ hx).mono ?_
        rintro _ w1 ⟨rfl, hb1⟩
        have hx1 := hx.keep hb1
        obtain ⟨b0, off0, A0, c0', rfl, hlw0, hc0, _, _⟩ := hx1.at_ hNp
        rw [Nat.add_zero, ← ew] at hc0
        clear ew
        generalize wid b = n at *
        generalize b.length * n = q at *
        have dq : decide (256 < q) = true := decide_eq_true hq
        have dq' : decide (256 < (q : Int)) = true := decide_eq_true (by omega)
        go_wp2
        go_ret2
        exact RetFE.no HS.out hb1
      · have HT2 : Hid (mergeS P b = if (mrgL P b).any badS = true then ([], 16) else (mrgL P b, 0)) := Lib.hid (by rw [HT.out, if_neg hq])
        obtain ⟨i0, hi0, hz0, hz1, hz2⟩ := info_parts info_int12
        go_enter Try.func23, Try.ntmps23
        go_wp2_with fail
        refine (HC.out _ hx).mono ?_
        rintro _ w1 ⟨rfl, hb1⟩
        have hx1 := hx.keep hb1
        obtain ⟨b0, off0, A0, c0', rfl, hlw0, hc0, _, _⟩ := hx1.at_ hNp
        rw [Nat.add_zero, ← ew] at hc0
        clear ew
        generalize wid b = n at *
        have HMUL := Lib.hid (fun t (ht : t ≤ b.length) => Nat.mul_le_mul_right n ht)
        have HQ2 : Hid (b.length * n ≤ 256) := Lib.hid (Nat.le_of_not_lt hq)
        generalize b.length * n = q at *
        have dq : decide (256 < q) = false := decide_eq_false hq
        have dq' : decide (256 < (q : Int)) = false := decide_eq_false (by omega)
        have hq2 : q ≤ 256 := by omega
        go_wp2
        (try clear dq dq')
        clear hwm hq hc0
        go_loopg [6, 7] b.length (fun gk v i wr => ∃ t : Nat, t + gk = b.length ∧ i = .int .i64 t ∧ wr.ownsRow w1.heap.size 3 1 v (t * n) ((mrgL P (b.take t)).flatMap (encI .i64)) ∧ Below w1.heap.size w1 wr)
        case atStart => exact ⟨0, by omega, rfl, by rw [Nat.zero_mul]; exact World.ownsRow_nil _ _ _ _, Below.refl _ _⟩
        case round =>
          obtain ⟨t, ht, rfl, hO, hb⟩ := hrel
          have ht' : t ≤ b.length := by omega
          have HK := Lib.hid ht
          clear ht
          have hsz := hb.size
          obtain ⟨As, cs, rfl, hcs⟩ := own_shape' hO
          by_cases hlt : t < b.length
          · obtain ⟨b1, off1, A', c', e1, hlw1, hc1, hr, hcap1⟩ := hx1.at_ (i := t) hlt
            obtain ⟨rfl, rfl⟩ : b0 = b1 ∧ off0 = off1 := by injection e1 with e1; injection e1 with e3 e4; exact ⟨e3, e4⟩
            clear e1
            have hc2 := (hb.cell (p := ⟨b0, off0 + t, none⟩) hlw1).trans hc1
            have er := HRL.out t hlt
            have hF := HFT.out t hlt
            have HBK := Lib.hid (fun A c w hx => refBk_fit hF er A c w hx)
            have HSN := Lib.hid (mrg_snoc P hlt)
            have HSM := Lib.hid (Nat.succ_mul t n)
            have hmb := HMUL.out (t + 1) hlt
            rw [HSM.out] at hmb
            have hml : (bkL P b[t]).length = n := by rw [← er]; exact fullL_len _ _
            have HRF := Lib.hid (show ∀ k, k < n → (mrR P b[t]).getD k 0 = (if (P : Int) < 2 * (bkL P b[t]).getD k 0 then (bkL P b[t]).getD k 0 - P else (bkL P b[t]).getD k 0) from fun k hk => by
              unfold mrR
              rw [fullL_getD _ _ _ _ (by rw [er]; exact hk)]
              rfl)
            have HBD := Lib.hid (show ∀ k, 0 ≤ (bkL P b[t]).getD k 0 ∧ (bkL P b[t]).getD k 0 < P from fun k => by
              rcases Nat.lt_or_ge k (bkL P b[t]).length with h1 | h1
              · exact (fit_bk hF).el k h1
              · rw [List.getD_eq_getElem?_getD, List.getElem?_eq_none h1]
                simp only [Option.getD_none]
                omega)
            have hmr : (mrR P b[t]).length = n := by rw [mrR_len, er]
            rw [er] at hc1 hc2 hcap1
            clear hF
            have hrr := hr.keep hb
            generalize hl : b[t] = l at *
            clear hl
            generalize mrR P l = R at *
            generalize bkL P l = U at *
            go_wp2_with fail
            refine (HBK.out A' c' wr hrr).mono ?_
            rintro _ w2 ⟨A2, c2, rfl, r2, hcp2, hb2⟩
            have hne2 := r2.apart hO (Nat.le_refl _)
            have hE2 : Els .i64 wr.heap.size w2 (Value.slice As (t * n) cs).ownBlock [.slice A2 n c2] [U] := by
              have h := (Els.nil (k := .i64) (base := wr.heap.size) (w := w2) (own := (Value.slice As (t * n) cs).ownBlock)).snoc r2 (by rw [hml]; exact hcp2) hne2
              rw [hml] at h
              exact h
            have hO2 := own_keep hO hb2
            have hB2 := bstep hb hb2
            obtain ⟨gu, hgu⟩ : ∃ gu, gu = gk := ⟨gk, rfl⟩
            have HGU := Lib.hid hgu
            generalize hwz : wr.heap.size = wz at *
            clear hwz hgu hO hc2 hrr hb2 hb r2 hne2
            generalize hlo : t * n = lo at *
            have HLO := Lib.hid hlo
            clear hlo
            have hnq : lo + n ≤ 256 := by omega
            have HRN := Lib.hid hmr
            have HUN := Lib.hid hml
            clear hml hmr
            go_wp2
            go_loopg [6, 10] n (fun gk v i wr => ∃ k : Nat, k + gk = n ∧ i = .int .i64 k ∧ wr.ownsRow w1.heap.size 3 1 v (lo + k) ((mrgL P (b.take t) ++ R.take k).flatMap (encI .i64)) ∧ Els .i64 wz wr v.ownBlock [.slice A2 n c2] [U] ∧ Below w1.heap.size w1 wr)
            case atStart => exact ⟨0, by omega, rfl, by rw [List.take_zero, List.append_nil]; exact hO2, hE2, hB2⟩
            case round =>
              clear hO2 hE2 hB2
              obtain ⟨k, hk, rfl, hO, hE, hb⟩ := hrel
              have hk' : k ≤ n := by omega
              have HKK := Lib.hid hk
              clear hk
              have hsz := hb.size
              obtain ⟨A8, c8, rfl, hc8⟩ := own_shape' hO
              by_cases hlk : k < n
              · have hkR : k < R.length := by rw [HRN.out]; exact hlk
                have hkU : k < U.length := by rw [HUN.out]; exact hlk
                obtain ⟨A9, c9, e9, r9, _, _⟩ := hE.2 0 (by simp) (by simp)
                simp only [List.getElem_cons_zero] at e9 r9
                obtain ⟨b5, off5, e5, hlw5, hc5⟩ := r9.ri.at2 hkU
                have e10 : A2 = some ⟨b5, off5, none⟩ := by injection e9 with e9; rw [e9]; exact e5
                subst e10
                clear e9 r9 e5
                have HTK := Lib.hid (take_one hkR)
                have hbd := HBD.out k
                have HCN := Lib.hid (fun w => center_any P (U.getD k 0) w hP2 hbd)
                have HRK := Lib.hid (HRF.out k hlk)
                generalize U.getD k 0 = x at *
                generalize R.getD k 0 = y at *
                have HCE : Hid (∀ w, Calls Try.prog 49 #[.int .i64 (P : Int), .int .i64 x] w fun e w' => e = .returned (.int .i64 y) ∧ w = w') := Lib.hid (fun w => by rw [HRK.out]; exact HCN.out w)
                clear HCN
                go_wp2_with (first | (go_at_call 49; with_reducible refine (HCE.out _).mono ?_; rintro e w5 ⟨rfl, rfl⟩) | (at_builtin; refine wpList_append_lies _ rfl (.tmp 52) (.tmp 59) 39 rfl w1.heap.size 3 i0 _ 1 8 Try.underlying39 hi0 hz0 hz1 hz2 rfl (by decide) _ (lo + k) _ rfl (hO.alloc _) ⟨wr.heap.size, 0, none⟩ 1 1 (encI .i64 y) rfl rfl (encI_news _ _ _ _) (encI_one _ _) (by omega) (by unfold maxLen; omega) (by omega) (by simp; omega) (wr.heap.size + 1) (by simp) ?_; intro g4 c4 w4 hown4 hgrow4 hat4 hlt4) | fail)
                have hB4 := own_below (balloc hb (.cells #[.int .i64 y] 3)) (hO.alloc _) hgrow4 (Nat.le_refl _) (by simp; omega)
                have hE4 := (hE.keep (balloc (Below.refl _ _) (.cells #[.int .i64 y] 3))).grown (own' := some g4) hgrow4 (hat4.elim (fun e => .inl e.symm) (fun e => .inr ⟨g4, rfl, by rw [e]; simp⟩))
                go_roundg (gk - 1)
                case rel => exact ⟨k + 1, by have := HKK.out; omega, by go_num, by rw [HTK.out, ← List.append_assoc, flat_snocI]; exact hown4, hE4, hB4⟩
                case measure => have := HKK.out; omega
              · have ek : k = n := by omega
                subst ek
                have HTA := Lib.hid (mg_all (Nat.le_of_eq HRN.out))
                go_wp2
                go_roundg (gu - 1)
                case rel => exact ⟨t + 1, by have := HK.out; have := HGU.out; omega, by go_num, by rw [HSM.out, HSN.out, ← HTA.out]; exact hO, hb⟩
                case measure => have := HK.out; have := HGU.out; omega
          · obtain rfl : t = b.length := by omega
            have hlen := HML.out b.length (Nat.le_refl _)
            rw [List.take_length] at hO hlen
            have hR := own_RI_at hlen hO
            have hle : b.length * n ≤ 256 := Nat.le_trans (HMUL.out b.length (Nat.le_refl _)) hq2
            have HSA : Hid (∀ w, RI .i64 w As (mrgL P b) → Calls Try.prog 31 #[.slice As (b.length * n) cs] w fun e w' => e = .returned (.bool (!(mrgL P b).any badS)) ∧ w = w') := Lib.hid (fun w hx => by
              have := samples_any As cs (mrgL P b) w (by omega) hx
              rw [hlen] at this
              exact this)
            cases hb9 : (mrgL P b).any badS
            · rw [hb9] at HSA
              have HS : Hid (mergeS P b = (mrgL P b, 0)) := Lib.hid (by rw [HT2.out, hb9]; rfl)
              go_wp2_with fail
              refine (HSA.out _ hR).mono ?_
              rintro _ w5 ⟨rfl, rfl⟩
              go_wp2
              go_ret2
              exact RetFE.own HS.out hlen hR (bstep hb1 hb)
            · rw [hb9] at HSA
              have HS : Hid (mergeS P b = ([], 16)) := Lib.hid (by rw [HT2.out, hb9]; rfl)
              go_wp2_with fail
              refine (HSA.out _ hR).mono ?_
              rintro _ w5 ⟨rfl, rfl⟩
              go_wp2
              go_ret2
              exact RetFE.no HS.out (bstep hb1 hb)
  · have c0 : (bothE12 p b != 0) = true := by rw [bne_iff_ne]; exact h0
    have HS : Hid (mergeS p b = ([], bothE12 p b)) := Lib.hid (by unfold mergeS; rw [if_pos h0])
    clear h0
    go_enter Try.func23, Try.ntmps23
    go_wp2_with fail
    refine (HC.out _ hx).mono ?_
    rintro _ w1 ⟨rfl, hb1⟩
    have hx1 := hx.keep hb1
    go_wp2_with fail
    refine (HC.out _ hx1).mono ?_
    rintro _ w2 ⟨rfl, hb2⟩
    go_wp2
    go_ret2
    exact RetFE.no HS.out (bstep hb1 hb2)
end Bk
end Go.Proofs.Ytnhjeelcgfobnaa
