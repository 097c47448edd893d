/-
  Jobs of layer 19. Contract: fringeref19.Summed.
  Arguments opened: a slice of events; a state and an event by value.
-/
import Derived.Test.YtdekbncpodjgnaaWkV
import Derived.Test.YtdekbncpodjgnaaWkG
import Derived.Test.YtdekbncpodjgnaaAccZ3
import Derived.Test.YtdekbncpodjgnaaOpenJ
import Derived.Test.YtdekbncpodjgnaaPWkY
import Derived.Deep.Strs
namespace Go.Proofs.Ytdekbncpodjgnaa
open Go.RowKit Runs Lagc Reg
set_option linter.unusedVariables false
set_option linter.unusedSimpArgs false
namespace Wk
open Lagw

def cB (S b : Nat) : Nat → Nat
  | 0 => 0
  | k + 1 => cB S b k + (if k / S = b then 1 else 0)
theorem cB_succ (S b k : Nat) : cB S b (k + 1) = cB S b k + (if k / S = b then 1 else 0) := by rw [cB]
theorem cB_le (S b : Nat) : ∀ k, cB S b k ≤ k := by
  intro k
  induction k with
  | zero => exact Nat.le_refl _
  | succ k ih => rw [cB_succ]; split <;> omega
theorem cB_eq {S b : Nat} (hS : 1 ≤ S) (k : Nat) : cB S b k = min (k - b * S) S := by
  induction k with
  | zero => simp [cB]
  | succ k ih =>
    rw [cB, ih]
    have := div_in (b := b) (j := k) hS
    split
    · rename_i h; rw [this] at h; omega
    · rename_i h; rw [this] at h; omega
theorem cB_many {n S b : Nat} (hS : 1 ≤ S) : cB S b n = manyB n S b := by
  rw [cB_eq hS]
  unfold manyB
  rw [Nat.succ_mul]
  omega
theorem partS_job {xs ys : List Int} {M S k : Nat} (hj : Job xs ys M S) (hk : k < cdiv xs.length S) : partS xs ys M S k = (lagB xs ys M S k, 0) :=
  partS_ok (jobErr_ok hj.x hj.y (by rw [Int.toNat_natCast]; have := hj.m; have := hj.s; have := hj.s2; have := hj.c; omega)) hk
theorem fine_rg' {a : Acc} (h : Fine a) : ∀ x ∈ a.g, -9223372036854775808 ≤ x.1 ∧ x.1 ≤ 9223372036854775807 := fun x hx => by
  have := h.rn.1 x hx
  unfold okG at this
  omega
set_option maxRecDepth 20000 in
set_option maxHeartbeats 4000000 in
theorem summed_any {xs ys : List Int} {M S : Nat} (hj : Job xs ys M S) (X Y D : Option Addr) (cx cy c4 : Nat) (d : List Bool) (w : World) (hx : RI .i64 w X xs) (hy : RI .i64 w Y ys) (hd : RBo w D d) (hC : d.length = cdiv xs.length S) :
    Calls Try.prog 31 #[.agg #[.slice X xs.length cx, .slice Y ys.length cy, .int .i64 (M : Int), .int .i64 (S : Int)], .slice D d.length c4] w fun e w' => ∃ S1 N1 G1 c1 c2 c3, e = .returned (.agg #[.slice S1 (sumA xs ys M S d).s.length c1, .slice N1 (sumA xs ys M S d).n.length c2, .slice G1 (sumA xs ys M S d).g.length c3]) ∧ RA w' S1 N1 G1 (sumA xs ys M S d) ∧ FA w.heap.size S1 N1 G1 ∧ Below w.heap.size w w' := by
  obtain ⟨wE, hwE⟩ : ∃ wE, wE = (w.alloc (.cells #[.slice X xs.length cx, .slice Y ys.length cy, .int .i64 (M : Int), .int .i64 (S : Int)] 24)).alloc (.cells #[.slice .none 0 0, .slice .none 0 0, .slice .none 0 0] 39) := ⟨_, rfl⟩
  have hk1 : Blk wE w.heap.size 24 #[.slice X xs.length cx, .slice Y ys.length cy, .int .i64 (M : Int), .int .i64 (S : Int)] := by rw [hwE]; exact (Blk.new _ _ _).alloc _
  have hk2 : Blk wE (w.heap.size + 1) 39 #[.slice .none 0 0, .slice .none 0 0, .slice .none 0 0] := by rw [hwE]; exact Blk.newAt _ _ (by simp)
  have hbE : Below w.heap.size w wE := by rw [hwE]; exact balloc (balloc (Below.refl _ _) _) _
  have hsE : wE.heap.size = w.heap.size + 2 := by rw [hwE]; simp
  have hlx := hj.lx
  have hly := (streamErr_zero hj.y).1
  have hc64 := hj.c
  have hM := hj.m
  have hS1 := hj.s
  have hS2 := hj.s2
  have hd64 : d.length ≤ 64 := by omega
  have HN := Lib.hid (fun w => refNew_any (M : Int) w (by omega))
  rw [show newS (M : Int) = (sumA xs ys M S (maskD d 0), 0) by rw [maskD_zero, hC, ← sumA_new hj, newS_yes hM]] at HN
  have HNO := Lib.hid (fun k (h : d.getD k false = false) => (congrArg (sumA xs ys M S) (maskD_no h)))
  have HP : Hid (∀ k, k < d.length → ∀ w, RI .i64 w X xs → RI .i64 w Y ys → Calls Try.prog 13 #[.agg #[.slice X xs.length cx, .slice Y ys.length cy, .int .i64 (M : Int), .int .i64 (S : Int)], .int .i64 (k : Int)] w fun e w' => ∃ A' c', e = .returned (.tuple #[.slice A' (lagB xs ys M S k).length c', .int .i64 0]) ∧ RL w' A' (lagB xs ys M S k) ∧ Below w.heap.size w w') := Lib.hid (fun k hk w hx hy => by
    have h := refPart_any X Y cx cy xs ys M S k w hx hy (by omega) (by omega)
    rw [partS_job hj (by omega)] at h
    refine h.mono ?_
    rintro e w' ⟨A', c', rfl, ho, hb⟩
    exact ⟨A', c', rfl, own_RL ho, hb⟩)
  have HA := Lib.hid (fun k (hk : k < d.length) (h : d.getD k false = true) (S1 N1 G1 L : Option Addr) (c1 c2 c3 c4 : Nat) (w : World) (ha : RA w S1 N1 G1 (sumA xs ys M S (maskD d k))) (hL : RL w L (lagB xs ys M S k)) => by
    have hI := (sumA_is hj (d := maskD d k) (by rw [maskD_len]; exact hC)).fine
    have hm := manyB_bd hS1 hS2 ((cdiv_lt hj.s).1 (show k < cdiv xs.length S by omega))
    have hll := lagB_len xs ys M S k
    have := refAdd_any S1 N1 G1 L c1 c2 c3 c4 (sumA xs ys M S (maskD d k)) (lagB xs ys M S k) ((k * S : Nat) : Int) ((manyB xs.length S k : Nat) : Int) w ha hL (by have := hI.ls; omega) (by have := hI.ls; have := hI.ln; omega) (by have := hI.lg; omega) (by omega) (fine_rg' hI) (by omega) (by omega)
    rw [sumA_mask hj hC hk h] at this
    exact this)
  have HMY := Lib.hid (fun b => cB_many (n := xs.length) (S := S) (b := b) hS1)
  have HE : Hid (sumA xs ys M S (maskD d d.length) = sumA xs ys M S d) := Lib.hid (by rw [maskD_full d (Nat.le_refl _)])
  have hxE := hx.keep hbE
  have hyE := hy.keep hbE
  have hdE := hd.keep hbE
  generalize hSm : (fun k => sumA xs ys M S (maskD d k)) = Sm at *
  have hSk : ∀ k, sumA xs ys M S (maskD d k) = Sm k := fun k => by rw [← hSm]
  simp only [hSk] at HN HNO HA HE
  generalize sumA xs ys M S d = SD at *
  generalize lagB xs ys M S = LB at *
  generalize manyB xs.length S = MB at *
  clear hSk hSm hx hy hd hC hj
  have z1 : ((S : Int) == 0) = false := by rw [beq_eq_false_iff_ne]; omega
  have z2 : ¬ ((S : Int) = 0) := by omega
  go_enter Try.func31, Try.ntmps31
  go_wp2_with fail
  rw [← hwE]
  clear hwE
  have q0 : World.cell? wE ⟨w.heap.size, 0, none⟩ = some (.slice X xs.length cx) := hk1.cell 0
  have f0 := hk1.frozen 0
  have q1 : World.cell? wE ⟨w.heap.size, 1, none⟩ = some (.slice Y ys.length cy) := hk1.cell 1
  have f1 := hk1.frozen 1
  have q2 : World.cell? wE ⟨w.heap.size, 2, none⟩ = some (.int .i64 (M : Int)) := hk1.cell 2
  have f2 := hk1.frozen 2
  have q3 : World.cell? wE ⟨w.heap.size, 3, none⟩ = some (.int .i64 (S : Int)) := hk1.cell 3
  have f3 := hk1.frozen 3
  have fl := hk1.lt
  go_wp2_with fail
  refine (HN.out _).mono ?_
  rintro _ w1 ⟨S1, N1, G1, y1, y2, y3, rfl, ra1, fa1, hb1⟩
  clear q0 q1 q2 q3 f0 f1 f2 f3 fl
  have hB1 := bstep hbE hb1
  replace hk1 := hk1.keep hb1
  replace hk2 := hk2.keep hb1
  replace hxE := hxE.keep hb1
  replace hyE := hyE.keep hb1
  replace hdE := hdE.keep hb1
  have hl2 := hk2.lt
  have hsz1 := hb1.size
  go_wp2
  go_loopg [7] d.length (fun gk i wr => ∃ (k : Nat) (S6 N6 G6 : Option Addr) (x1 x2 x3 : Nat), k + gk = d.length ∧ i = .int .i64 k ∧ Blk wr w1.heap.size 39 #[.slice S6 (Sm k).s.length x1, .slice N6 (Sm k).n.length x2, .slice G6 (Sm k).g.length x3] ∧ RA wr S6 N6 G6 (Sm k) ∧ FA wE.heap.size S6 N6 G6 ∧ Below w1.heap.size w1 wr)
  case atStart => exact ⟨0, S1, N1, G1, y1, y2, y3, by omega, rfl, Blk.new _ _ _, ra1.keep (balloc (Below.refl _ _) _), fa1, balloc (Below.refl _ _) _⟩
  case round =>
    obtain ⟨k, S6, N6, G6, x1, x2, x3, hk, rfl, hkV, ra, fa, hb⟩ := hrel
    have hk' : k ≤ d.length := by omega
    have HK := Lib.hid hk
    clear hk
    have hkJ := hk1.keep hb
    have hkR := hk2.keep hb
    have hxr := hxE.keep hb
    have hyr := hyE.keep hb
    have hdr := hdE.keep hb
    have hBr := bstep hB1 hb
    by_cases hlt : k < d.length
    · obtain ⟨bd, od, hDe, hdl, hdc⟩ := hdr (by omega)
      have hdk := hdc k hlt
      have HAk := Lib.hid (HA.out k hlt)
      have HNk := Lib.hid (HNO.out k)
      have HPk := Lib.hid (HP.out k hlt)
      clear hdc hdr hdE HA HNO HP
      subst hDe
      generalize d.getD k false = x at *
      cases x
      · go_wp2
        go_roundg (gk - 1)
        case rel => exact ⟨k + 1, S6, N6, G6, x1, x2, x3, by have := HK.out; omega, by go_num, by rw [HNk.out (by trivial)]; exact hkV, by rw [HNk.out (by trivial)]; exact ra, fa, hb⟩
        case measure => have := HK.out; omega
      · have q0 : World.cell? wr ⟨w.heap.size, 0, none⟩ = some (.slice X xs.length cx) := hkJ.cell 0
        have f0 := hkJ.frozen 0
        have q1 : World.cell? wr ⟨w.heap.size, 1, none⟩ = some (.slice Y ys.length cy) := hkJ.cell 1
        have f1 := hkJ.frozen 1
        have q2 : World.cell? wr ⟨w.heap.size, 2, none⟩ = some (.int .i64 (M : Int)) := hkJ.cell 2
        have f2 := hkJ.frozen 2
        have q3 : World.cell? wr ⟨w.heap.size, 3, none⟩ = some (.int .i64 (S : Int)) := hkJ.cell 3
        have f3 := hkJ.frozen 3
        have fl := hkJ.lt
        have hkS : k * S ≤ 64 * 256 := Nat.mul_le_mul (by omega) hS2
        have hmul : IntKind.i64.wrap ((k : Int) * (S : Int)) = ((k * S : Nat) : Int) := mulw (by omega) (by omega)
        obtain ⟨gu, rfl⟩ : ∃ gu : Nat, gu = gk := ⟨_, rfl⟩
        go_wp2
        go_loopg [8, 9] xs.length (fun gk2 mv iv wr2 => ∃ j : Nat, j + gk2 = xs.length ∧ mv = .int .i64 (cB S k j : Nat) ∧ iv = .int .i64 j ∧ wr = wr2)
        case atStart => exact ⟨0, by omega, rfl, rfl, rfl⟩
        case round =>
          obtain ⟨j, hj2, rfl, rfl, rfl⟩ := hrel
          have hj' : j ≤ xs.length := by omega
          have HJ := Lib.hid hj2
          clear hj2
          by_cases hjl : j < xs.length
          · obtain ⟨Q, hQ⟩ : ∃ Q, Q = j / S := ⟨_, rfl⟩
            have hQk : Q ≤ j := by rw [hQ]; exact Nat.div_le_self _ _
            have hQi : (j : Int) / (S : Int) = (Q : Int) := by rw [hQ, Int.natCast_ediv]
            have u1 : wrap64 ((j : Int) / (S : Int)) = (Q : Int) := by rw [← IntWalk.i64_left, hQi, IntWalk.i64_in _ (by omega)]
            have u2 : IntKind.i64.wrap ((j : Int) / (S : Int)) = (Q : Int) := by rw [IntWalk.i64_left]; exact u1
            have hcb : cB S k j ≤ j := cB_le S k j
            have HSu : Hid (cB S k (j + 1) = cB S k j + (if Q = k then 1 else 0)) := Lib.hid (by rw [hQ]; exact cB_succ S k j)
            generalize cB S k j = cj at *
            by_cases hq : Q = k
            · have e1 : ((Q : Int) == (k : Int)) = true := by rw [hq]; simp
              have HSu2 : Hid (cB S k (j + 1) = cj + 1) := Lib.hid (by rw [HSu.out, if_pos hq])
              clear hQ hQk hQi hq HSu
              go_wp2
              go_roundg (gk - 1)
              case rel => exact ⟨j + 1, by have := HJ.out; omega, by rw [HSu2.out]; go_num, by go_num, rfl⟩
              case measure => have := HJ.out; omega
            · have e1 : ((Q : Int) == (k : Int)) = false := by rw [beq_eq_false_iff_ne]; exact fun h => hq (Int.ofNat.inj h)
              have HSu2 : Hid (cB S k (j + 1) = cj) := Lib.hid (by rw [HSu.out, if_neg hq]; omega)
              clear hQ hQk hQi hq HSu
              go_wp2
              go_roundg (gk - 1)
              case rel => exact ⟨j + 1, by have := HJ.out; omega, by rw [HSu2.out], by go_num, rfl⟩
              case measure => have := HJ.out; omega
          · obtain rfl : j = xs.length := by omega
            have hmy := HMY.out k
            rw [hmy]
            clear hmy hjl hj'
            have p0 : World.cell? wr ⟨w1.heap.size, 0, none⟩ = some (.slice S6 (Sm k).s.length x1) := hkV.cell 0
            have g0 := hkV.frozen 0
            have p1 : World.cell? wr ⟨w1.heap.size, 1, none⟩ = some (.slice N6 (Sm k).n.length x2) := hkV.cell 1
            have g1 := hkV.frozen 1
            have p2 : World.cell? wr ⟨w1.heap.size, 2, none⟩ = some (.slice G6 (Sm k).g.length x3) := hkV.cell 2
            have g2 := hkV.frozen 2
            have gl := hkV.lt
            go_wp2_with fail
            refine (HPk.out _ hxr hyr).mono ?_
            rintro _ w3 ⟨A3, c3, rfl, r3, hb3⟩
            have hkV3 := hkV.keep hb3
            have hkJ3 := hkJ.keep hb3
            have ra3 := ra.keep hb3
            have hb13 := bstep hb hb3
            clear q0 q1 q2 q3 f0 f1 f2 f3 fl p0 p1 p2 g0 g1 g2 gl
            have q0 : World.cell? w3 ⟨w.heap.size, 0, none⟩ = some (.slice X xs.length cx) := hkJ3.cell 0
            have f0 := hkJ3.frozen 0
            have q1 : World.cell? w3 ⟨w.heap.size, 1, none⟩ = some (.slice Y ys.length cy) := hkJ3.cell 1
            have f1 := hkJ3.frozen 1
            have q2 : World.cell? w3 ⟨w.heap.size, 2, none⟩ = some (.int .i64 (M : Int)) := hkJ3.cell 2
            have f2 := hkJ3.frozen 2
            have q3 : World.cell? w3 ⟨w.heap.size, 3, none⟩ = some (.int .i64 (S : Int)) := hkJ3.cell 3
            have f3 := hkJ3.frozen 3
            have fl := hkJ3.lt
            have p0 : World.cell? w3 ⟨w1.heap.size, 0, none⟩ = some (.slice S6 (Sm k).s.length x1) := hkV3.cell 0
            have g0 := hkV3.frozen 0
            have p1 : World.cell? w3 ⟨w1.heap.size, 1, none⟩ = some (.slice N6 (Sm k).n.length x2) := hkV3.cell 1
            have g1 := hkV3.frozen 1
            have p2 : World.cell? w3 ⟨w1.heap.size, 2, none⟩ = some (.slice G6 (Sm k).g.length x3) := hkV3.cell 2
            have g2 := hkV3.frozen 2
            have gl := hkV3.lt
            go_wp2_with fail
            refine (HAk.out (by trivial) S6 N6 G6 A3 x1 x2 x3 c3 _ ra3 r3).mono ?_
            rintro _ w4 ⟨S7, N7, G7, z1', z2', z3', rfl, ra7, fa7, hb4⟩
            have hkV4 := hkV3.keep hb4
            have hsr := hkV3.lt
            have hs13 := hb13.size
            clear q0 q1 q2 q3 f0 f1 f2 f3 fl p0 p1 p2 g0 g1 g2 gl
            have p0 : World.cell? w4 ⟨w1.heap.size, 0, none⟩ = some (.slice S6 (Sm k).s.length x1) := hkV4.cell 0
            have g0 := hkV4.frozen 0
            have p1 : World.cell? w4 ⟨w1.heap.size, 1, none⟩ = some (.slice N6 (Sm k).n.length x2) := hkV4.cell 1
            have g1 := hkV4.frozen 1
            have p2 : World.cell? w4 ⟨w1.heap.size, 2, none⟩ = some (.slice G6 (Sm k).g.length x3) := hkV4.cell 2
            have g2 := hkV4.frozen 2
            have gl := hkV4.lt
            go_wp2
            go_roundg (gu - 1)
            case rel => exact ⟨k + 1, S7, N7, G7, z1', z2', z3', by have := HK.out; omega, by go_num, ((hkV4.put 0 _).put 1 _).put 2 _, ((ra7.far fa7 (p := ⟨w1.heap.size, 0, none⟩) hsr _).far fa7 (p := ⟨w1.heap.size, 1, none⟩) hsr _).far fa7 (p := ⟨w1.heap.size, 2, none⟩) hsr _, fa7.mono (by omega), (((bstep hb13 hb4).setCell (p := ⟨w1.heap.size, 0, none⟩) (Nat.le_refl _) _).setCell (p := ⟨w1.heap.size, 1, none⟩) (Nat.le_refl _) _).setCell (p := ⟨w1.heap.size, 2, none⟩) (Nat.le_refl _) _⟩
            case measure => have := HK.out; omega
    · have hkd : k = d.length := by omega
      have e3 : Sm k = SD := by rw [hkd]; exact HE.out
      rw [e3] at hkV ra
      clear HK HA HNO HP
      have q0 : World.cell? wr ⟨(w.heap.size + 1), 0, none⟩ = some (.slice .none 0 0) := hkR.cell 0
      have f0 := hkR.frozen 0
      have q1 : World.cell? wr ⟨(w.heap.size + 1), 1, none⟩ = some (.slice .none 0 0) := hkR.cell 1
      have f1 := hkR.frozen 1
      have q2 : World.cell? wr ⟨(w.heap.size + 1), 2, none⟩ = some (.slice .none 0 0) := hkR.cell 2
      have f2 := hkR.frozen 2
      have fl := hkR.lt
      have p0 : World.cell? wr ⟨w1.heap.size, 0, none⟩ = some (.slice S6 SD.s.length x1) := hkV.cell 0
      have g0 := hkV.frozen 0
      have p1 : World.cell? wr ⟨w1.heap.size, 1, none⟩ = some (.slice N6 SD.n.length x2) := hkV.cell 1
      have g1 := hkV.frozen 1
      have p2 : World.cell? wr ⟨w1.heap.size, 2, none⟩ = some (.slice G6 SD.g.length x3) := hkV.cell 2
      have g2 := hkV.frozen 2
      have gl := hkV.lt
      go_wp2
      exact bodyPost_ret (v := .agg #[.slice S6 SD.s.length x1, .slice N6 SD.n.length x2, .slice G6 SD.g.length x3]) (by simp [results, Try.results31, go_sem, q0, q1, q2, f0, f1, f2, fl]) rfl ⟨S6, N6, G6, x1, x2, x3, rfl, ((ra.far fa (p := ⟨w.heap.size + 1, 0, none⟩) (by simp only; omega) _).far fa (p := ⟨w.heap.size + 1, 1, none⟩) (by simp only; omega) _).far fa (p := ⟨w.heap.size + 1, 2, none⟩) (by simp only; omega) _, fa.mono (by omega), ((hBr.setCell (p := ⟨w.heap.size + 1, 0, none⟩) (by simp only; omega) _).setCell (p := ⟨w.heap.size + 1, 1, none⟩) (by simp only; omega) _).setCell (p := ⟨w.heap.size + 1, 2, none⟩) (by simp only; omega) _⟩
end Wk
end Go.Proofs.Ytdekbncpodjgnaa
namespace Go.Proofs.Ytdekbncpodjgnaa
open Go.ChangeShapes Go.WideShapes Go.ChangeAt Go.RowKit Go.Deep
set_option linter.unusedVariables false
set_option linter.unusedSimpArgs false
namespace Wk

section
variable {H : Type} {enc : TypeId × Value → H} {P : Program} {W : World} {base : Nat} {spare : Nat → Bool} {held : Bool}
theorem open_triples {t e : TypeId} {f0 f1 f2 : Field} {k0 : IntKind} {fuel : Nat} {cs : List Value} {x : DataW H × List MemPlace} (ht : P.underlying t = some (.slice e)) (he : P.underlying e = some (.struct #[f0, f1, f2]))
    (ce : P.cellsOf e = 3) (o0 : f0.offset = 0) (o1 : f1.offset = 1) (o2 : f2.offset = 2) (t0 : P.underlying f0.type = some (.int k0)) (t1 : P.underlying f1.type = some (.int .i64)) (t2 : P.underlying f2.type = some (.int .i64)) (c0 : P.cellsOf f0.type = 1) (c1 : P.cellsOf f1.type = 1) (c2 : P.cellsOf f2.type = 1)
    (h : DataW.trod enc P W base spare held fuel t cs = some x) :
    (cs = [.slice none 0 0]) ∨ ∃ (a : Addr) (len cap : Nat) (F : Nat → Int × Int × Int), cs = [.slice (some a) len cap] ∧ len ≤ cap ∧ cap ≤ maxLen ∧
      ∀ i, i < len → W.cell? (a.add (i * 3)) = some (.int k0 (F i).1) ∧ W.cell? (a.add (i * 3 + 1)) = some (.int .i64 (F i).2.1) ∧ W.cell? (a.add (i * 3 + 2)) = some (.int .i64 (F i).2.2) ∧ (Lit.int k0 (F i).1).wf = true ∧ (Lit.int .i64 (F i).2.1).wf = true ∧ (Lit.int .i64 (F i).2.2).wf = true := by
  rcases open_slice ht h with ⟨h0, _⟩ | ⟨a, len, cap, m, n, D, Pl, rfl, hb, hl, hm, hmm, rfl, hx⟩
  · exact Or.inl h0
  right
  have hlm : len ≤ m := by rw [hmm]; split <;> omega
  have each : ∀ i, i < len → ∃ q : Int × Int × Int, W.cell? (a.add (i * 3)) = some (.int k0 q.1) ∧ W.cell? (a.add (i * 3 + 1)) = some (.int .i64 q.2.1) ∧ W.cell? (a.add (i * 3 + 2)) = some (.int .i64 q.2.2) ∧ (Lit.int k0 q.1).wf = true ∧ (Lit.int .i64 q.2.1).wf = true ∧ (Lit.int .i64 q.2.2).wf = true := by
    intro i hi
    obtain ⟨cs', h1, h2⟩ := hx i (by omega)
    rw [ce] at h1
    obtain ⟨_, hlen, hcell⟩ := World.cells?_some h1
    obtain ⟨y0, y1, y2, n', _, hcl, g0, g1, g2⟩ := trod_struct3 he h2
    match cs', hlen with
    | [v0, v1, v2], _ =>
      simp [o0, o1, o2, c0, c1, c2] at g0 g1 g2
      have e0 := hcell 0 (by omega)
      have e1 := hcell 1 (by omega)
      have e2 := hcell 2 (by omega)
      rw [add_add] at e0 e1 e2
      obtain ⟨z0, q0, _, w0⟩ := DataW.trod_int t0 g0
      obtain ⟨z1, q1, _, w1⟩ := DataW.trod_int t1 g1
      obtain ⟨z2, q2, _, w2⟩ := DataW.trod_int t2 g2
      simp at q0 q1 q2
      subst q0 q1 q2
      exact ⟨(z0, z1, z2), by simpa using e0, by simpa using e1, by simpa using e2, w0, w1, w2⟩
  obtain ⟨F, hF⟩ := choose_lt each
  exact ⟨a, len, cap, F, rfl, hl, hm, hF⟩
end
/-- What is known of events that come in. -/
structure InE (W : World) (A : Option Addr) (c : Nat) (l : List Ev) : Prop where
  r : RE W A l
  cp : l.length ≤ c
  len : l.length ≤ 9223372036854775807
  rg : ∀ e ∈ l, (0 ≤ e.k ∧ e.k ≤ 255) ∧ (-9223372036854775808 ≤ e.w ∧ e.w ≤ 9223372036854775807) ∧ (-9223372036854775808 ≤ e.b ∧ e.b ≤ 9223372036854775807)
theorem wf_u8 {n : Int} (h : (Lit.int .u8 n).wf = true) : 0 ≤ n ∧ n ≤ 255 := bounds_u8 h
set_option maxRecDepth 100000 in
theorem open_events {H : Type} {enc : TypeId × Value → H} {W : World} {base : Nat} {spare : Nat → Bool} {held : Bool} {a : Option Addr} {len cap : Nat} {d : DataW H} {p : List MemPlace}
    (h : DataW.Trod enc Try.prog W base spare held 55 (.slice a len cap) d p) : ∃ l : List Ev, len = l.length ∧ InE W a cap l := by
  obtain ⟨fuel, hf⟩ := h
  rcases open_triples (k0 := .u8) Try.underlying55 Try.underlying54 (by kernel_rfl) rfl rfl rfl Try.underlying5 Try.underlying3 Try.underlying3 (by kernel_rfl) (by kernel_rfl) (by kernel_rfl) hf with hcs | ⟨x, len', cap', F, hcs, hl, hm, hi⟩
  · simp [Value.cells] at hcs
    obtain ⟨rfl, rfl, rfl⟩ := hcs
    exact ⟨[], rfl, fun h => absurd h (by simp), by simp, by simp, by simp⟩
  · simp [Value.cells] at hcs
    obtain ⟨rfl, rfl, rfl⟩ := hcs
    have hlen : ((List.range len).map fun i => (⟨(F i).1, (F i).2.1, (F i).2.2⟩ : Ev)).length = len := by simp
    refine ⟨(List.range len).map fun i => ⟨(F i).1, (F i).2.1, (F i).2.2⟩, hlen.symm, ?_, by rw [hlen]; exact hl, by rw [hlen]; unfold maxLen at hm; omega, ?_⟩
    · intro h0
      rw [hlen] at h0
      obtain ⟨b, off, rfl, hb⟩ := addr_plain (by simpa using (hi 0 (by omega)).1)
      refine ⟨b, off, rfl, hb, fun j hj => ?_⟩
      rw [hlen] at hj
      obtain ⟨h1, h2, h3, _⟩ := hi j hj
      rw [add_plain] at h1 h2 h3
      simp only [List.getElem_map, List.getElem_range]
      exact ⟨h1, by rw [← Nat.add_assoc] at h2; exact h2, by rw [← Nat.add_assoc] at h3; exact h3⟩
    · intro y hy
      obtain ⟨i, h1, rfl⟩ := List.mem_map.1 hy
      obtain ⟨_, _, _, w0, w1, w2⟩ := hi i (by simpa using h1)
      exact ⟨wf_u8 w0, wf_rng w1, wf_rng w2⟩
end Wk
end Go.Proofs.Ytdekbncpodjgnaa
