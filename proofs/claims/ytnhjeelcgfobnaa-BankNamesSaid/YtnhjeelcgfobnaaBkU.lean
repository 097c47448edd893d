/-
  Layer 12 (bank), contract: Split of the program, where the stream can be split.
-/
import Derived.Test.YtnhjeelcgfobnaaBkT
namespace Go.Proofs.Ytnhjeelcgfobnaa
open Go.RowKit Num Go.Shelf
set_option maxRecDepth 8000
set_option linter.unusedVariables false
set_option linter.unusedSimpArgs false
namespace Bk
open Lol Crs

attribute [local go_sem] Oper.semAt_some
theorem list_of_blks {P N : Nat} {s : List Int} {M : Nat} {xs : List (Blks M)} (h : xs.map Subtype.val = List.range M) (hM : s.length / N = M) : (xs.map fun x => spF P N s x.1) = splitL P N s := by
  unfold splitL fullL
  rw [hM, ← h, List.map_map]
  rfl
set_option maxRecDepth 20000 in
set_option maxHeartbeats 8000000 in
theorem split_good (P N : Nat) (A : Option Addr) (c : Nat) (s : List Int) (w : World) (hx : RI .i64 w A s) (hcap : s.length ≤ c) (hS : Strm P N s) :
    Calls Try.prog 20 #[.int .i64 (P : Int), .int .i64 (N : Int), .slice A s.length c] w (RetLL .i64 w (splitS P N s)) := by
  obtain ⟨p, hp⟩ : ∃ p : Int, p = P := ⟨_, rfl⟩
  obtain ⟨n, hn⟩ : ∃ n : Int, n = N := ⟨_, rfl⟩
  have HS := Lib.hid (split_ok hS)
  have h7 := hS.h7
  have h2 := hS.le
  have hp1 : -9223372036854775808 ≤ (P : Int) := by omega
  have hp2 : (P : Int) ≤ 9223372036854775807 := by omega
  have hn1 := hS.n1
  have hn16 := hS.n16
  have hl := hS.len
  have c0 : (modE (P : Int) != 0) = false := by rw [modE_pr hS.h7 hS.le hS.pr]; rfl
  have d1 : decide ((N : Int) < 1) = false := decide_eq_false (by omega)
  have d2 : decide (16 < (N : Int)) = false := decide_eq_false (by omega)
  have d2' : decide (16 < N) = false := decide_eq_false (by omega)
  have d1' : decide (N < 1) = false := decide_eq_false (by omega)
  have d3 : decide (256 < s.length) = false := decide_eq_false (by omega)
  have d3' : decide (256 < (s.length : Int)) = false := decide_eq_false (by omega)
  have hl1000 : s.length ≤ 1000 := by omega
  have g0 : IntKind.i64.wrap ((P : Int) - 1) = ((P - 1 : Nat) : Int) := by rw [IntWalk.i64_in _ (by omega)]; omega
  have hz1 : ((N : Int) == 0) = false := by rw [beq_eq_false_iff_ne]; omega
  have f1' : ((((P - 1) % N : Nat) : Int) != 0) = false := by rw [hS.dv]; rfl
  have HF2 : Hid ((((s.length % N : Nat) : Int) != 0) = false) := Lib.hid (by rw [hS.ln]; rfl)
  have HEL := Lib.hid hS.el
  have HOK := Lib.hid hS.ok
  have hMN := hS.mul
  have HSM := Lib.hid (fun t k => smp_bd hS t k)
  have HLB := Lib.hid (fun M (xs : List (Blks M)) (h : xs.map Subtype.val = List.range M) (hM : s.length / N = M) => list_of_blks (P := P) (s := s) h hM)
  clear hS
  subst hp hn
  obtain ⟨wE, hwE⟩ : ∃ wE, wE = (((w.alloc (.cells #[.int .i64 (P : Int)] 2)).alloc (.cells #[.int .i64 (N : Int)] 3)).alloc (.cells #[.slice none 0 0] 22)).alloc (.cells #[.int .i64 0] 24) := ⟨_, rfl⟩
  have hk0 : Blk wE w.heap.size 2 #[.int .i64 (P : Int)] := by rw [hwE]; exact (((Blk.new _ _ _).alloc _).alloc _).alloc _
  have hk1 : Blk wE (w.heap.size + 1) 3 #[.int .i64 (N : Int)] := by rw [hwE]; exact ((Blk.newAt _ _ (by simp)).alloc _).alloc _
  have hk2 : Blk wE (w.heap.size + 1 + 1) 22 #[.slice none 0 0] := by rw [hwE]; exact (Blk.newAt _ _ (by simp)).alloc _
  have hk3 : Blk wE (w.heap.size + 1 + 1 + 1) 24 #[.int .i64 0] := by rw [hwE]; exact Blk.newAt _ _ (by simp)
  have hbE : Below w.heap.size w wE := by rw [hwE]; exact balloc (balloc (balloc (balloc (Below.refl _ _) _) _) _) _
  have hsE : wE.heap.size = w.heap.size + 4 := by rw [hwE]; simp
  refine callsIn_wide.1 (callsIn_of_wp_marks (n := 12) Try.func20 rfl trivial ?_ rfl)
  simp only [Try.ntmps20, List.size_toArray, List.length_cons, List.length_nil, Nat.reduceAdd, Nat.reduceSub, Array.replicate_succ, Array.replicate_zero, List.push_toArray, List.append_toArray, List.nil_append, List.cons_append]
  refine wpIn_wide.2 ?_
  go_wp2_with fail
  rw [← hwE]
  clear hwE
  have q0 : World.cell? wE ⟨w.heap.size, 0, none⟩ = some (.int .i64 (P : Int)) := hk0.cell 0
  have f0 := hk0.frozen 0
  have fl := hk0.lt
  refine (modulus_any _ _ hp1 hp2).mono ?_
  rintro _ w1 ⟨rfl, hb1⟩
  have hB1 := bstep hbE hb1
  clear q0 f0 fl
  replace hk0 := hk0.keep hb1
  replace hk1 := hk1.keep hb1
  replace hk2 := hk2.keep hb1
  replace hk3 := hk3.keep hb1
  have q0 : World.cell? w1 ⟨w.heap.size, 0, none⟩ = some (.int .i64 (P : Int)) := hk0.cell 0
  have f0 := hk0.frozen 0
  have fl := hk0.lt
  have r0 : World.cell? w1 ⟨(w.heap.size + 1), 0, none⟩ = some (.int .i64 (N : Int)) := hk1.cell 0
  have g0 := hk1.frozen 0
  have gl := hk1.lt
  have x0 : World.cell? w1 ⟨(w.heap.size + 1 + 1), 0, none⟩ = some (.slice .none 0 0) := hk2.cell 0
  have y0 := hk2.frozen 0
  have yl := hk2.lt
  have z0 : World.cell? w1 ⟨(w.heap.size + 1 + 1 + 1), 0, none⟩ = some (.int .i64 0) := hk3.cell 0
  have u0 := hk3.frozen 0
  have ul := hk3.lt
  have hx1 := hx.keep hB1
  have hs1 := hb1.size
  go_wp2
  (try clear f1')
  go_loopg [40] s.length (fun gk i wr => ∃ k : Nat, k + gk = s.length ∧ i = .int .i64 k ∧ wr = w1 ∧ Hid (∀ j, j < k → -3 ≤ s.getD j 0 ∧ s.getD j 0 ≤ 3))
  case atStart => exact ⟨0, by omega, rfl, rfl, Lib.hid (by intro j hj; omega)⟩
  case round =>
    obtain ⟨k, hk, rfl, rfl, HA⟩ := hrel
    have hk' : k ≤ s.length := by omega
    have HKK := Lib.hid hk
    clear hk
    by_cases hlt : k < s.length
    · obtain ⟨b1, off1, rfl, hlw1, hc1⟩ := hx1.at2 hlt
      have HBD := Lib.hid (fun h : s.getD k 0 < -3 ∨ 3 < s.getD k 0 => any_badS_at hlt (badS_yes h))
      have HG := Lib.hid (fun h : -3 ≤ s.getD k 0 ∧ s.getD k 0 ≤ 3 => all_lt_succ HA.out h)
      generalize s.getD k 0 = v at *
      rcases (show (v < -3 ∨ 3 < v) ∨ (-3 ≤ v ∧ v ≤ 3) by omega) with h | ⟨h, h'⟩
      · have h9 := any_badS.2 HEL.out
        rw [HBD.out h] at h9
        cases h9
      · have d7 : decide (v < -3) = false := decide_eq_false (by omega)
        have d8 : decide (3 < v) = false := decide_eq_false (by omega)
        have HE := Lib.hid (HG.out ⟨h, h'⟩)
        go_wp2
        go_roundg (gk - 1)
        case rel => exact ⟨k + 1, by have := HKK.out; omega, by go_num, rfl, HE⟩
        case measure => have := HKK.out; omega
    · obtain ⟨wz, rfl⟩ : ∃ wz : World, wz = wr := ⟨_, rfl⟩
      have f2 := HF2.out
      have HCH := Lib.hid (fun w => chunk_any A s.length c N hn1 w)
      go_wp2_with (go_at_call 42; with_reducible refine (HCH.out _).mono ?_; rintro e w5 ⟨rfl, rfl⟩)
      have hs5 : ((((wz.alloc (.cells #[.slice none 0 0] 22)).alloc (.cells #[.slice A s.length c] 39)).alloc (.cells #[.int .i64 (N : Int)] 3)).heap.size) = wz.heap.size + 3 := by simp
      have b11 : Boxed (((wz.alloc (.cells #[.slice none 0 0] 22)).alloc (.cells #[.slice A s.length c] 39)).alloc (.cells #[.int .i64 (N : Int)] 3)) wz.heap.size 22 (.slice none 0 0) := ((Blk.new wz 22 #[.slice none 0 0]).alloc _).alloc _
      have bxs : Boxed (((wz.alloc (.cells #[.slice none 0 0] 22)).alloc (.cells #[.slice A s.length c] 39)).alloc (.cells #[.int .i64 (N : Int)] 3)) (wz.heap.size + 1) 39 (.slice A s.length c) := (Blk.newAt (w := wz.alloc (.cells #[.slice none 0 0] 22)) (g := wz.heap.size + 1) 39 #[.slice A s.length c] (by simp)).alloc _
      have bxn : Boxed (((wz.alloc (.cells #[.slice none 0 0] 22)).alloc (.cells #[.slice A s.length c] 39)).alloc (.cells #[.int .i64 (N : Int)] 3)) (wz.heap.size + 2) 3 (.int .i64 (N : Int)) := Blk.newAt _ _ (by simp)
      have hbb : Below wz.heap.size wz (((wz.alloc (.cells #[.slice none 0 0] 22)).alloc (.cells #[.slice A s.length c] 39)).alloc (.cells #[.int .i64 (N : Int)] 3)) := balloc (balloc (balloc (Below.refl _ _) _) _) _
      generalize (((wz.alloc (.cells #[.slice none 0 0] 22)).alloc (.cells #[.slice A s.length c] 39)).alloc (.cells #[.int .i64 (N : Int)] 3)) = W5 at *
      have hSB : SpB P N w.heap.size wz.heap.size (.slice A s.length c) W5 := ⟨hk0.keep hbb, hk1.keep hbb, hk2.keep hbb, hk3.keep hbb, bxs, bxn⟩
      have hB5 := bstep hB1 hbb
      have hx5 := hx1.keep hbb
      have hwr : w.heap.size + 4 ≤ wz.heap.size := by omega
      have hM1 : s.length / N * N = s.length := hMN
      obtain ⟨M, hM⟩ : ∃ M, s.length / N = M := ⟨_, rfl⟩
      rw [hM] at hM1
      obtain ⟨b, off, hA⟩ : ∃ b off, 0 < s.length → A = some ⟨b, off, none⟩ := by
        rcases Nat.eq_zero_or_pos s.length with h0 | h0
        · exact ⟨0, 0, fun h => by omega⟩
        · obtain ⟨b, off, e, _⟩ := hx h0
          exact ⟨b, off, fun _ => e⟩
      have HML := Lib.hid (fun (t k : Nat) (ht : t < M) (hk : k < N) => show t * N + k < s.length by rw [← hM1]; exact mul_lo ht hk)
      have HMM := Lib.hid hM
      have HRED := Lib.hid (fun t => red_fit HOK.out h7 (smp N s t) (fun k _ => HSM.out t k))
      have HFWD := Lib.hid (fun t => fwd_fit HOK.out (smp N s t))
      have HSF : Hid (∀ t, fwdL P (resL P N (smp N s t)) = spF P N s t) := Lib.hid (fun t => rfl)
      have hM256 : M ≤ 256 := by rw [← hM]; have := Nat.div_le_self s.length N; omega
      obtain ⟨i0, hi0, hz0, hzz1, hz2⟩ := info_int64
      have hmk := mk_row (P := Try.prog) 31 2 Try.underlying31 hi0 hz0 hzz1 hz2 (encI .i64) (encI_len .i64) (by omega) 0 rfl N (by omega) (by omega)
      obtain ⟨j0, hj0, jy0, jy1, jy2⟩ := info_parts info_ints64
      clear hM HEL HSM hMN HF2 f2 hk0 hk1 hk2 hk3
      refine (wpIn_wide (n := 12)).1 ?_
      refine wpIn_rangeFunc_ownG (F := Fence.wide) (n := 12) rfl (by decide) (gf := 64) (lb := #[.pointer (some ⟨wz.heap.size + 1, 0, none⟩), .pointer (some ⟨wz.heap.size + 2, 0, none⟩)]) rfl trivial (enters_of Try.func64 (by kernel_rfl) rfl)
        (chunk_stops 11 (by decide) M N s.length c (wz.heap.size + 1) (wz.heap.size + 2) A hM1 hn1 hn16 hl hcap W5 (by omega) (by omega) b off hA bxs.cell bxn.cell)
        (fun h k => ⟨k.1.trans h.1, k.2.trans h.2⟩)
        (fun W l o o' hl' ho _ _ => ⟨World.cell?_of_block ((grownBy_putObj' W l o').block (wz.heap.size + 1) (by have := (Array.getElem?_eq_some_iff.1 ho).1; omega) (by intro e; injection e with e; omega)), World.cell?_of_block ((grownBy_putObj' W l o').block (wz.heap.size + 2) (by have := (Array.getElem?_eq_some_iff.1 ho).1; omega) (by intro e; injection e with e; omega))⟩)
        (Below.refl _ _) (fun _ => rfl)
        (SpI P N s w W5.heap.size wz.heap.size (.slice A s.length c)) (fun _ _ _ => False) (SpI.own (by omega)) (fun _ _ _ _ _ hs _ _ => hs)
        ⟨⟨⟨_, [], b11, World.ownsRow_nil _ _ _ _, Els.nil⟩, hSB, Nat.le_refl _⟩, hB5⟩ ?a1 ?assign ?body ?done ?stop
      case assign =>
        intro l x W K hK
        gi_wp2
        exact hK
      case body =>
        rintro l pre x W ⟨⟨⟨v, raws, hv, hrow, hE⟩, hSB, hn5⟩, hB⟩ hlt
        have htM := x.2
        have HFR := Lib.hid (fun (L : List (List Int)) (g : List Int) (hL : L = pre.map fun x => spF P N s x.1) (hg : spF P N s x.1 = g) => show L ++ [g] = (pre ++ [x]).map fun x => spF P N s x.1 by rw [hL, ← hg, List.map_append]; rfl)
        have hA2 := hA (by have := HML.out x.1 0 htM (by omega); omega)
        have hxW := hx.keep hB
        have HCX := Lib.hid (fun k (hk : k < N) => smp_in (P := P) hxW hA2 (HML.out x.1 k htM hk))
        have HRED2 := Lib.hid (HRED.out x.1)
        have HFWD2 := Lib.hid (HFWD.out x.1)
        have HSF2 := Lib.hid (HSF.out x.1)
        have hsl := spF_len P N s x.1
        generalize smp N s x.1 = X at *
        generalize spF P N s x.1 = g9 at *
        generalize x.1 = t at *
        have q0 := hSB.b0.cell
        have q1 := hSB.b1.cell
        have hsW := hB.size
        gi_wp2
        gi_loopw [64] (fun i wq => ∃ j : Nat, j ≤ N ∧ i = .int .i64 j ∧ Blk wq W.heap.size 2 ((partL X 0 N j).flatMap (encI .i64)).toArray ∧ Below W.heap.size W wq) (fun i _ => N - (intOf i).toNat)
        case atStart => exact ⟨0, Nat.zero_le _, rfl, by rw [partL_start]; exact Blk.new W 2 _, balloc (Below.refl _ _) _⟩
        case round =>
          clear hmk q0 q1
          obtain ⟨j, hj, rfl, hR, hbq⟩ := hrel
          have hRl := hR.lt
          by_cases hjl : j < N
          · obtain ⟨hbl, hbc⟩ := HCX.out j hjl
            have hc5 := (hbq.cell (p := ⟨b, off + t * N + j, none⟩) hbl).trans hbc
            have r0 := blkI_at hR (j := j) (by rw [partL_len]; exact hjl)
            have r1 := hR.frozen j
            have HE := Lib.hid (partL_set X 0 N j (X j) rfl)
            generalize X j = xj at *
            gi_wp2
            go_roundw
            case rel => exact ⟨j + 1, by omega, by go_num, by rw [← HE.out]; exact blkI_set hR (by rw [partL_len]; exact hjl) _, hbq.setCell (p := ⟨W.heap.size, j, none⟩) (Nat.le_refl _) _⟩
            case measure => simp [intOf]; omega
          · obtain rfl : j = N := by omega
            rw [partL_end _ _ _ _ (Nat.le_refl _)] at hR
            have rR := blk_RI hR
            have hSq := hSB.keep hbq
            have q0 := hSq.b0.cell
            have q1 := hSq.b1.cell
            have hsq := hbq.size
            have h10 : 1 ≤ 12 - 1 - 1 := by decide
            gi_wp2_with (first
              | (refine ⟨trivial, ?_⟩; gi_at_call 43; refine (CallsIn.inRound l (callsIn_wide.2 (HRED2.out _ _ _ rR))).mono ?_; rintro e w6 ⟨A6, c6, rfl, r6, hb6⟩; have hb16 := bstep hbq hb6; have q06 := (hSB.keep hb16).b0.cell; have hO6 := own_keep hrow hb16)
              | (refine ⟨trivial, ?_⟩; gi_at_call 44; refine (CallsIn.inRound l (callsIn_wide.2 (HFWD2.out A6 c6 w6 r6))).mono ?_; rintro e w7 ⟨A7, c7, rfl, r7, hcp7, hb7⟩; have hb17 := bstep hb16 hb7; have hS7 := hSB.keep hb17; have hv7 := box_keep hv hb17; have hO7 := own_keep hrow hb17; have hE7 := hE.keep hb17; have hs7 := hb17.size; have hs6 := hb16.size; have q7 := hv7.cell; have hl7 := hO7.1; have hM7 : pre.length < M := hlt; rw [HSF2.out] at r7; have hr7 := r7.mono (show W5.heap.size ≤ w6.heap.size by omega); have hne7 := r7.apart hO6 (Nat.le_refl _))
              | (gi_at_builtin; refine wpListIn_append_lies _ rfl (.tmp 92) (.tmp 94) 22 rfl W5.heap.size 31 j0 _ 1 24 Try.underlying22 hj0 jy0 jy1 jy2 rfl (by decide) _ pre.length _ rfl (hO7.alloc _) ⟨w7.heap.size, 0, none⟩ 1 1 [.slice A7 j c7] rfl rfl (enc_news _ rfl) one_slice (by omega) (by unfold maxLen; omega) (by omega) (by simp; omega) (w7.heap.size + 1) (by simp) ?_; intro g4 c4 w4 hown4 hgrow4 hat4 hlt4; obtain ⟨p1, p2, p3, p4, p5, p6, p7⟩ := SpR.push hsl (by omega) (by omega) (by omega) hv7 hO7 hE7 hS7 hr7 hcp7 hne7 hown4 hgrow4 hat4; have pc := p1.cell; have pf := p1.frozen; have pl := p1.lt)
              | fail)
            rw [HFR.out _ _ rfl rfl] at p4
            refine ⟨(KeepsFrom.below hb17).trans (p6.from _), ⟨p5.bs.cell.trans hSB.bs.cell.symm, p5.bn.cell.trans hSB.bn.cell.symm⟩, ⟨⟨_, _, p2, ?_, p4⟩, p5, Nat.le_trans (show W5.heap.size ≤ w7.heap.size by omega) p6.size⟩, p7 w (by omega) (bstep hB hb17)⟩
            rw [List.length_append]
            exact p3
      case done =>
        rintro D xs W hD hxs ⟨⟨⟨v, raws, hv, hrow, hE⟩, hSB, hn5⟩, hB⟩ hK
        rw [HLB.out M xs hxs HMM.out] at hE
        have hxl : xs.length = M := by have := congrArg List.length hxs; simpa using this
        rw [hxl] at hrow
        obtain ⟨A9, c9, rfl, hc9⟩ := own_shape' hrow
        have q11 := hv.cell
        have q2 := hSB.b2.cell
        have f2 := hSB.b2.frozen
        have l2 := hSB.b2.lt
        have q3 := hSB.b3.cell
        have f3 := hSB.b3.frozen
        have l3 := hSB.b3.lt
        have e2 : Boxed W (w.heap.size + 1 + 1) 22 (.slice none 0 0) := hSB.b2
        have e3 : Boxed W (w.heap.size + 1 + 1 + 1) 24 (.int .i64 0) := hSB.b3
        have hol : ∀ r, (Value.slice A9 M c9).ownBlock = some r → W5.heap.size ≤ r := fun r e => (hrow.lt r e).1
        have k1 := (KeepsOthers.setCell W ⟨w.heap.size + 1 + 1, 0, none⟩ (.slice A9 M c9)).same D _ hK rfl
        have k2 := (KeepsOthers.setCell (W.setCell ⟨w.heap.size + 1 + 1, 0, none⟩ (.slice A9 M c9)) ⟨w.heap.size + 1 + 1 + 1, 0, none⟩ (.int .i64 0)).same D _ k1 rfl
        have x2 := Go.Boxed.other (Go.Boxed.set (.slice A9 M c9) e2) (show w.heap.size + 1 + 1 ≠ w.heap.size + 1 + 1 + 1 by omega) (.int .i64 0)
        have x3 := Go.Boxed.set (.int .i64 0) (Go.Boxed.other e3 (show w.heap.size + 1 + 1 + 1 ≠ w.heap.size + 1 + 1 by omega) (.slice A9 M c9))
        have y1 := Els_far hE (p := ⟨w.heap.size + 1 + 1, 0, none⟩) (by simp only; omega) (.slice A9 M c9)
        have y2 := Els_far y1 (p := ⟨w.heap.size + 1 + 1 + 1, 0, none⟩) (by simp only; omega) (.int .i64 0)
        have z1 := hrow.kept (grownBy_setCell' W (w.heap.size + 1 + 1) (.slice A9 M c9)) (.inr (fun e => by have := hol _ e; omega))
        have z2 := z1.kept (grownBy_setCell' _ (w.heap.size + 1 + 1 + 1) (.int .i64 0)) (.inr (fun e => by have := hol _ e; omega))
        have bf := (hB.setCell (p := ⟨w.heap.size + 1 + 1, 0, none⟩) (by simp only; omega) (.slice A9 M c9)).setCell (p := ⟨w.heap.size + 1 + 1 + 1, 0, none⟩) (by simp only; omega) (.int .i64 0)
        have HSL := Lib.hid (show (splitL P N s).length = M by rw [splitL_len]; exact HMM.out)
        go_wp2
        generalize (W.setCell ⟨w.heap.size + 1 + 1, 0, none⟩ (.slice A9 M c9)).setCell ⟨w.heap.size + 1 + 1 + 1, 0, none⟩ (.int .i64 0) = W9 at *
        have nc : noCells W9 (some D) := fun r e => by cases e; exact ⟨_, k2, rfl⟩
        have gp := grownBy_putObj' W9 D (.deferred none)
        have hc6 := (box_past x2 gp nc).cell
        have hc7 := (box_past x3 gp nc).cell
        refine ⟨by simp, .inl ⟨_, _, rfl, run_takeDeferred k2, ?_⟩⟩
        refine ⟨.tuple #[.slice A9 M c9, .int .i64 0], by simp [results, Try.f20, go_sem, hc6, hc7], RetLL.own HS.out HSL.out (own_RLL (row_past z2 gp nc) (els_past y2 gp nc)) (bf.trans (belowK_b (w := w) (Nat.le_refl _) W9 D _ _ (by omega) k2 rfl rfl))⟩
      case stop =>
        rintro D c pre W _ _ h _
        exact h.elim
end Bk
end Go.Proofs.Ytnhjeelcgfobnaa
