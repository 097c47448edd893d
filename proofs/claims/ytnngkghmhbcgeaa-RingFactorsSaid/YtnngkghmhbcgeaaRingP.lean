/-
  RingFactors.
-/
import Derived.Test.YtnngkghmhbcgeaaRingK
import Derived.Deep.RegionWith
import Derived.Test.YtnngkghmhbcgeaaRegQ
namespace Go.Proofs.Ytnngkghmhbcgeaa
open Go.RowKit Num Reg
set_option linter.unusedVariables false
set_option linter.unusedSimpArgs false

theorem mulAll_perm {l l' : List Nat} (h : l.Perm l') : mulAll l = mulAll l' := by
  induction h with
  | nil => rfl
  | cons x _ ih => show x * _ = x * _; rw [ih]
  | swap x y l => show y * (x * _) = x * (y * _); grind
  | trans _ _ a b => exact a.trans b
theorem perm_of_prod {l l' : List Nat} (hl : ∀ x ∈ l, Pr x) (hl' : ∀ x ∈ l', Pr x) (h : mulAll l = mulAll l') : l.Perm l' := by
  induction l generalizing l' with
  | nil =>
    cases l' with
    | nil => exact List.Perm.nil
    | cons y t =>
      exfalso
      have hy := (hl' y List.mem_cons_self).1
      have h2 := mulAll_pos (fun z hz => hl' z (List.mem_cons_of_mem y hz))
      have h3 : 1 = y * mulAll t := h
      have := Nat.mul_le_mul hy h2
      omega
  | cons a t ih =>
    have ha : Pr a := hl a List.mem_cons_self
    have m1 : a ∈ l' := ha.mem_of_dvd hl' (by rw [← h]; exact dvd_mulAll List.mem_cons_self)
    have hp := List.perm_cons_erase m1
    have e : a * mulAll t = a * mulAll (l'.erase a) := h.trans (mulAll_perm hp)
    have e' := Nat.eq_of_mul_eq_mul_left (by have := ha.1; omega) e
    have := ih (l' := l'.erase a) (fun x hx => hl x (List.mem_cons_of_mem _ hx)) (fun x hx => hl' x (List.mem_of_mem_erase hx)) e'
    exact (this.cons a).trans hp.symm
theorem facs_perm {a b : Nat} (ha : 1 ≤ a) (hb : 1 ≤ b) : (facs (a * b)).Perm (facs a ++ facs b) := by
  have h1 := facs_of ha
  have h2 := facs_of hb
  have h3 := facs_of (n := a * b) (Nat.mul_le_mul ha hb)
  refine perm_of_prod h3.2.1 ?_ ?_
  · intro x hx
    rcases List.mem_append.1 hx with h | h
    · exact h1.2.1 x h
    · exact h2.2.1 x h
  · rw [h3.1, mulAll_append, h1.1, h2.1]

theorem take_prod {l : List Nat} (hl : ∀ x ∈ l, Pr x) (k : Nat) : mulAll (l.take k) ≤ mulAll l := by
  have e : mulAll (l.take k) * mulAll (l.drop k) = mulAll l := by rw [← mulAll_append, List.take_append_drop]
  have := mulAll_pos (l := l.drop k) (fun x hx => hl x (List.mem_of_mem_drop hx))
  have := Nat.mul_le_mul (Nat.le_refl (mulAll (l.take k))) this
  omega
theorem take_prod_succ {l : List Nat} {k : Nat} (h : k < l.length) : mulAll (l.take (k + 1)) = mulAll (l.take k) * l.getD k 0 := by
  rw [List.take_succ_eq_append_getElem h, mulAll_append, getD_lt _ _ h]
  show _ * (_ * 1) = _
  rw [Nat.mul_one]
theorem take_count {l : List Nat} {k : Nat} (x : Nat) (h : k < l.length) : (l.take (k + 1)).count x = (l.take k).count x + (if l.getD k 0 = x then 1 else 0) := by
  rw [List.take_succ_eq_append_getElem h, List.count_append, getD_lt _ _ h, List.count_singleton]
  congr 1
  by_cases e : l[k] = x
  · rw [if_pos e, if_pos (by simpa using e)]
  · rw [if_neg e, if_neg (by simpa using e)]

def ringT (s k p q : Value) : Nat → Value
  | 0 => s
  | 1 => k
  | 2 => p
  | 3 => q
  | 4 => .int .i64 0
  | 5 => .bool false
  | 6 => .bool false
  | 7 => k
  | 8 => .bool false
  | 9 => .bool false
  | 20 => .bool false
  | 21 => .bool false
  | _ => undef
theorem ring_idx {b off k n c : Nat} {w : World} (h : k < n) : (Instr.indexAt 32 (.slice (some ⟨b, off, none⟩) n c) (.int .i64 (k : Int))).run Try.prog w = .ok (.pointer (some ⟨b, off + k, none⟩)) w := by
  go_simp
theorem ring_ld {p : Addr} {q : Int} {w : World} (h : w.cell? p = some (.int .i64 q)) : (Instr.loadAt 2 (.pointer (some p))).run Try.prog w = .ok (.int .i64 q) w := by
  go_simp
theorem ring_gt {k : Nat} {w : World} (d2 : decide ((0 : Int) < (k : Int)) = false) : (binOp .gtr 3 (.int .i64 (k : Int)) (.int .i64 0)).run Try.prog w = .ok (.bool false) w := by
  have h : k = 0 := by have := of_decide_eq_false d2; omega
  subst h
  go_simp
theorem ring_ne {t : TypeId} {w : World} : (binOp .neq t (.int .i64 0) (.int .i64 0)).run Try.prog w = .ok (.bool false) w := by
  go_simp
set_option maxRecDepth 20000 in
set_option maxHeartbeats 4000000 in
theorem ringFactors_walk (a b : Int) (w : World) (ha : -9223372036854775808 ≤ a ∧ a ≤ 9223372036854775807) (hbb : -9223372036854775808 ≤ b ∧ b ≤ 9223372036854775807) :
    Calls Try.prog 7 #[.int .i64 a, .int .i64 b] w fun e w' => e = .returned (.bool true) ∧ Below w.heap.size w w' := by
  rcases (show a < 1 ∨ (1 ≤ a ∧ b < 1) ∨ (1 ≤ a ∧ 1 ≤ b ∧ 44000 < a) ∨ (1 ≤ a ∧ 1 ≤ b ∧ a ≤ 44000 ∧ 44000 < b) ∨ (1 ≤ a ∧ 1 ≤ b ∧ a ≤ 44000 ∧ b ≤ 44000) by omega) with h | ⟨h, h'⟩ | ⟨h, h', h''⟩ | ⟨h, h', h'', h3'⟩ | ⟨h1, h2, h3, h4⟩
  · go_enter Try.func7, Try.ntmps7
    go_wp2_with fail
    refine (alive10_any _).mono ?_
    rintro _ w2 ⟨rfl, hb2⟩
    go_wp2
    go_ret
    exact ⟨rfl, hb2⟩
  · go_enter Try.func7, Try.ntmps7
    go_wp2_with fail
    refine (alive10_any _).mono ?_
    rintro _ w2 ⟨rfl, hb2⟩
    go_wp2
    go_ret
    exact ⟨rfl, hb2⟩
  · go_enter Try.func7, Try.ntmps7
    go_wp2_with fail
    refine (alive10_any _).mono ?_
    rintro _ w2 ⟨rfl, hb2⟩
    go_wp2
    go_ret
    exact ⟨rfl, hb2⟩
  · go_enter Try.func7, Try.ntmps7
    go_wp2_with fail
    refine (alive10_any _).mono ?_
    rintro _ w2 ⟨rfl, hb2⟩
    go_wp2
    go_ret
    exact ⟨rfl, hb2⟩
  · obtain ⟨a, rfl⟩ : ∃ A : Nat, a = A := ⟨a.toNat, by omega⟩
    obtain ⟨b, rfl⟩ : ∃ B : Nat, b = B := ⟨b.toNat, by omega⟩
    have hab : a * b ≤ 44000 * 44000 := Nat.mul_le_mul (by omega) (by omega)
    have hab1 : 1 ≤ a * b := Nat.mul_le_mul (show 1 ≤ a by omega) (show 1 ≤ b by omega)
    have HPM := Lib.hid (facs_perm (a := a) (b := b) (by omega) (by omega))
    have F1 := Lib.hid (facS_in (N := a) (by omega) (by omega))
    have F2 := Lib.hid (facS_in (N := b) (by omega) (by omega))
    have F3 := Lib.hid (show facS ((a : Int) * (b : Int)) = (toI (facs (a * b)), 0) from facS_in (N := a * b) hab1 (by omega))
    have HN := Lib.hid (facs_of hab1)
    have l1 := fac_len (n := a) (by omega) (by omega)
    have l2 := fac_len (n := b) (by omega) (by omega)
    have l3 := fac_len (n := a * b) hab1 (by omega)
    have hlen : (facs (a * b)).length = (facs a).length + (facs b).length := by rw [HPM.out.length_eq, List.length_append]
    have HCT := Lib.hid (fun x => show (facs (a * b)).count x = (facs a).count x + (facs b).count x by rw [HPM.out.count_eq, List.count_append])
    have m1 := toI_len (facs a)
    have m2 := toI_len (facs b)
    have m3 := toI_len (facs (a * b))
    have f0 : IntKind.i64.wrap ((a : Int) * (b : Int)) = (a : Int) * (b : Int) := mul_wrap (x := a) (y := b) (by omega) (by omega)
    have f1 : (((facs (a * b)).length : Int) != ((facs a).length : Int) + ((facs b).length : Int)) = false := by rw [hlen]; simp
    have HLEN := Lib.hid hlen
    clear hlen
    have hbd : (a : Int) * (b : Int) ≤ 1936000000 := by have : ((a * b : Nat) : Int) ≤ ((44000 * 44000 : Nat) : Int) := by exact_mod_cast hab
                                                        rw [Int.natCast_mul] at this; omega
    have hbd0 : 0 ≤ (a : Int) * (b : Int) := by rw [← Int.natCast_mul]; exact Int.natCast_nonneg _
    go_enter Try.func7, Try.ntmps7
    go_wp2_with fail
    refine (ringFacs_at (a : Int) (toI (facs a)) 0 F1.out _ (by omega) (by omega)).mono ?_
    rintro _ w1 ⟨A1, c1, rfl, r1, hb1⟩
    go_wp2_with fail
    refine (ringFacs_at (b : Int) (toI (facs b)) 0 F2.out _ (by omega) (by omega)).mono ?_
    rintro _ w2 ⟨A2, c2, rfl, r2, hb2⟩
    have hB2 := bstep hb1 hb2
    replace r1 := r1.keep hb2
    clear hb1 hb2
    go_wp2_with fail
    refine (ringFacs_at ((a : Int) * (b : Int)) (toI (facs (a * b))) 0 F3.out _ (by omega) (by omega)).mono ?_
    rintro _ w3 ⟨A3, c3, rfl, r3, hb3⟩
    have hB3 := bstep hB2 hb3
    replace r1 := r1.keep hb3
    replace r2 := r2.keep hb3
    clear hB2 hb3
    simp only [m1, m2, m3]
    go_wp2
    go_loopg [11, 12] (facs (a * b)).length (fun gk p i wr => ∃ (k P : Nat), k + gk = (facs (a * b)).length ∧ p = .int .i64 P ∧ i = .int .i64 k ∧ Hid (P = mulAll ((facs (a * b)).take k)) ∧ RI .i64 wr A1 (toI (facs a)) ∧ RI .i64 wr A2 (toI (facs b)) ∧ RI .i64 wr A3 (toI (facs (a * b))) ∧ Below w.heap.size w wr)
    case atStart => exact ⟨0, 1, by omega, rfl, rfl, Lib.hid rfl, r1, r2, r3, hB3⟩
    case round =>
      obtain ⟨k, P, hk, rfl, rfl, HP, rl, rm, rn, hb⟩ := hrel
      have hk' : k ≤ (facs (a * b)).length := by omega
      have HK := Lib.hid hk
      clear hk
      have hP : P ≤ a * b := by rw [HP.out]; have := take_prod HN.out.2.1 k; rw [HN.out.1] at this; exact this
      by_cases hlt : k < (facs (a * b)).length
      · obtain ⟨b1, off1, rfl, hlw1, hc1⟩ := rn.at2 (i := k) (by rw [m3]; exact hlt)
        rw [toI_at _ hlt] at hc1
        have hge := fac_ge hab1 hlt
        have hle := fac_le hab1 hlt
        have HQ := Lib.hid (show Pr ((facs (a * b)).getD k 0) by rw [getD_lt _ _ hlt]; exact HN.out.2.1 _ (List.getElem_mem hlt))
        have HS := Lib.hid (take_prod_succ hlt)
        have hP2 : P * (facs (a * b)).getD k 0 ≤ a * b := by rw [HP.out, ← HS.out]; have := take_prod HN.out.2.1 (k + 1); rw [HN.out.1] at this; exact this
        have HAS := Lib.hid (fun (h0 : 0 < k) => show (facs (a * b)).getD (k - 1) 0 ≤ (facs (a * b)).getD k 0 by
          rw [getD_lt _ _ hlt, getD_lt _ _ (show k - 1 < (facs (a * b)).length by omega)]
          exact List.pairwise_iff_getElem.1 HN.out.2.2 (k - 1) k (by omega) hlt (by omega))
        generalize hq : (facs (a * b)).getD k 0 = q at *
        have HQQ := Lib.hid hq
        clear hq
        have HCQ := Lib.hid (chk_yes HQ.out (by omega))
        have f2 := mul_wrap (x := P) (y := q) (by omega) (by omega)
        obtain ⟨gu, hgu⟩ : ∃ gu, gu = gk := ⟨gk, rfl⟩
        have HGU := Lib.hid hgu
        clear hgu
        by_cases h0 : k = 0
        · have d1 : decide (0 < k) = false := decide_eq_false (by omega)
          have d2 : decide ((0 : Int) < (k : Int)) = false := decide_eq_false (by omega)
          clear h0
          go_wp2
          refine wp_region_tab (by kernel_rfl) (by kernel_rfl) (by kernel_rfl) (by kernel_rfl) (ringT (.slice (some ⟨b1, off1, none⟩) (facs (a * b)).length c3) (.int .i64 (k : Int)) (.pointer (some ⟨b1, off1 + k, none⟩)) (.int .i64 (q : Int))) ⟨?_, ?_, ?_, ?_, ?_, ?_, ?_, ?_, ?_, ?_, ?_, ?_, ?_, ?_, ?_, ?_, ?_, ?_, ?_, ?_, ?_, ?_, trivial⟩ ?_
          · exact tab_move rfl (by kernel_rfl) (by kernel_rfl) (by kernel_rfl)
          · exact tab_move rfl (by kernel_rfl) (by kernel_rfl) (by kernel_rfl)
          · exact tab_index rfl (by kernel_rfl) (by kernel_rfl) (by kernel_rfl) (by kernel_rfl) (fun w => ring_idx (c := c3) hlt)
          · exact tab_load rfl (by kernel_rfl) (by kernel_rfl) (by kernel_rfl) (fun w' hb' => ring_ld ((hb'.cell (p := ⟨b1, off1 + k, none⟩) hlw1).trans hc1))
          · exact tab_call rfl (by kernel_rfl) (by kernel_rfl) (by kernel_rfl) Try.call14 (fun w' hb' => ringCheck_at (q : Int) 0 HCQ.out _ (by omega) (by omega))
          · exact tab_bin rfl (by kernel_rfl) (by kernel_rfl) (k := .i64) (k' := .i64) (m := 0) (n := 0) (by kernel_rfl) (by kernel_rfl) (fun w => ring_ne)
          · exact tab_move rfl (by kernel_rfl) (by kernel_rfl) (by kernel_rfl)
          · exact tab_move rfl (by kernel_rfl) (by kernel_rfl) (by kernel_rfl)
          · exact tab_bin rfl (by kernel_rfl) (by kernel_rfl) (k := .i64) (k' := .i64) (m := (k : Int)) (n := 0) (by kernel_rfl) (by kernel_rfl) (fun w => ring_gt d2)
          · exact tab_move rfl (by kernel_rfl) (by kernel_rfl) (by kernel_rfl)
          · exact tab_not (by kernel_rfl) (by kernel_rfl)
          · exact tab_not (by kernel_rfl) (by kernel_rfl)
          · exact tab_not (by kernel_rfl) (by kernel_rfl)
          · exact tab_not (by kernel_rfl) (by kernel_rfl)
          · exact tab_not (by kernel_rfl) (by kernel_rfl)
          · exact tab_not (by kernel_rfl) (by kernel_rfl)
          · exact tab_not (by kernel_rfl) (by kernel_rfl)
          · exact tab_not (by kernel_rfl) (by kernel_rfl)
          · exact tab_not (by kernel_rfl) (by kernel_rfl)
          · exact tab_not (by kernel_rfl) (by kernel_rfl)
          · exact tab_pick rfl (by kernel_rfl) (by kernel_rfl) false (by kernel_rfl) (by kernel_rfl)
          · exact tab_pick rfl (by kernel_rfl) (by kernel_rfl) false (by kernel_rfl) (by kernel_rfl)
          intro wx hbx'
          have hbx : Below wr.drew.heap.size wr.drew wx := ⟨hbx'.os, hbx'.tape, hbx'.output, hbx'.size, hbx'.block⟩
          clear hbx'
          simp only [putL, ringT, Act.put, List.setIfInBounds_toArray, List.set_cons_zero, List.set_cons_succ]
          have hc5 : wx.cell? ⟨b1, off1 + k, none⟩ = some (.int .i64 (q : Int)) := (hbx.cell (p := ⟨b1, off1 + k, none⟩) hlw1).trans hc1
          have hBx : Below w.heap.size w wx := bstep hb.drew hbx
          have rl5 := (rl.keep (Below.refl wr.heap.size wr).drew).keep hbx
          have rm5 := (rm.keep (Below.refl wr.heap.size wr).drew).keep hbx
          have rn5 := (rn.keep (Below.refl wr.heap.size wr).drew).keep hbx
          clear rl rm rn hc1
          have hcA : (facs a).count q ≤ 31 := by have := List.count_le_length (a := q) (l := facs a); omega
          have hcB : (facs b).count q ≤ 31 := by have := List.count_le_length (a := q) (l := facs b); omega
          go_wp2
          go_loopg [13, 14] (facs a).length (fun gk c i wr => ∃ (j t : Nat) (C : Int), j + gk = (facs a).length ∧ c = .int .i64 C ∧ i = .int .i64 j ∧ wr = wx.drewN t ∧ -1000 ≤ C ∧ C ≤ 1000 ∧ Hid (C = 0 + (((facs a).take j).count q : Int)))
          case atStart => exact ⟨0, 0, 0, by omega, rfl, rfl, rfl, by omega, by omega, Lib.hid (by simp)⟩
          case round =>
            obtain ⟨j, t, C, hj, rfl, rfl, rfl, hC1, hC2, HC⟩ := hrel
            have hj' : j ≤ (facs a).length := by omega
            have HJ := Lib.hid hj
            clear hj
            by_cases hlt2 : j < (facs a).length
            · obtain ⟨b2, off2, e2, hlw2, hc2⟩ := rl5.at2 (i := j) (by rw [toI_len]; exact hlt2)
              first
                | subst e2
                | (obtain ⟨rfl, rfl⟩ : b1 = b2 ∧ off1 = off2 := by (injection e2 with e2; injection e2 with e3 e4; exact ⟨e3, e4⟩)
                   clear e2)
              rw [toI_at _ hlt2] at hc2
              have htc := take_count q hlt2
              have htl : ((facs a).take (j + 1)).count q ≤ 31 := by
                have h1 := List.count_le_length (a := q) (l := (facs a).take (j + 1))
                have h2 : ((facs a).take (j + 1)).length ≤ (facs a).length := by rw [List.length_take]; exact Nat.min_le_right _ _
                omega
              have HTC := Lib.hid htc
              have HTL := Lib.hid htl
              clear htc htl
              generalize hy : (facs a).getD j 0 = Y at *
              clear hy
              by_cases hYq : Y = q
              · have g1 : ((Y : Int) == (q : Int)) = true := by rw [hYq]; simp
                have hN : ((facs a).take (j + 1)).count q = ((facs a).take j).count q + 1 := by rw [HTC.out, if_pos hYq]
                have HCN := Lib.hid (show (C + 1) = 0 + (((facs a).take (j + 1)).count q : Int) by have := HC.out; omega)
                have hbd1 : -1000 ≤ (C + 1) ∧ (C + 1) ≤ 1000 := by have := HCN.out; have := HTL.out; omega
                clear hN hYq
                go_wp2
                go_quiet (fail)
                go_wp2
                go_roundg (gk - 1)
                case rel => exact ⟨j + 1, _, (C + 1), by have := HJ.out; omega, by go_num, by go_num, rfl, hbd1.1, hbd1.2, HCN⟩
                case measure => have := HJ.out; omega
              · have g1 : ((Y : Int) == (q : Int)) = false := by rw [beq_eq_false_iff_ne]; omega
                have hN : ((facs a).take (j + 1)).count q = ((facs a).take j).count q := by rw [HTC.out, if_neg hYq]; rfl
                have HCN := Lib.hid (show C = 0 + (((facs a).take (j + 1)).count q : Int) by have := HC.out; omega)
                clear hN hYq
                go_wp2
                go_quiet (fail)
                go_wp2
                go_roundg (gk - 1)
                case rel => exact ⟨j + 1, _, C, by have := HJ.out; omega, rfl, by go_num, rfl, hC1, hC2, HCN⟩
                case measure => have := HJ.out; omega
            · have HC2 := Lib.hid (show C = ((facs a).count q : Int) by have := HC.out; rw [show j = (facs a).length by omega, List.take_length] at this; omega)
              clear HC HJ
              go_wp2
              go_loopg [13, 15] (facs b).length (fun gk c i wr => ∃ (j t : Nat) (C : Int), j + gk = (facs b).length ∧ c = .int .i64 C ∧ i = .int .i64 j ∧ wr = wx.drewN t ∧ -1000 ≤ C ∧ C ≤ 1000 ∧ Hid (C = ((facs a).count q : Int) + (((facs b).take j).count q : Int)))
              case atStart => exact ⟨0, _, C, by omega, rfl, rfl, rfl, hC1, hC2, Lib.hid (by rw [HC2.out]; simp)⟩
              case round =>
                clear HC2
                obtain ⟨j, t, C, hj, rfl, rfl, rfl, hC1, hC2, HC⟩ := hrel
                have hj' : j ≤ (facs b).length := by omega
                have HJ := Lib.hid hj
                clear hj
                by_cases hlt2 : j < (facs b).length
                · obtain ⟨b2, off2, e2, hlw2, hc2⟩ := rm5.at2 (i := j) (by rw [toI_len]; exact hlt2)
                  first
                    | subst e2
                    | (obtain ⟨rfl, rfl⟩ : b1 = b2 ∧ off1 = off2 := by (injection e2 with e2; injection e2 with e3 e4; exact ⟨e3, e4⟩)
                       clear e2)
                  rw [toI_at _ hlt2] at hc2
                  have htc := take_count q hlt2
                  have htl : ((facs b).take (j + 1)).count q ≤ 31 := by
                    have h1 := List.count_le_length (a := q) (l := (facs b).take (j + 1))
                    have h2 : ((facs b).take (j + 1)).length ≤ (facs b).length := by rw [List.length_take]; exact Nat.min_le_right _ _
                    omega
                  have HTC := Lib.hid htc
                  have HTL := Lib.hid htl
                  clear htc htl
                  generalize hy : (facs b).getD j 0 = Y at *
                  clear hy
                  by_cases hYq : Y = q
                  · have g1 : ((Y : Int) == (q : Int)) = true := by rw [hYq]; simp
                    have hN : ((facs b).take (j + 1)).count q = ((facs b).take j).count q + 1 := by rw [HTC.out, if_pos hYq]
                    have HCN := Lib.hid (show (C + 1) = ((facs a).count q : Int) + (((facs b).take (j + 1)).count q : Int) by have := HC.out; omega)
                    have hbd1 : -1000 ≤ (C + 1) ∧ (C + 1) ≤ 1000 := by have := HCN.out; have := HTL.out; omega
                    clear hN hYq
                    go_wp2
                    go_quiet (fail)
                    go_wp2
                    go_roundg (gk - 1)
                    case rel => exact ⟨j + 1, _, (C + 1), by have := HJ.out; omega, by go_num, by go_num, rfl, hbd1.1, hbd1.2, HCN⟩
                    case measure => have := HJ.out; omega
                  · have g1 : ((Y : Int) == (q : Int)) = false := by rw [beq_eq_false_iff_ne]; omega
                    have hN : ((facs b).take (j + 1)).count q = ((facs b).take j).count q := by rw [HTC.out, if_neg hYq]; rfl
                    have HCN := Lib.hid (show C = ((facs a).count q : Int) + (((facs b).take (j + 1)).count q : Int) by have := HC.out; omega)
                    clear hN hYq
                    go_wp2
                    go_quiet (fail)
                    go_wp2
                    go_roundg (gk - 1)
                    case rel => exact ⟨j + 1, _, C, by have := HJ.out; omega, rfl, by go_num, rfl, hC1, hC2, HCN⟩
                    case measure => have := HJ.out; omega
                · have HC3 := Lib.hid (show C = ((facs a).count q : Int) + ((facs b).count q : Int) by have := HC.out; rw [show j = (facs b).length by omega, List.take_length] at this; omega)
                  clear HC HJ
                  go_wp2
                  go_loopg [13, 16] (facs (a * b)).length (fun gk c i wr => ∃ (j t : Nat) (C : Int), j + gk = (facs (a * b)).length ∧ c = .int .i64 C ∧ i = .int .i64 j ∧ wr = wx.drewN t ∧ -1000 ≤ C ∧ C ≤ 1000 ∧ Hid (C = ((facs a).count q : Int) + ((facs b).count q : Int) - (((facs (a * b)).take j).count q : Int)))
                  case atStart => exact ⟨0, _, C, by omega, rfl, rfl, rfl, hC1, hC2, Lib.hid (by rw [HC3.out]; simp)⟩
                  case round =>
                    clear HC3
                    obtain ⟨j, t, C, hj, rfl, rfl, rfl, hC1, hC2, HC⟩ := hrel
                    have hj' : j ≤ (facs (a * b)).length := by omega
                    have HJ := Lib.hid hj
                    clear hj
                    by_cases hlt2 : j < (facs (a * b)).length
                    · obtain ⟨b2, off2, e2, hlw2, hc2⟩ := rn5.at2 (i := j) (by rw [toI_len]; exact hlt2)
                      first
                        | subst e2
                        | (obtain ⟨rfl, rfl⟩ : b1 = b2 ∧ off1 = off2 := by (injection e2 with e2; injection e2 with e3 e4; exact ⟨e3, e4⟩)
                           clear e2)
                      rw [toI_at _ hlt2] at hc2
                      have htc := take_count q hlt2
                      have htl : ((facs (a * b)).take (j + 1)).count q ≤ 31 := by
                        have h1 := List.count_le_length (a := q) (l := (facs (a * b)).take (j + 1))
                        have h2 : ((facs (a * b)).take (j + 1)).length ≤ (facs (a * b)).length := by rw [List.length_take]; exact Nat.min_le_right _ _
                        omega
                      have HTC := Lib.hid htc
                      have HTL := Lib.hid htl
                      clear htc htl
                      generalize hy : (facs (a * b)).getD j 0 = Y at *
                      clear hy
                      by_cases hYq : Y = q
                      · have g1 : ((Y : Int) == (q : Int)) = true := by rw [hYq]; simp
                        have hN : ((facs (a * b)).take (j + 1)).count q = ((facs (a * b)).take j).count q + 1 := by rw [HTC.out, if_pos hYq]
                        have HCN := Lib.hid (show (C - 1) = ((facs a).count q : Int) + ((facs b).count q : Int) - (((facs (a * b)).take (j + 1)).count q : Int) by have := HC.out; omega)
                        have hbd1 : -1000 ≤ (C - 1) ∧ (C - 1) ≤ 1000 := by have := HCN.out; have := HTL.out; omega
                        clear hN hYq
                        go_wp2
                        go_quiet (fail)
                        go_wp2
                        go_roundg (gk - 1)
                        case rel => exact ⟨j + 1, _, (C - 1), by have := HJ.out; omega, by go_num, by go_num, rfl, hbd1.1, hbd1.2, HCN⟩
                        case measure => have := HJ.out; omega
                      · have g1 : ((Y : Int) == (q : Int)) = false := by rw [beq_eq_false_iff_ne]; omega
                        have hN : ((facs (a * b)).take (j + 1)).count q = ((facs (a * b)).take j).count q := by rw [HTC.out, if_neg hYq]; rfl
                        have HCN := Lib.hid (show C = ((facs a).count q : Int) + ((facs b).count q : Int) - (((facs (a * b)).take (j + 1)).count q : Int) by have := HC.out; omega)
                        clear hN hYq
                        go_wp2
                        go_quiet (fail)
                        go_wp2
                        go_roundg (gk - 1)
                        case rel => exact ⟨j + 1, _, C, by have := HJ.out; omega, rfl, by go_num, rfl, hC1, hC2, HCN⟩
                        case measure => have := HJ.out; omega
                    · have hC0 : C = 0 := by
                        have h1 := HC.out
                        have h2 := HCT.out q
                        rw [show j = (facs (a * b)).length by omega, List.take_length] at h1
                        omega
                      have g1 : (C != 0) = false := by rw [hC0]; rfl
                      clear hC0
                      go_wp2
                      go_roundg (gu - 1)
                      case rel => exact ⟨k + 1, P * q, by have := HK.out; have := HGU.out; omega, rfl, by go_num, Lib.hid (by rw [HS.out, ← HP.out]), rl5.keep (below_drewN (Below.refl _ _) _), rm5.keep (below_drewN (Below.refl _ _) _), rn5.keep (below_drewN (Below.refl _ _) _), below_drewN hBx _⟩
                      case measure => have := HK.out; have := HGU.out; omega
        · have d1 : decide (0 < k) = true := decide_eq_true (by omega)
          have d2 : decide ((0 : Int) < (k : Int)) = true := decide_eq_true (by omega)
          have hk1 : k - 1 < (facs (a * b)).length := by omega
          obtain ⟨b4, off4, e4, _, hcp⟩ := rn.at2 (i := k - 1) (by rw [m3]; exact hk1)
          obtain ⟨rfl, rfl⟩ : b1 = b4 ∧ off1 = off4 := by injection e4 with e4; injection e4 with e1 e2; exact ⟨e1, e2⟩
          rw [toI_at _ hk1] at hcp
          have has := HAS.out (by omega)
          generalize (facs (a * b)).getD (k - 1) 0 = q' at *
          have k1 : IntKind.i64.wrap ((k : Int) - 1) = (k : Int) - 1 := IntWalk.i64_in _ (by omega)
          have k2 : ((k : Int) - 1).toNat = k - 1 := by omega
          have k3 : 0 ≤ (k : Int) - 1 := by omega
          have k4 : (k : Int) - 1 < (facs (a * b)).length := by omega
          have k5 : 1 ≤ (k : Int) := by omega
          have k6 : 1 ≤ k := by omega
          have k7 : decide ((q : Int) < (q' : Int)) = false := decide_eq_false (by omega)
          have k8 : decide (q < q') = false := decide_eq_false (by omega)
          clear h0 e4
          go_wp2
          go_region_held3 (fun w' => w'.cell? ⟨b1, off1 + k, none⟩ = some (.int .i64 (q : Int)) ∧ w'.cell? ⟨b1, off1 + (k - 1), none⟩ = some (.int .i64 (q' : Int))) (first | go_keep | exact ⟨hc5, hc6⟩)
            ((go_at_call 14; refine (ringCheck_at (q : Int) 0 HCQ.out _ (by omega) (by omega)).mono ?_; rintro e wx ⟨rfl, hbx⟩; have hc5 : wx.cell? ⟨b1, off1 + k, none⟩ = some (.int .i64 (q : Int)) := (hbx.cell (p := ⟨b1, off1 + k, none⟩) hlw1).trans hc1; have hc6 : wx.cell? ⟨b1, off1 + (k - 1), none⟩ = some (.int .i64 (q' : Int)) := (hbx.cell (p := ⟨b1, off1 + (k - 1), none⟩) hlw1).trans hcp))
          have hBx : Below w.heap.size w wx := bstep hb.drew hbx
          have rl5 := (rl.keep (Below.refl wr.heap.size wr).drew).keep hbx
          have rm5 := (rm.keep (Below.refl wr.heap.size wr).drew).keep hbx
          have rn5 := (rn.keep (Below.refl wr.heap.size wr).drew).keep hbx
          clear rl rm rn hc1
          have hcA : (facs a).count q ≤ 31 := by have := List.count_le_length (a := q) (l := facs a); omega
          have hcB : (facs b).count q ≤ 31 := by have := List.count_le_length (a := q) (l := facs b); omega
          go_wp2
          go_loopg [13, 14] (facs a).length (fun gk c i wr => ∃ (j t : Nat) (C : Int), j + gk = (facs a).length ∧ c = .int .i64 C ∧ i = .int .i64 j ∧ wr = wx.drewN t ∧ -1000 ≤ C ∧ C ≤ 1000 ∧ Hid (C = 0 + (((facs a).take j).count q : Int)))
          case atStart => exact ⟨0, 0, 0, by omega, rfl, rfl, rfl, by omega, by omega, Lib.hid (by simp)⟩
          case round =>
            obtain ⟨j, t, C, hj, rfl, rfl, rfl, hC1, hC2, HC⟩ := hrel
            have hj' : j ≤ (facs a).length := by omega
            have HJ := Lib.hid hj
            clear hj
            by_cases hlt2 : j < (facs a).length
            · obtain ⟨b2, off2, e2, hlw2, hc2⟩ := rl5.at2 (i := j) (by rw [toI_len]; exact hlt2)
              first
                | subst e2
                | (obtain ⟨rfl, rfl⟩ : b1 = b2 ∧ off1 = off2 := by (injection e2 with e2; injection e2 with e3 e4; exact ⟨e3, e4⟩)
                   clear e2)
              rw [toI_at _ hlt2] at hc2
              have htc := take_count q hlt2
              have htl : ((facs a).take (j + 1)).count q ≤ 31 := by
                have h1 := List.count_le_length (a := q) (l := (facs a).take (j + 1))
                have h2 : ((facs a).take (j + 1)).length ≤ (facs a).length := by rw [List.length_take]; exact Nat.min_le_right _ _
                omega
              have HTC := Lib.hid htc
              have HTL := Lib.hid htl
              clear htc htl
              generalize hy : (facs a).getD j 0 = Y at *
              clear hy
              by_cases hYq : Y = q
              · have g1 : ((Y : Int) == (q : Int)) = true := by rw [hYq]; simp
                have hN : ((facs a).take (j + 1)).count q = ((facs a).take j).count q + 1 := by rw [HTC.out, if_pos hYq]
                have HCN := Lib.hid (show (C + 1) = 0 + (((facs a).take (j + 1)).count q : Int) by have := HC.out; omega)
                have hbd1 : -1000 ≤ (C + 1) ∧ (C + 1) ≤ 1000 := by have := HCN.out; have := HTL.out; omega
                clear hN hYq
                go_wp2
                go_quiet (fail)
                go_wp2
                go_roundg (gk - 1)
                case rel => exact ⟨j + 1, _, (C + 1), by have := HJ.out; omega, by go_num, by go_num, rfl, hbd1.1, hbd1.2, HCN⟩
                case measure => have := HJ.out; omega
              · have g1 : ((Y : Int) == (q : Int)) = false := by rw [beq_eq_false_iff_ne]; omega
                have hN : ((facs a).take (j + 1)).count q = ((facs a).take j).count q := by rw [HTC.out, if_neg hYq]; rfl
                have HCN := Lib.hid (show C = 0 + (((facs a).take (j + 1)).count q : Int) by have := HC.out; omega)
                clear hN hYq
                go_wp2
                go_quiet (fail)
                go_wp2
                go_roundg (gk - 1)
                case rel => exact ⟨j + 1, _, C, by have := HJ.out; omega, rfl, by go_num, rfl, hC1, hC2, HCN⟩
                case measure => have := HJ.out; omega
            · have HC2 := Lib.hid (show C = ((facs a).count q : Int) by have := HC.out; rw [show j = (facs a).length by omega, List.take_length] at this; omega)
              clear HC HJ
              go_wp2
              go_loopg [13, 15] (facs b).length (fun gk c i wr => ∃ (j t : Nat) (C : Int), j + gk = (facs b).length ∧ c = .int .i64 C ∧ i = .int .i64 j ∧ wr = wx.drewN t ∧ -1000 ≤ C ∧ C ≤ 1000 ∧ Hid (C = ((facs a).count q : Int) + (((facs b).take j).count q : Int)))
              case atStart => exact ⟨0, _, C, by omega, rfl, rfl, rfl, hC1, hC2, Lib.hid (by rw [HC2.out]; simp)⟩
              case round =>
                clear HC2
                obtain ⟨j, t, C, hj, rfl, rfl, rfl, hC1, hC2, HC⟩ := hrel
                have hj' : j ≤ (facs b).length := by omega
                have HJ := Lib.hid hj
                clear hj
                by_cases hlt2 : j < (facs b).length
                · obtain ⟨b2, off2, e2, hlw2, hc2⟩ := rm5.at2 (i := j) (by rw [toI_len]; exact hlt2)
                  first
                    | subst e2
                    | (obtain ⟨rfl, rfl⟩ : b1 = b2 ∧ off1 = off2 := by (injection e2 with e2; injection e2 with e3 e4; exact ⟨e3, e4⟩)
                       clear e2)
                  rw [toI_at _ hlt2] at hc2
                  have htc := take_count q hlt2
                  have htl : ((facs b).take (j + 1)).count q ≤ 31 := by
                    have h1 := List.count_le_length (a := q) (l := (facs b).take (j + 1))
                    have h2 : ((facs b).take (j + 1)).length ≤ (facs b).length := by rw [List.length_take]; exact Nat.min_le_right _ _
                    omega
                  have HTC := Lib.hid htc
                  have HTL := Lib.hid htl
                  clear htc htl
                  generalize hy : (facs b).getD j 0 = Y at *
                  clear hy
                  by_cases hYq : Y = q
                  · have g1 : ((Y : Int) == (q : Int)) = true := by rw [hYq]; simp
                    have hN : ((facs b).take (j + 1)).count q = ((facs b).take j).count q + 1 := by rw [HTC.out, if_pos hYq]
                    have HCN := Lib.hid (show (C + 1) = ((facs a).count q : Int) + (((facs b).take (j + 1)).count q : Int) by have := HC.out; omega)
                    have hbd1 : -1000 ≤ (C + 1) ∧ (C + 1) ≤ 1000 := by have := HCN.out; have := HTL.out; omega
                    clear hN hYq
                    go_wp2
                    go_quiet (fail)
                    go_wp2
                    go_roundg (gk - 1)
                    case rel => exact ⟨j + 1, _, (C + 1), by have := HJ.out; omega, by go_num, by go_num, rfl, hbd1.1, hbd1.2, HCN⟩
                    case measure => have := HJ.out; omega
                  · have g1 : ((Y : Int) == (q : Int)) = false := by rw [beq_eq_false_iff_ne]; omega
                    have hN : ((facs b).take (j + 1)).count q = ((facs b).take j).count q := by rw [HTC.out, if_neg hYq]; rfl
                    have HCN := Lib.hid (show C = ((facs a).count q : Int) + (((facs b).take (j + 1)).count q : Int) by have := HC.out; omega)
                    clear hN hYq
                    go_wp2
                    go_quiet (fail)
                    go_wp2
                    go_roundg (gk - 1)
                    case rel => exact ⟨j + 1, _, C, by have := HJ.out; omega, rfl, by go_num, rfl, hC1, hC2, HCN⟩
                    case measure => have := HJ.out; omega
                · have HC3 := Lib.hid (show C = ((facs a).count q : Int) + ((facs b).count q : Int) by have := HC.out; rw [show j = (facs b).length by omega, List.take_length] at this; omega)
                  clear HC HJ
                  go_wp2
                  go_loopg [13, 16] (facs (a * b)).length (fun gk c i wr => ∃ (j t : Nat) (C : Int), j + gk = (facs (a * b)).length ∧ c = .int .i64 C ∧ i = .int .i64 j ∧ wr = wx.drewN t ∧ -1000 ≤ C ∧ C ≤ 1000 ∧ Hid (C = ((facs a).count q : Int) + ((facs b).count q : Int) - (((facs (a * b)).take j).count q : Int)))
                  case atStart => exact ⟨0, _, C, by omega, rfl, rfl, rfl, hC1, hC2, Lib.hid (by rw [HC3.out]; simp)⟩
                  case round =>
                    clear HC3
                    obtain ⟨j, t, C, hj, rfl, rfl, rfl, hC1, hC2, HC⟩ := hrel
                    have hj' : j ≤ (facs (a * b)).length := by omega
                    have HJ := Lib.hid hj
                    clear hj
                    by_cases hlt2 : j < (facs (a * b)).length
                    · obtain ⟨b2, off2, e2, hlw2, hc2⟩ := rn5.at2 (i := j) (by rw [toI_len]; exact hlt2)
                      first
                        | subst e2
                        | (obtain ⟨rfl, rfl⟩ : b1 = b2 ∧ off1 = off2 := by (injection e2 with e2; injection e2 with e3 e4; exact ⟨e3, e4⟩)
                           clear e2)
                      rw [toI_at _ hlt2] at hc2
                      have htc := take_count q hlt2
                      have htl : ((facs (a * b)).take (j + 1)).count q ≤ 31 := by
                        have h1 := List.count_le_length (a := q) (l := (facs (a * b)).take (j + 1))
                        have h2 : ((facs (a * b)).take (j + 1)).length ≤ (facs (a * b)).length := by rw [List.length_take]; exact Nat.min_le_right _ _
                        omega
                      have HTC := Lib.hid htc
                      have HTL := Lib.hid htl
                      clear htc htl
                      generalize hy : (facs (a * b)).getD j 0 = Y at *
                      clear hy
                      by_cases hYq : Y = q
                      · have g1 : ((Y : Int) == (q : Int)) = true := by rw [hYq]; simp
                        have hN : ((facs (a * b)).take (j + 1)).count q = ((facs (a * b)).take j).count q + 1 := by rw [HTC.out, if_pos hYq]
                        have HCN := Lib.hid (show (C - 1) = ((facs a).count q : Int) + ((facs b).count q : Int) - (((facs (a * b)).take (j + 1)).count q : Int) by have := HC.out; omega)
                        have hbd1 : -1000 ≤ (C - 1) ∧ (C - 1) ≤ 1000 := by have := HCN.out; have := HTL.out; omega
                        clear hN hYq
                        go_wp2
                        go_quiet (fail)
                        go_wp2
                        go_roundg (gk - 1)
                        case rel => exact ⟨j + 1, _, (C - 1), by have := HJ.out; omega, by go_num, by go_num, rfl, hbd1.1, hbd1.2, HCN⟩
                        case measure => have := HJ.out; omega
                      · have g1 : ((Y : Int) == (q : Int)) = false := by rw [beq_eq_false_iff_ne]; omega
                        have hN : ((facs (a * b)).take (j + 1)).count q = ((facs (a * b)).take j).count q := by rw [HTC.out, if_neg hYq]; rfl
                        have HCN := Lib.hid (show C = ((facs a).count q : Int) + ((facs b).count q : Int) - (((facs (a * b)).take (j + 1)).count q : Int) by have := HC.out; omega)
                        clear hN hYq
                        go_wp2
                        go_quiet (fail)
                        go_wp2
                        go_roundg (gk - 1)
                        case rel => exact ⟨j + 1, _, C, by have := HJ.out; omega, rfl, by go_num, rfl, hC1, hC2, HCN⟩
                        case measure => have := HJ.out; omega
                    · have hC0 : C = 0 := by
                        have h1 := HC.out
                        have h2 := HCT.out q
                        rw [show j = (facs (a * b)).length by omega, List.take_length] at h1
                        omega
                      have g1 : (C != 0) = false := by rw [hC0]; rfl
                      clear hC0
                      go_wp2
                      go_roundg (gu - 1)
                      case rel => exact ⟨k + 1, P * q, by have := HK.out; have := HGU.out; omega, rfl, by go_num, Lib.hid (by rw [HS.out, ← HP.out]), rl5.keep (below_drewN (Below.refl _ _) _), rm5.keep (below_drewN (Below.refl _ _) _), rn5.keep (below_drewN (Below.refl _ _) _), below_drewN hBx _⟩
                      case measure => have := HK.out; have := HGU.out; omega
      · have hP9 : P = a * b := by rw [HP.out, show k = (facs (a * b)).length by omega, List.take_length]; exact HN.out.1
        have f5 : ((P : Int) == (a : Int) * (b : Int)) = true := by rw [hP9, Int.natCast_mul]; simp
        clear hP9
        go_wp2_with fail
        refine (alive10_any _).mono ?_
        rintro _ w9 ⟨rfl, hb9⟩
        go_wp2
        go_ret
        exact ⟨by simp, bstep hb hb9⟩
end Go.Proofs.Ytnngkghmhbcgeaa
