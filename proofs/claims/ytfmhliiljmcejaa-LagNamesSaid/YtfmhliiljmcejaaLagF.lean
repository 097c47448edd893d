/-
  Contracts: lag.Add, fringeref16.Add.
-/
import Derived.Test.YtfmhliiljmcejaaLagE
namespace Go.Proofs.Ytfmhliiljmcejaa
open Go.RowKit
set_option linter.unusedVariables false

def addP (a b : List (Int × Int)) : List (Int × Int) := List.zipWith (fun x y => (x.1 + y.1, x.2 + y.2)) a b
def addSpec (a b : List (Int × Int)) : List (Int × Int) × Int :=
  if lagErr a ≠ 0 then ([], lagErr a) else if lagErr b ≠ 0 then ([], lagErr b) else if a.length ≠ b.length then ([], 2) else if (addP a b).all (fun x => decide (x.2 ≤ 256)) then (addP a b, 0) else ([], 4)
theorem addSpec_a {a b : List (Int × Int)} (h : ¬ lagErr a = 0) : addSpec a b = ([], lagErr a) := by simp [addSpec, h]
theorem addSpec_b {a b : List (Int × Int)} (h0 : lagErr a = 0) (h : ¬ lagErr b = 0) : addSpec a b = ([], lagErr b) := by simp [addSpec, h, h0]
theorem addSpec_len {a b : List (Int × Int)} (h0 : lagErr a = 0) (h1 : lagErr b = 0) (h : ¬ a.length = b.length) : addSpec a b = ([], 2) := by simp [addSpec, h, h0, h1]
theorem addP_len {a b : List (Int × Int)} (h : a.length = b.length) : (addP a b).length = a.length := by simp [addP, h]
theorem addP_at {a b : List (Int × Int)} {k : Nat} (h1 : k < a.length) (h2 : k < b.length) (h3 : k < (addP a b).length) : (addP a b)[k] = (a[k].1 + b[k].1, a[k].2 + b[k].2) := by simp [addP]
theorem addSpec_many {a b : List (Int × Int)} {k : Nat} (h0 : lagErr a = 0) (h1 : lagErr b = 0) (h : a.length = b.length) (hk : k < a.length) (hk2 : k < b.length) (hb : 256 < a[k].2 + b[k].2) : addSpec a b = ([], 4) := by
  have h2 : (addP a b).all (fun x => decide (x.2 ≤ 256)) = false := by
    rw [Bool.eq_false_iff]
    intro h3
    rw [List.all_eq_true] at h3
    have h4 := h3 _ (List.getElem_mem (show k < (addP a b).length by rw [addP_len h]; exact hk))
    rw [addP_at hk hk2] at h4
    simp at h4
    omega
  simp [addSpec, h, h0, h1, h2]
theorem addSpec_ok {a b : List (Int × Int)} (h0 : lagErr a = 0) (h1 : lagErr b = 0) (h : a.length = b.length) (h2 : ∀ x ∈ addP a b, x.2 ≤ 256) : addSpec a b = (addP a b, 0) := by
  have h3 : (addP a b).all (fun x => decide (x.2 ≤ 256)) = true := by simpa using h2
  simp [addSpec, h, h0, h1, h3]
def addPart (a b : List (Int × Int)) (k : Nat) : List (Int × Int) := (addP a b).take k ++ List.replicate (a.length - k) (0, 0)
theorem addPart_len {a b : List (Int × Int)} {k : Nat} (h : a.length = b.length) (hk : k ≤ a.length) : (addPart a b k).length = a.length := by simp [addPart, addP, h]; omega
theorem addPart_succ {a b : List (Int × Int)} {k : Nat} (h : a.length = b.length) (hk : k < a.length) (hk2 : k < b.length) : (addPart a b k).set k (a[k].1 + b[k].1, a[k].2 + b[k].2) = addPart a b (k + 1) := by
  have hl := addP_len h
  unfold addPart
  rw [List.take_succ_eq_append_getElem (show k < (addP a b).length by omega), addP_at hk hk2]
  obtain ⟨m, hm⟩ : ∃ m, a.length - k = m + 1 := ⟨a.length - k - 1, by omega⟩
  rw [List.set_append_right _ _ (by simp; omega), hm, show a.length - (k + 1) = m by omega, List.replicate_succ]
  simp [hl, Nat.min_eq_left (Nat.le_of_lt hk)]

theorem lagAdd_any (A B : Option Addr) (c d : Nat) (a b : List (Int × Int)) (w : World) (hx : RL w A a) (hy : RL w B b) (hl : a.length ≤ 140737488355328) (hl2 : b.length ≤ 140737488355328) :
    Calls Try.prog 20 #[.slice A a.length c, .slice B b.length d] w (RetP w (addSpec a b)) := by
  rcases (Decidable.em (lagErr a = 0)).symm with he | he
  · have e1 : (lagErr a != 0) = true := by simp [he]
    have HE := Lib.hid he
    clear he
    go_enter Try.func20, Try.ntmps20
    go_wp2_with fail
    refine (lagCheck_any _ _ _ _ hx hl).mono ?_
    rintro e w1 ⟨rfl, hb1⟩
    go_wp2
    go_ret2
    exact RetP.nil (addSpec_a HE.out) hb1
  have e1 : (lagErr a != 0) = false := by simp [he]
  have HE := Lib.hid he
  have hl5 := (lagErr_zero he).1
  clear he
  rcases (Decidable.em (lagErr b = 0)).symm with he | he
  · have e2 : (lagErr b != 0) = true := by simp [he]
    have HE2 := Lib.hid he
    clear he
    go_enter Try.func20, Try.ntmps20
    go_wp2_with fail
    refine (lagCheck_any _ _ _ _ hx hl).mono ?_
    rintro e w1 ⟨rfl, hb1⟩
    go_wp2_with fail
    refine (lagCheck_any _ _ _ _ (hy.keep hb1) hl2).mono ?_
    rintro e w2 ⟨rfl, hb2⟩
    go_wp2
    go_ret2
    exact RetP.nil (addSpec_b HE.out HE2.out) (hb1.trans (hb2.mono hb1.size))
  have e2 : (lagErr b != 0) = false := by simp [he]
  have HE2 := Lib.hid he
  clear he
  rcases (Decidable.em (a.length = b.length)).symm with hn | hn
  · have e3 : ((a.length : Int) != b.length) = true := by simp; omega
    go_enter Try.func20, Try.ntmps20
    go_wp2_with fail
    refine (lagCheck_any _ _ _ _ hx hl).mono ?_
    rintro e w1 ⟨rfl, hb1⟩
    go_wp2_with fail
    refine (lagCheck_any _ _ _ _ (hy.keep hb1) hl2).mono ?_
    rintro e w2 ⟨rfl, hb2⟩
    go_wp2
    go_ret2
    exact RetP.nil (addSpec_len HE.out HE2.out hn) (hb1.trans (hb2.mono hb1.size))
  have e3 : ((a.length : Int) != b.length) = false := by simp; omega
  have HN := Lib.hid hn
  have hn2 : a.length ≤ b.length := by omega
  clear hn
  obtain ⟨i0, hi0, hz0, hz1, hz2⟩ := info_parts info_lag
  have hmk := mk_row (P := Try.prog) 24 39 Try.underlying24 hi0 hz0 hz1 hz2 encP encP_len (by omega) (0, 0) rfl a.length (by omega) (by omega)
  go_enter Try.func20, Try.ntmps20
  go_wp2_with fail
  refine (lagCheck_any _ _ _ _ hx hl).mono ?_
  rintro e w1 ⟨rfl, hb1⟩
  go_wp2_with fail
  refine (lagCheck_any _ _ _ _ (hy.keep hb1) hl2).mono ?_
  rintro e w2 ⟨rfl, hb2⟩
  have hb12 := hb1.trans (hb2.mono hb1.size)
  have hsz := hb12.size
  go_wp2
  go_loopg [9, 30] a.length (fun gk _ i wr => ∃ k : Nat, k + gk = a.length ∧ i = .int .i64 k ∧ Blk wr w2.heap.size 39 ((addPart a b k).flatMap encP).toArray ∧ Below w.heap.size w wr ∧ Hid (∀ x ∈ (addP a b).take k, x.2 ≤ 256))
  case atStart => exact ⟨0, by omega, rfl, by simpa [addPart] using Blk.new w2 39 _, hb12.alloc hb12.size _, Lib.hid (by simp)⟩
  case round =>
    obtain ⟨k, hk, rfl, hO, hb, hall⟩ := hrel
    have hk' : k ≤ a.length := by omega
    have HK := Lib.hid hk
    clear hk
    by_cases hlt : k < a.length
    · have hlt2 : k < b.length := by omega
      obtain ⟨b1, off1, rfl, _, hc1, hc2⟩ := (hx.keep hb).at_ hlt
      obtain ⟨b2, off2, rfl, _, hd1, hd2⟩ := (hy.keep hb).at_ hlt2
      have ba := okLag_bd ((lagErr_zero HE.out).2.2 _ (List.getElem_mem hlt))
      have bb := okLag_bd ((lagErr_zero HE2.out).2.2 _ (List.getElem_mem hlt2))
      obtain ⟨o0, o1⟩ := blkP_at hO (j := k) (by rw [addPart_len HN.out hk']; omega)
      have p0 := hO.frozen (k * 2)
      have p1 := hO.frozen (k * 2 + 1)
      have hg := hO.lt
      have hO2 := (blkP_set hO (by rw [addPart_len HN.out hk']; omega) (a[k].1 + b[k].1, a[k].2 + b[k].2)).drew
      rw [addPart_succ HN.out hlt hlt2] at hO2
      go_wp2
      go_region
      all_goals go_wp2
      · have hq : 256 < a[k].2 + b[k].2 := by assumption
        go_ret2
        exact RetP.nil (addSpec_many HE.out HE2.out HN.out hlt hlt2 hq) ((hb.setCell (p := ⟨w2.heap.size, k * 2, none⟩) hsz _).setCell (p := ⟨w2.heap.size, k * 2 + 1, none⟩) hsz _).drew
      · have hq : a[k].2 + b[k].2 ≤ 256 := by assumption
        go_roundg (gk - 1)
        case rel => exact ⟨k + 1, by have := HK.out; omega, by go_num, hO2, ((hb.setCell (p := ⟨w2.heap.size, k * 2, none⟩) hsz _).setCell (p := ⟨w2.heap.size, k * 2 + 1, none⟩) hsz _).drew, Lib.hid (takeAll_snoc (by rw [addP_len HN.out]; exact hlt) hall.out (by rw [addP_at hlt hlt2]; exact hq))⟩
        case measure => have := HK.out; omega
    · go_wp2
      go_ret2
      have hkl : a.length = k := by omega
      have h5 : addPart a b k = addP a b := by simp [addPart, ← hkl, List.take_of_length_le (Nat.le_of_eq (addP_len HN.out))]
      rw [h5] at hO
      exact RetP.blk (addSpec_ok HE.out HE2.out HN.out (takeAll_end (by rw [addP_len HN.out]; omega) hall.out)) (addP_len HN.out) (by unfold maxLen; omega) hO hsz hb

theorem addP_take {a b : List (Int × Int)} {k : Nat} (h : a.length = b.length) (hk : k < a.length) (hk2 : k < b.length) : (addP a b).take k ++ [(a[k].1 + b[k].1, a[k].2 + b[k].2)] = (addP a b).take (k + 1) := by
  rw [List.take_succ_eq_append_getElem (show k < (addP a b).length by rw [addP_len h]; exact hk), addP_at hk hk2]

theorem refAdd_any (A B : Option Addr) (c d : Nat) (a b : List (Int × Int)) (w : World) (hx : RL w A a) (hy : RL w B b) (hl : a.length ≤ 140737488355328) (hl2 : b.length ≤ 140737488355328) :
    Calls Try.prog 21 #[.slice A a.length c, .slice B b.length d] w (RetP w (addSpec a b)) := by
  rcases (Decidable.em (lagErr a = 0)).symm with he | he
  · have e1 : (lagErr a != 0) = true := by simp [he]
    have HE := Lib.hid he
    clear he
    go_enter Try.func21, Try.ntmps21
    go_wp2_with fail
    refine (refCheck16_any _ _ _ _ hx hl).mono ?_
    rintro e w1 ⟨rfl, hb1⟩
    go_wp2_with fail
    refine (refCheck16_any _ _ _ _ (hx.keep hb1) hl).mono ?_
    rintro e w2 ⟨rfl, hb2⟩
    go_wp2
    go_ret2
    exact RetP.nil (addSpec_a HE.out) (hb1.trans (hb2.mono hb1.size))
  have e1 : (lagErr a != 0) = false := by simp [he]
  have HE := Lib.hid he
  have hl5 := (lagErr_zero he).1
  clear he
  rcases (Decidable.em (lagErr b = 0)).symm with he | he
  · have e2 : (lagErr b != 0) = true := by simp [he]
    have HE2 := Lib.hid he
    clear he
    go_enter Try.func21, Try.ntmps21
    go_wp2_with fail
    refine (refCheck16_any _ _ _ _ hx hl).mono ?_
    rintro e w1 ⟨rfl, hb1⟩
    go_wp2_with fail
    refine (refCheck16_any _ _ _ _ (hy.keep hb1) hl2).mono ?_
    rintro e w2 ⟨rfl, hb2⟩
    have hb12 := hb1.trans (hb2.mono hb1.size)
    go_wp2_with fail
    refine (refCheck16_any _ _ _ _ (hy.keep hb12) hl2).mono ?_
    rintro e w3 ⟨rfl, hb3⟩
    go_wp2
    go_ret2
    exact RetP.nil (addSpec_b HE.out HE2.out) (hb12.trans (hb3.mono hb12.size))
  have e2 : (lagErr b != 0) = false := by simp [he]
  have HE2 := Lib.hid he
  clear he
  rcases (Decidable.em (a.length = b.length)).symm with hn | hn
  · have e3 : ((a.length : Int) != b.length) = true := by simp; omega
    go_enter Try.func21, Try.ntmps21
    go_wp2_with fail
    refine (refCheck16_any _ _ _ _ hx hl).mono ?_
    rintro e w1 ⟨rfl, hb1⟩
    go_wp2_with fail
    refine (refCheck16_any _ _ _ _ (hy.keep hb1) hl2).mono ?_
    rintro e w2 ⟨rfl, hb2⟩
    go_wp2
    go_ret2
    exact RetP.nil (addSpec_len HE.out HE2.out hn) (hb1.trans (hb2.mono hb1.size))
  have e3 : ((a.length : Int) != b.length) = false := by simp; omega
  have HN := Lib.hid hn
  have hn2 : a.length ≤ b.length := by omega
  clear hn
  obtain ⟨i0, hi0, hz0, hz1, hz2⟩ := info_parts info_lag
  go_enter Try.func21, Try.ntmps21
  go_wp2_with fail
  refine (refCheck16_any _ _ _ _ hx hl).mono ?_
  rintro e w1 ⟨rfl, hb1⟩
  go_wp2_with fail
  refine (refCheck16_any _ _ _ _ (hy.keep hb1) hl2).mono ?_
  rintro e w2 ⟨rfl, hb2⟩
  have hb12 := hb1.trans (hb2.mono hb1.size)
  go_wp2
  go_loopg [6, 7] a.length (fun gk v i wr => ∃ k : Nat, k + gk = a.length ∧ i = .int .i64 k ∧ wr.ownsRow w.heap.size 39 2 v k (((addP a b).take k).flatMap encP) ∧ Below w.heap.size w wr ∧ Hid (∀ x ∈ (addP a b).take k, x.2 ≤ 256))
  case atStart => exact ⟨0, by omega, rfl, by simpa using World.ownsRow_nil _ _ _ _, hb12, Lib.hid (by simp)⟩
  case round =>
    obtain ⟨k, hk, rfl, hO, hb, hall⟩ := hrel
    have hk' : k ≤ a.length := by omega
    have HK := Lib.hid hk
    clear hk
    have hsz := hb.size
    by_cases hlt : k < a.length
    · have hlt2 : k < b.length := by omega
      obtain ⟨b1, off1, rfl, hlw1, hw1, hw2⟩ := hx.at_ hlt
      obtain ⟨b2, off2, rfl, hlw2, hw3, hw4⟩ := hy.at_ hlt2
      have ba := okLag_bd ((lagErr_zero HE.out).2.2 _ (List.getElem_mem hlt))
      have bb := okLag_bd ((lagErr_zero HE2.out).2.2 _ (List.getElem_mem hlt2))
      rw [getD_lt _ _ hlt] at hw1 hw2
      rw [getD_lt _ _ hlt2] at hw3 hw4
      have hc1 := (hb.cell (p := ⟨b1, _, none⟩) hlw1).trans hw1
      have hc2 := (hb.cell (p := ⟨b1, _, none⟩) hlw1).trans hw2
      have hd1 := (hb.cell (p := ⟨b2, _, none⟩) hlw2).trans hw3
      have hd2 := (hb.cell (p := ⟨b2, _, none⟩) hlw2).trans hw4
      have n1 := own_ne hO hlw1
      have n2 := own_ne hO hlw2
      go_wp2
      go_quiet (fail)
      go_wp2
      · go_ret2
        exact RetP.nil (addSpec_many HE.out HE2.out HN.out hlt hlt2 (by omega)) (below_drewN hb nq)
      · have f1 : IntKind.i64.wrap (a[k].1 + b[k].1) = a[k].1 + b[k].1 := IntWalk.i64_in _ (by omega)
        have f2 : IntKind.i64.wrap (a[k].2 + b[k].2) = a[k].2 + b[k].2 := IntWalk.i64_in _ (by omega)
        go_region_held3 (fun w' => w'.cell? ⟨b1, off1 + k * 2, none⟩ = some (.int .i64 a[k].1) ∧ w'.cell? ⟨b1, off1 + k * 2 + 1, none⟩ = some (.int .i64 a[k].2) ∧ w'.cell? ⟨b2, off2 + k * 2, none⟩ = some (.int .i64 b[k].1) ∧ w'.cell? ⟨b2, off2 + k * 2 + 1, none⟩ = some (.int .i64 b[k].2))
          (first
            | go_keep
            | exact ⟨(hb3.cell (p := ⟨b1, _, none⟩) hlw1).trans hw1, (hb3.cell (p := ⟨b1, _, none⟩) hlw1).trans hw2, (hb3.cell (p := ⟨b2, _, none⟩) hlw2).trans hw3, (hb3.cell (p := ⟨b2, _, none⟩) hlw2).trans hw4⟩)
          ((refine step_append_lies _ (by rfl) _ _ _ (by rfl) w.heap.size 39 i0 _ 2 16 Try.underlying24 hi0 hz0 hz1 hz2 rfl (by omega) _ k (((addP a b).take k).flatMap encP) (by rfl) (by exact World.ownsRow.drew (World.ownsRow.alloc (show (wr.drewN nq).ownsRow _ _ _ _ _ _ from hO) _)) ⟨wr.heap.size, 0, none⟩ 1 1 (encP (a[k].1 + b[k].1, a[k].2 + b[k].2)) (by rfl) (by rfl) (by exact encP_news (wr.drewN nq) (a[k].1 + b[k].1, a[k].2 + b[k].2) _) (encP_one _) (by omega) (by unfold maxLen; omega) (by omega) (by simp; omega) (wr.heap.size + 1) (by simp) ?_; intro gg cap w3 hown3 hgrow hat hlt3; have hb3 : Below w.heap.size w w3 := own_below ((below_drewN hb nq).alloc hsz _).drew (World.ownsRow.drew (World.ownsRow.alloc (show (wr.drewN nq).ownsRow _ _ _ _ _ _ from hO) _)) hgrow (Nat.le_refl _) (by simp; omega)))
        go_wp2
        go_roundg (gk - 1)
        case rel => exact ⟨k + 1, by have := HK.out; omega, by go_num, by rw [← addP_take HN.out hlt hlt2, flat_snoc]; exact hown3, hb3, Lib.hid (takeAll_snoc (by rw [addP_len HN.out]; exact hlt) hall.out (by rw [addP_at hlt hlt2]; omega))⟩
        case measure => have := HK.out; omega
    · have hkl : a.length = k := by omega
      go_wp2
      go_ret2
      have h5 : (addP a b).take k = addP a b := List.take_of_length_le (by rw [addP_len HN.out]; omega)
      rw [h5] at hO
      exact RetP.own (addSpec_ok HE.out HE2.out HN.out (takeAll_end (by rw [addP_len HN.out]; omega) hall.out)) (by rw [addP_len HN.out]; exact hkl) hO hb
end Go.Proofs.Ytfmhliiljmcejaa
