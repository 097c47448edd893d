/-
  Contracts: accum.addAll.
-/
import Derived.Test.YtjhigfhgchpjcaaAccD
import Derived.Deep.RegionHeld3
namespace Go.Proofs.Ytjhigfhgchpjcaa
open Go.RowKit Runs Lagc
set_option linter.unusedVariables false
set_option linter.unusedSimpArgs false

theorem info_count : (Try.prog.info? 60).map (fun i => (i.zero, i.size, i.bytes)) = some (some (.agg #[.int .i64 0, .int .i64 0]), 2, 16) := by kernel_rfl
theorem info_gap : (Try.prog.info? 62).map (fun i => (i.zero, i.size, i.bytes)) = some (some (.agg #[.int .i64 0, .int .i64 0]), 2, 16) := by kernel_rfl
/-- The address lies in no block older than base. -/
def Fresh (base : Nat) (A : Option Addr) : Prop := ∀ x : Addr, A = some x → base ≤ x.block
theorem Fresh.none {base : Nat} : Fresh base Option.none := by intro x h; cases h
theorem Fresh.mk {base g : Nat} (h : base ≤ g) : Fresh base (some ⟨g, 0, Option.none⟩) := by intro x h2; cases h2; exact h
theorem Fresh.mono {base base' : Nat} {A : Option Addr} (h : Fresh base A) (hb : base' ≤ base) : Fresh base' A := fun x hx => Nat.le_trans hb (h x hx)
theorem own_fresh {w : World} {base : Nat} {e : TypeId} {size : Nat} {A : Option Addr} {c : Nat} {n : Nat} {xs : List Value} (h : w.ownsRow base e size (.slice A n c) n xs) : Fresh base A := by
  rcases h.2 with ⟨h1, _⟩ | ⟨g, cap, cur, h1, h2, _⟩
  · injection h1 with h1; subst h1; exact Fresh.none
  · injection h1 with h1; subst h1; exact Fresh.mk h2
theorem RL.far {w : World} {A : Option Addr} {l : List (Int × Int)} (h : RL w A l) {base : Nat} (hf : Fresh base A) {p : Addr} (hp : p.block < base) (u : Value) : RL (w.setCell p u) A l := by
  intro h0
  obtain ⟨b, off, e, hlt, hc⟩ := h h0
  have hb := hf _ e
  simp only at hb
  have hne : ∀ k, (w.setCell p u).cell? ⟨b, k, Option.none⟩ = w.cell? ⟨b, k, Option.none⟩ := fun k => by
    have h1 := Below.heap_setCell w p u b (by omega)
    simp [World.cell?, h1]
  refine ⟨b, off, e, by simpa [World.setCell] using hlt, fun j hj => ?_⟩
  rw [hne, hne]
  exact hc j hj
/-- A new list of pairs and a bool. -/
def RetLB (w : World) (r : List (Int × Int) × Bool) (e : Ending) (w' : World) : Prop :=
  ∃ A c, e = .returned (.tuple #[.slice A r.1.length c, .bool r.2]) ∧ RL w' A r.1 ∧ Fresh w.heap.size A ∧ Below w.heap.size w w'
theorem RetLB.no {w w' : World} {r : List (Int × Int) × Bool} (hr : r = ([], false)) (hb : Below w.heap.size w w') : RetLB w r (.returned (.tuple #[.slice none 0 0, .bool false])) w' := by
  subst hr; exact ⟨none, 0, rfl, RL.nil, Fresh.none, hb⟩
theorem RetLB.yes {w w' : World} {r : List (Int × Int) × Bool} {A : Option Addr} {n c : Nat} {l : List (Int × Int)} (hr : r = (l, true)) (hn : l.length = n) (hl : RL w' A l) (hf : Fresh w.heap.size A) (hb : Below w.heap.size w w') : RetLB w r (.returned (.tuple #[.slice A n c, .bool true])) w' := by
  subst hr; subst hn; exact ⟨A, c, rfl, hl, hf, hb⟩
def addS (a b : List (Int × Int)) : List (Int × Int) × Bool := if rngB a b then (addL a b, true) else ([], false)
theorem addS_yes {a b : List (Int × Int)} (h : rngB a b = true) : addS a b = (addL a b, true) := by simp [addS, h]
theorem addS_no {a b : List (Int × Int)} (h : rngB a b = false) : addS a b = ([], false) := by simp [addS, h]
def okC (x : Int × Int) : Prop := (-1000000000 ≤ x.1 ∧ x.1 < 1000000000) ∧ (0 ≤ x.2 ∧ x.2 < 1000000000)

set_option maxRecDepth 20000 in
set_option maxHeartbeats 1000000 in
theorem addAll_any (A B : Option Addr) (c d : Nat) (a b : List (Int × Int)) (w : World) (hx : RL w A a) (hy : RL w B b) (hla : a.length ≤ 511) (hlb : b.length = a.length) (ha : ∀ x ∈ a, okC x) (hb' : ∀ x ∈ b, okC x) :
    Calls Try.prog 52 #[.slice A a.length c, .slice B b.length d] w (RetLB w (addS a b)) := by
  obtain ⟨i0, hi0, hz0, hz1, hz2⟩ := info_parts info_count
  have hmk := mk_row (P := Try.prog) 22 60 Try.underlying22 hi0 hz0 hz1 hz2 encP encP_len (by omega) (0, 0) rfl a.length (by omega) (by omega)
  have HLB := Lib.hid hlb
  have hlb2 : a.length ≤ b.length := by omega
  have HA := Lib.hid ha
  have HB := Lib.hid hb'
  clear hlb ha hb'
  go_enter Try.func52, Try.ntmps52
  go_wp2
  go_loopg [7, 8, 9, 15] a.length (fun gk _ _ _ i wr => ∃ k : Nat, k + gk = a.length ∧ i = .int .i64 k ∧ Below w.heap.size w wr ∧ Blk wr w.heap.size 60 ((partL (addF a b) (0, 0) a.length k).flatMap encP).toArray ∧ Hid (∀ j, j < k → inR (addF a b j) = true))
  case atStart => exact ⟨0, by omega, rfl, balloc (Below.refl _ _) _, by rw [partL_start]; exact Blk.new _ _ _, Lib.hid (by intro j hj; omega)⟩
  case round =>
    obtain ⟨k, hk, rfl, hb, hO, hall⟩ := hrel
    have hk' : k ≤ a.length := by omega
    have HK := Lib.hid hk
    clear hk
    by_cases hlt : k < a.length
    · have hltb : k < b.length := by omega
      obtain ⟨b1, off1, rfl, hl1, hc1, hd1⟩ := (hx.keep hb).at_ hlt
      obtain ⟨b2, off2, rfl, hl2, hc2, hd2⟩ := (hy.keep hb).at_ hltb
      obtain ⟨hx1, hx2⟩ : okC (a.getD k (0, 0)) := by rw [getD_lt _ _ hlt]; exact HA.out _ (List.getElem_mem _)
      obtain ⟨hy1, hy2⟩ : okC (b.getD k (0, 0)) := by rw [getD_lt _ _ hltb]; exact HB.out _ (List.getElem_mem _)
      have HF := Lib.hid (show addF a b k = addC (a.getD k (0, 0)) (b.getD k (0, 0)) from rfl)
      generalize a.getD k (0, 0) = x at *
      generalize b.getD k (0, 0) = y at *
      have HH : Hid (∀ W, Below wr.heap.size wr W → (W.cell? ⟨b1, off1 + k * 2, none⟩ = some (.int .i64 x.1) ∧ W.cell? ⟨b1, off1 + k * 2 + 1, none⟩ = some (.int .i64 x.2)) ∧ (W.cell? ⟨b2, off2 + k * 2, none⟩ = some (.int .i64 y.1) ∧ W.cell? ⟨b2, off2 + k * 2 + 1, none⟩ = some (.int .i64 y.2))) := Lib.hid (fun W hW => ⟨⟨(hW.cell (p := ⟨b1, _, none⟩) hl1).trans hc1, (hW.cell (p := ⟨b1, _, none⟩) hl1).trans hd1⟩, (hW.cell (p := ⟨b2, _, none⟩) hl2).trans hc2, (hW.cell (p := ⟨b2, _, none⟩) hl2).trans hd2⟩)
      go_wp2
      go_region_held3 (fun w' => (w'.cell? ⟨b1, off1 + k * 2, none⟩ = some (.int .i64 x.1) ∧ w'.cell? ⟨b1, off1 + k * 2 + 1, none⟩ = some (.int .i64 x.2)) ∧ (w'.cell? ⟨b2, off2 + k * 2, none⟩ = some (.int .i64 y.1) ∧ w'.cell? ⟨b2, off2 + k * 2 + 1, none⟩ = some (.int .i64 y.2)))
        (first | go_keep | exact HH.out _ hb9 | exact HH.out _ (balloc hb9 _) | exact HH.out _ ((hb9.setCell (p := ⟨wr.heap.size, 0, none⟩) (Nat.le_refl _) _).setCell (p := ⟨wr.heap.size, 1, none⟩) (Nat.le_refl _) _))
        ((first
          | (go_at_call 59; (with_reducible refine (plus_any x y wr.drew hx1 hx2 hy1 hy2).mono ?_); rintro e w9 ⟨rfl, hb9'⟩; have hb9 : Below wr.heap.size wr w9 := bstep (Below.drew (Below.refl _ _)) hb9')
          | (go_at_call 59; (with_reducible refine (plus_any x y (wr.alloc _).drew hx1 hx2 hy1 hy2).mono ?_); rintro e w9 ⟨rfl, hb9'⟩; have hb9 : Below wr.heap.size wr w9 := bstep (Below.drew (balloc (Below.refl _ _) _)) hb9'; have hZ := ((Blk.new wr 60 #[.int .i64 0, .int .i64 0]).drew).keep hb9'; have hy1' := hZ.frozen 0; have hy2' := hZ.frozen 1; have hy3 : w9.cell? ⟨wr.heap.size, 0, none⟩ = some (.int .i64 0) := hZ.cell 0; have hy4 : w9.cell? ⟨wr.heap.size, 1, none⟩ = some (.int .i64 0) := hZ.cell 1; have hy5 := hZ.lt)))
      all_goals clear hc1 hd1 hc2 hd2 HH
      · have hO9 := hO.keep hb9
        have hB := bstep hb hb9
        have hBE : Below w.heap.size w (w9.alloc (.cells #[.int .i64 (addC x y).1, .int .i64 (addC x y).2] 60)) := (balloc hB _)
        have hOE : Blk (w9.alloc (.cells #[.int .i64 (addC x y).1, .int .i64 (addC x y).2] 60)) w.heap.size 60 ((partL (addF a b) (0, 0) a.length k).flatMap encP).toArray := (hO9.alloc _)
        have hNE : Blk (w9.alloc (.cells #[.int .i64 (addC x y).1, .int .i64 (addC x y).2] 60)) w9.heap.size 60 #[.int .i64 (addC x y).1, .int .i64 (addC x y).2] := Blk.new w9 60 #[.int .i64 (addC x y).1, .int .i64 (addC x y).2]
        obtain ⟨wE, hwE⟩ : ∃ wE, wE = (w9.alloc (.cells #[.int .i64 (addC x y).1, .int .i64 (addC x y).2] 60)) := ⟨_, rfl⟩
        rw [← hwE] at hBE hOE hNE ⊢
        clear hwE
        have p0 : World.cell? wE ⟨w9.heap.size, 0, none⟩ = some (.int .i64 (addC x y).1) := hNE.cell 0
        have pf0 := hNE.frozen 0
        have p1 : World.cell? wE ⟨w9.heap.size, 1, none⟩ = some (.int .i64 (addC x y).2) := hNE.cell 1
        have pf1 := hNE.frozen 1
        have pfl := hNE.lt
        obtain ⟨o1, o2⟩ := blkP_at hOE (j := k) (by rw [partL_len]; exact hlt)
        have of1 := hOE.frozen (k * 2)
        have of2 := hOE.frozen (k * 2 + 1)
        have olt := hOE.lt
        by_cases hr : inR (addC x y) = true
        · have HR := Lib.hid (HF.out ▸ hr)
          rw [hr]
          clear hr
          go_wp2
          go_roundg (gk - 1)
          case rel => exact ⟨k + 1, by have := HK.out; omega, by go_num, (hBE.setCell (p := ⟨w.heap.size, k * 2, none⟩) (Nat.le_refl _) _).setCell (p := ⟨w.heap.size, k * 2 + 1, none⟩) (Nat.le_refl _) _, by rw [← partL_set (addF a b) (0, 0) a.length k (addC x y) HF.out.symm]; exact blkP_set hOE (by rw [partL_len]; exact hlt) (addC x y), Lib.hid (all_lt_succ hall.out HR.out)⟩
          case measure => have := HK.out; omega
        · have hr' : inR (addC x y) = false := by simpa using hr
          have HR : Hid (inR (addF a b k) = false) := Lib.hid (by rw [HF.out]; exact hr')
          rw [hr']
          clear hr hr'
          go_wp2
          go_ret2
          exact RetLB.no (addS_no (rngB_no hlt HR.out)) hBE
      · have hO9 := hO.keep hb9
        have hB := bstep hb hb9
        have hsz := hb.size
        have hne : w.heap.size ≠ wr.heap.size := by have := hO.lt; omega
        have hBE : Below w.heap.size w ((w9.setCell ⟨wr.heap.size, 0, none⟩ (.int .i64 (addC x y).1)).setCell ⟨wr.heap.size, 1, none⟩ (.int .i64 (addC x y).2)) := ((hB.setCell (p := ⟨wr.heap.size, 0, none⟩) hsz _).setCell (p := ⟨wr.heap.size, 1, none⟩) hsz _)
        have hOE : Blk ((w9.setCell ⟨wr.heap.size, 0, none⟩ (.int .i64 (addC x y).1)).setCell ⟨wr.heap.size, 1, none⟩ (.int .i64 (addC x y).2)) w.heap.size 60 ((partL (addF a b) (0, 0) a.length k).flatMap encP).toArray := ((hO9.far (p := ⟨wr.heap.size, 0, none⟩) hne _).far (p := ⟨wr.heap.size, 1, none⟩) hne _)
        have hNE : Blk ((w9.setCell ⟨wr.heap.size, 0, none⟩ (.int .i64 (addC x y).1)).setCell ⟨wr.heap.size, 1, none⟩ (.int .i64 (addC x y).2)) wr.heap.size 60 #[.int .i64 (addC x y).1, .int .i64 (addC x y).2] := ((hZ.put 0 (.int .i64 (addC x y).1)).put 1 (.int .i64 (addC x y).2))
        obtain ⟨wE, hwE⟩ : ∃ wE, wE = ((w9.setCell ⟨wr.heap.size, 0, none⟩ (.int .i64 (addC x y).1)).setCell ⟨wr.heap.size, 1, none⟩ (.int .i64 (addC x y).2)) := ⟨_, rfl⟩
        rw [← hwE] at hBE hOE hNE ⊢
        clear hwE
        have p0 : World.cell? wE ⟨wr.heap.size, 0, none⟩ = some (.int .i64 (addC x y).1) := hNE.cell 0
        have pf0 := hNE.frozen 0
        have p1 : World.cell? wE ⟨wr.heap.size, 1, none⟩ = some (.int .i64 (addC x y).2) := hNE.cell 1
        have pf1 := hNE.frozen 1
        have pfl := hNE.lt
        obtain ⟨o1, o2⟩ := blkP_at hOE (j := k) (by rw [partL_len]; exact hlt)
        have of1 := hOE.frozen (k * 2)
        have of2 := hOE.frozen (k * 2 + 1)
        have olt := hOE.lt
        by_cases hr : inR (addC x y) = true
        · have HR := Lib.hid (HF.out ▸ hr)
          rw [hr]
          clear hr
          go_wp2
          go_roundg (gk - 1)
          case rel => exact ⟨k + 1, by have := HK.out; omega, by go_num, (hBE.setCell (p := ⟨w.heap.size, k * 2, none⟩) (Nat.le_refl _) _).setCell (p := ⟨w.heap.size, k * 2 + 1, none⟩) (Nat.le_refl _) _, by rw [← partL_set (addF a b) (0, 0) a.length k (addC x y) HF.out.symm]; exact blkP_set hOE (by rw [partL_len]; exact hlt) (addC x y), Lib.hid (all_lt_succ hall.out HR.out)⟩
          case measure => have := HK.out; omega
        · have hr' : inR (addC x y) = false := by simpa using hr
          have HR : Hid (inR (addF a b k) = false) := Lib.hid (by rw [HF.out]; exact hr')
          rw [hr']
          clear hr hr'
          go_wp2
          go_ret2
          exact RetLB.no (addS_no (rngB_no hlt HR.out)) hBE
    · obtain rfl : k = a.length := by omega
      go_wp2
      go_ret2
      exact RetLB.yes (addS_yes (rngB_yes hall.out)) (fullL_len _ _) (by unfold addL; rw [← partL_end _ (0, 0) _ _ (Nat.le_refl _)]; exact blk_RL hO) (Fresh.mk (Nat.le_refl _)) hb
end Go.Proofs.Ytjhigfhgchpjcaa
