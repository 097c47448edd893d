/-
  Parts of the proof of TopCorrelate: TaK TaL TaM.
-/
import Derived.Test.YtelkokcnedbmeaaGreatT16
namespace Go.Proofs.YtelkokcnedbmeaaGreat
open Go.RowKit
set_option maxRecDepth 20000
set_option linter.unusedVariables false
namespace Aln
def RIo (base : Nat) (w : World) (A : Option Addr) (xs : List Int) : Prop :=
 0 < xs.length → ∃ b off, A = some ⟨b, off, none⟩ ∧ base ≤ b ∧ b < w.heap.size ∧ ∀ j, j < xs.length → w.cell? ⟨b, off + j, none⟩ = some (.int .i64 (xs.getD j 0))
theorem RIo.ri {base : Nat} {w : World} {A : Option Addr} {xs : List Int} (h : RIo base w A xs) : RI .i64 w A xs := by
 intro h0
 obtain ⟨b, off, e, _, hlt, hc⟩ := h h0
 exact ⟨b, off, e, hlt, hc⟩
theorem RIo.keep {base : Nat} {w w' : World} {A : Option Addr} {xs : List Int} (h : RIo base w A xs) (hb : Below w.heap.size w w') : RIo base w' A xs := by
 intro h0
 obtain ⟨b, off, e, h1, hlt, hc⟩ := h h0
 exact ⟨b, off, e, h1, Nat.lt_of_lt_of_le hlt hb.size, fun j hj => (hb.cell (p := ⟨b, off + j, none⟩) hlt).trans (hc j hj)⟩
theorem RIo.mono {base base' : Nat} {w : World} {A : Option Addr} {xs : List Int} (h : RIo base w A xs) (hb : base' ≤ base) : RIo base' w A xs := by
 intro h0
 obtain ⟨b, off, e, h1, hlt, hc⟩ := h h0
 exact ⟨b, off, e, by omega, hlt, hc⟩
theorem own_RIo {w : World} {base : Nat} {e : TypeId} {A : Option Addr} {c : Nat} {l : List Int} (h : w.ownsRow base e 1 (.slice A l.length c) l.length (l.flatMap (encI .i64))) : RIo base w A l := by
 intro h0
 obtain ⟨g, rfl, hg1, hg⟩ := own_some h h0
 refine ⟨g, 0, rfl, hg1, hg, fun j hj => ?_⟩
 have := own_at (encI_len .i64) h hj (i := 0) (by omega)
 rw [Nat.zero_add, getD_lt _ _ hj]
 simpa [encI] using this
theorem blk_RIo {w : World} {e : TypeId} {g base : Nat} {l : List Int} (h : Blk w g e (l.flatMap (encI .i64)).toArray) (hg : base ≤ g) : RIo base w (some ⟨g, 0, none⟩) l := by
 intro h0
 refine ⟨g, 0, rfl, hg, h.lt, fun j hj => ?_⟩
 rw [Nat.zero_add, h.cell, getD_lt _ _ hj]
 have := flat_get (encI .i64) 1 (encI_len .i64) l j 0 (by omega) hj
 simpa [encI] using this
theorem RIo.grown {base : Nat} {w w' : World} {A : Option Addr} {xs : List Int} {row : Option Nat} (h : RIo base w A xs) (hg : w.grownBy w' row) (hne : 0 < xs.length → ∀ b off, A = some ⟨b, off, none⟩ → row ≠ some b) : RIo base w' A xs := by
 intro h0
 obtain ⟨b, off, e, h1, hlt, hc⟩ := h h0
 refine ⟨b, off, e, h1, Nat.lt_of_lt_of_le hlt hg.size, fun j hj => ?_⟩
 rw [hg.cell_far ⟨b, off + j, none⟩ hlt (fun e2 => hne h0 b off e e2.symm)]
 exact hc j hj
def RBo (base : Nat) (w : World) (A : Option Addr) (l : List (Int × List Int)) : Prop :=
 0 < l.length → ∃ b off, A = some ⟨b, off, none⟩ ∧ base ≤ b ∧ b < w.heap.size ∧ ∀ j (hj : j < l.length), w.cell? ⟨b, off + j * 2, none⟩ = some (.int .i64 l[j].1) ∧ ∃ A' c', w.cell? ⟨b, off + j * 2 + 1, none⟩ = some (.slice A' l[j].2.length c') ∧ RIo base w A' l[j].2 ∧ l[j].2.length ≤ c'
theorem RBo.rb {base : Nat} {w : World} {A : Option Addr} {l : List (Int × List Int)} (h : RBo base w A l) : RB w A l := by
 intro h0
 obtain ⟨b, off, e, _, hlt, hc⟩ := h h0
 refine ⟨b, off, e, hlt, fun j hj => ?_⟩
 obtain ⟨h1, A', c', h2, h3, h4⟩ := hc j hj
 exact ⟨h1, A', c', h2, h3.ri, h4⟩
def encK (b : Int × Value) : List Value := [.int .i64 b.1, b.2]
theorem encK_len (b : Int × Value) : (encK b).length = 2 := rfl
def Elems (base : Nat) (w : World) (own : Option Nat) (raws : List (Int × Value)) (l : List (Int × List Int)) : Prop :=
 raws.length = l.length ∧ ∀ j (h : j < raws.length) (h' : j < l.length), raws[j].1 = l[j].1 ∧ ∃ A c, raws[j].2 = .slice A l[j].2.length c ∧ RIo base w A l[j].2 ∧ l[j].2.length ≤ c ∧ (0 < l[j].2.length → ∀ b off, A = some ⟨b, off, none⟩ → own ≠ some b)
theorem Elems.nil {base : Nat} {w : World} {own : Option Nat} : Elems base w own [] [] := ⟨rfl, fun j h => absurd h (by simp)⟩
theorem Elems.keep {base : Nat} {w w' : World} {own : Option Nat} {raws : List (Int × Value)} {l : List (Int × List Int)} (h : Elems base w own raws l) (hb : Below w.heap.size w w') : Elems base w' own raws l := by
 refine ⟨h.1, fun j h1 h2 => ?_⟩
 obtain ⟨e1, A, c, e2, h3, h4, h5⟩ := h.2 j h1 h2
 exact ⟨e1, A, c, e2, h3.keep hb, h4, h5⟩
theorem Elems.grown {base : Nat} {w w' : World} {own own' : Option Nat} {raws : List (Int × Value)} {l : List (Int × List Int)} (h : Elems base w own raws l) (hg : w.grownBy w' own) (ho : own' = own ∨ ∃ H, own' = some H ∧ w.heap.size ≤ H) : Elems base w' own' raws l := by
 refine ⟨h.1, fun j h1 h2 => ?_⟩
 obtain ⟨e1, A, c, e2, h3, h4, h5⟩ := h.2 j h1 h2
 refine ⟨e1, A, c, e2, h3.grown hg h5, h4, fun h0 b off e => ?_⟩
 rcases ho with rfl | ⟨H, rfl, hH⟩
 ·exact h5 h0 b off e
 ·obtain ⟨b', off', e', _, hlt, _⟩ := h3 h0
  rw [e] at e'
  injection e' with e'
  injection e' with e' _
  intro e3
  injection e3 with e3
  omega
theorem Elems.snoc {base : Nat} {w : World} {own : Option Nat} {raws : List (Int × Value)} {l : List (Int × List Int)} (h : Elems base w own raws l) {a : Int} {A : Option Addr} {c : Nat} {xs : List Int} (hr : RIo base w A xs) (hc : xs.length ≤ c) (hne : 0 < xs.length → ∀ b off, A = some ⟨b, off, none⟩ → own ≠ some b) : Elems base w own (raws ++ [(a, .slice A xs.length c)]) (l ++ [(a, xs)]) := by
 refine ⟨by simp [h.1], fun j h1 h2 => ?_⟩
 rcases Nat.lt_or_ge j raws.length with h3 | h3
 ·rw [List.getElem_append_left h3, List.getElem_append_left (by rw [← h.1]; exact h3)]
  exact h.2 j h3 (by rw [← h.1]; exact h3)
 ·have e1 : j = raws.length := by simp at h1; omega
  have e2 : j = l.length := by rw [← h.1]; exact e1
  have r1 : (raws ++ [(a, Value.slice A xs.length c)])[j]'h1 = (a, .slice A xs.length c) := by simp [e1]
  have r2 : (l ++ [(a, xs)])[j]'h2 = (a, xs) := by simp [e2]
  rw [r1, r2]
  exact ⟨rfl, A, c, rfl, hr, hc, hne⟩
theorem own_RBo {w : World} {base : Nat} {e : TypeId} {A : Option Addr} {c n : Nat} {own : Option Nat} {raws : List (Int × Value)} {l : List (Int × List Int)} (h : w.ownsRow base e 2 (.slice A n c) n (raws.flatMap encK)) (hE : Elems base w own raws l) (hn : raws.length = n) : RBo base w A l := by
 subst hn
 intro h0
 have h0' : 0 < raws.length := by rw [hE.1]; exact h0
 obtain ⟨g, rfl, hg1, hg⟩ := own_some h h0'
 refine ⟨g, 0, rfl, hg1, hg, fun j hj => ?_⟩
 have hj' : j < raws.length := by rw [hE.1]; exact hj
 obtain ⟨e1, A, c, e2, h3, h4, _⟩ := hE.2 j hj' hj
 have k1 := own_at encK_len h hj' (i := 0) (by omega)
 have k2 := own_at encK_len h hj' (i := 1) (by omega)
 rw [Nat.zero_add]
 simp [encK] at k1 k2
 exact ⟨by rw [k1, e1], A, c, by rw [k2, e2], h3, h4⟩
theorem Elems.push {base : Nat} {w w' : World} {own : Option Nat} {raws : List (Int × Value)} {l : List (Int × List Int)} {a : Int} {A : Option Addr} {c g H : Nat} {xs : List Int} (h : Elems base w own raws l) (hr : RIo base w A xs) (hc : xs.length ≤ c) (hne : 0 < xs.length → ∀ b off, A = some ⟨b, off, none⟩ → own ≠ some b)
 (hg : w.grownBy w' own) (hat : own = some g ∨ g = H) (hH : w.heap.size ≤ H) : Elems base w' (some g) (raws ++ [(a, .slice A xs.length c)]) (l ++ [(a, xs)]) := by
 refine (h.snoc hr hc hne).grown hg ?_
 rcases hat with e | e
 ·exact .inl e.symm
 ·exact .inr ⟨g, rfl, by omega⟩
theorem RIo.apart {B base : Nat} {w wr : World} {e : TypeId} {s n : Nat} {A : Option Addr} {xs : List Int} {v : Value} {ys : List Value} (h : RIo B w A xs) (hO : wr.ownsRow base e s v n ys) (hB : wr.heap.size ≤ B) : 0 < xs.length → ∀ b off, A = some ⟨b, off, none⟩ → v.ownBlock ≠ some b := by
 intro h0 b off e2 e3
 obtain ⟨b', off', e', h1, _⟩ := h h0
 rw [e2] at e'
 injection e' with e'
 injection e' with e' _
 have := (hO.lt b e3).2
 omega
theorem encK_one {a : Int} {A : Option Addr} {n c : Nat} : ∀ u ∈ encK (a, .slice A n c), u.oneCell' = true := by simp [encK, Value.oneCell']
theorem info_block : (Tryz.prog.info? 83).map (fun i => (i.zero, i.size, i.bytes)) = some (some (.agg #[.int .i64 0, .slice none 0 0]), 2, 32) := by kernel_rfl
end Aln
end Go.Proofs.YtelkokcnedbmeaaGreat
namespace Go.Proofs.YtelkokcnedbmeaaGreat
open Go.RowKit
set_option maxRecDepth 20000
set_option linter.unusedVariables false
namespace Aln
def sB (b : Int × List Int) (t : Int) : Int := b.2.getD (t - b.1).toNat 0
def clash (x y : Int) : Bool := x != 0 && (y != 0 && x != y)
def agB (p q : Int × List Int) : Bool := (List.range p.2.length).all (fun i => !(decide (q.1 ≤ p.1 + i ∧ p.1 + i < endB q) && clash (sB p (p.1 + i)) (sB q (p.1 + i))))
theorem agB_iff (p q : Int × List Int) : agB p q = true ↔ ∀ t, p.1 ≤ t → t < endB p → q.1 ≤ t → t < endB q → clash (sB p t) (sB q t) = false := by
 unfold agB
 rw [List.all_eq_true]
 constructor
 ·intro h t h1 h2 h3 h4
  have h5 := h (t - p.1).toNat (by unfold endB at h2; simp; omega)
  have e : p.1 + ((t - p.1).toNat : Int) = t := by omega
  rw [e] at h5
  simp only [Bool.not_eq_true', Bool.and_eq_false_iff, decide_eq_false_iff_not] at h5
  rcases h5 with h5 | h5
  ·exact absurd ⟨h3, h4⟩ h5
  ·exact h5
 ·intro h i hi
  have hi' : i < p.2.length := by simpa using hi
  simp only [Bool.not_eq_true', Bool.and_eq_false_iff, decide_eq_false_iff_not]
  by_cases h1 : q.1 ≤ p.1 + i ∧ p.1 + i < endB q
  ·exact .inr (h _ (by omega) (by unfold endB; omega) h1.1 h1.2)
  ·exact .inl h1
theorem clash_y {x y : Int} (h2 : (y != 0) = false) : clash x y = false := by simp [clash, h2]
set_option maxHeartbeats 8000000 in
theorem agrees_any (p q : Int × List Int) (A B : Option Addr) (c d : Nat) (w : World) (hx : RI .i64 w A p.2) (hy : RI .i64 w B q.2) (hp : okB p = true) (hq : okB q = true) :
 Calls Tryz.prog 69 #[.agg #[.int .i64 p.1, .slice A p.2.length c], .agg #[.int .i64 q.1, .slice B q.2.length d]] w fun e w' => e = .returned (.bool (agB p q)) ∧ Below w.heap.size w w' := by
 obtain ⟨p1, p2, p3, p4, _⟩ := okB_bd hp
 obtain ⟨q1, q2, q3, q4, _⟩ := okB_bd hq
 clear hp hq
 have hb0 : Below w.heap.size w ((w.alloc (.cells #[.int .i64 p.1, .slice A p.2.length c] 125)).alloc (.cells #[.int .i64 q.1, .slice B q.2.length d] 125)) := balloc (balloc (Below.refl _ _) _) _
 have hP0 := (Blk.new w 125 #[.int .i64 p.1, .slice A p.2.length c]).alloc (.cells #[.int .i64 q.1, .slice B q.2.length d] 125)
 have hQ0 := Blk.newAt (w := w.alloc (.cells #[.int .i64 p.1, .slice A p.2.length c] 125)) (g := w.heap.size + 1) 125 #[.int .i64 q.1, .slice B q.2.length d] (by simp)
 obtain ⟨W0, hW0⟩ : ∃ W0, W0 = ((w.alloc (.cells #[.int .i64 p.1, .slice A p.2.length c] 125)).alloc (.cells #[.int .i64 q.1, .slice B q.2.length d] 125)) := ⟨_, rfl⟩
 rw [← hW0] at hb0 hP0 hQ0
 have HW0 := Lib.hid hW0
 clear hW0
 go_enter Tryz.func69, Tryz.ntmps69
 go_wp2
 all_goals
  go_loopg [5, 6, 7] 600 (fun gk s5 _ _ wr => ∃ (T : Int) (n : Nat), n + gk = 600 ∧ s5 = .int .i64 T ∧ n ≤ T - p.1 ∧ p.1 ≤ T ∧ q.1 ≤ T ∧ T ≤ 1001000 ∧ Below W0.heap.size W0 wr ∧ Hid (∀ t, p.1 ≤ t → q.1 ≤ t → t < T → clash (sB p t) (sB q t) = false))
  case atStart => exact ⟨_, 0, by omega, rfl, by omega, by omega, by omega, by omega, by rw [HW0.out]; exact Below.refl _ _, Lib.hid (by intro t h1 h2 h3; omega)⟩
  case round =>
   obtain ⟨T, n, hn, rfl, hn2, hT1, hT2, hT3, hb, hall⟩ := hrel
   have HN := Lib.hid hn
   clear hn
   have hP := hP0.keep hb
   have hQ := hQ0.keep hb
   have a0 : World.cell? wr ⟨w.heap.size, 0, none⟩ = some (.int .i64 p.1) := hP.cell 0
   have af0 := hP.frozen 0
   have a1 : World.cell? wr ⟨w.heap.size, 1, none⟩ = some (.slice A p.2.length c) := hP.cell 1
   have af1 := hP.frozen 1
   have afl := hP.lt
   have b0 : World.cell? wr ⟨w.heap.size + 1, 0, none⟩ = some (.int .i64 q.1) := hQ.cell 0
   have bf0 := hQ.frozen 0
   have b1 : World.cell? wr ⟨w.heap.size + 1, 1, none⟩ = some (.slice B q.2.length d) := hQ.cell 1
   have bf1 := hQ.frozen 1
   have bfl := hQ.lt
   go_wp2
   go_region_held3 (fun w' => (w'.cell? ⟨w.heap.size, 0, none⟩ = some (.int .i64 p.1) ∧ w'.cell? ⟨w.heap.size, 1, none⟩ = some (.slice A p.2.length c)) ∧ w'.cell? ⟨w.heap.size + 1, 0, none⟩ = some (.int .i64 q.1) ∧ w'.cell? ⟨w.heap.size + 1, 1, none⟩ = some (.slice B q.2.length d))
    (first | go_keep | exact ⟨⟨(hP0.keep hB3).cell 0, (hP0.keep hB3).cell 1⟩, (hQ0.keep hB3).cell 0, (hQ0.keep hB3).cell 1⟩)
    ((go_at_call 70; refine (end_any _ _ _ _ _ (by omega) (by omega) (by omega)).mono ?_; rintro e w3 ⟨rfl, hb3⟩; have hB3 : Below W0.heap.size W0 w3 := (by first | exact bstep hB3 hb3 | exact bstep hb.drew hb3)))
   have hB3w := bstep hb0 hB3
   clear a0 a1 af0 af1 b0 b1 bf0 bf1 afl bfl
   by_cases hin : T < p.1 + p.2.length ∧ T < q.1 + q.2.length
   ·obtain ⟨hin1, hin2⟩ := hin
    have hjp : (T - p.1).toNat < p.2.length := by omega
    have hjq : (T - q.1).toNat < q.2.length := by omega
    have hP3 := hP0.keep hB3
    have hQ3 := hQ0.keep hB3
    have a0 : World.cell? w3 ⟨w.heap.size, 0, none⟩ = some (.int .i64 p.1) := hP3.cell 0
    have af0 := hP3.frozen 0
    have a1 : World.cell? w3 ⟨w.heap.size, 1, none⟩ = some (.slice A p.2.length c) := hP3.cell 1
    have af1 := hP3.frozen 1
    have afl := hP3.lt
    have b0 : World.cell? w3 ⟨w.heap.size + 1, 0, none⟩ = some (.int .i64 q.1) := hQ3.cell 0
    have bf0 := hQ3.frozen 0
    have b1 : World.cell? w3 ⟨w.heap.size + 1, 1, none⟩ = some (.slice B q.2.length d) := hQ3.cell 1
    have bf1 := hQ3.frozen 1
    have bfl := hQ3.lt
    obtain ⟨e1, off1, rfl, hlw1, hw1⟩ := (hx.keep hB3w).at2 hjp
    obtain ⟨e2, off2, rfl, hlw2, hw2⟩ := (hy.keep hB3w).at2 hjq
    have ex : p.2.getD (T - p.1).toNat 0 = sB p T := rfl
    have ey : q.2.getD (T - q.1).toNat 0 = sB q T := rfl
    rw [ex] at hw1
    rw [ey] at hw2
    clear ex ey
    have f1 : IntKind.i64.wrap (T - p.1) = T - p.1 := IntWalk.i64_in _ (by omega)
    have f2 : IntKind.i64.wrap (T - q.1) = T - q.1 := IntWalk.i64_in _ (by omega)
    have f3 : 0 ≤ T - p.1 := by omega
    have f4 : 0 ≤ T - q.1 := by omega
    have f5 : T - p.1 < p.2.length := by omega
    have f6 : T - q.1 < q.2.length := by omega
    have hcl : (∀ t, p.1 ≤ t → q.1 ≤ t → t < T + 1 → clash (sB p t) (sB q t) = false) ∨ clash (sB p T) (sB q T) = true := by
     cases hc : clash (sB p T) (sB q T) with
     | true => exact .inr rfl
     | false =>
      refine .inl (fun t h1 h2 h3 => ?_)
      by_cases ht : t < T
      ·exact hall.out t h1 h2 ht
      ·obtain rfl : t = T := by omega
       exact hc
    have HCL := Lib.hid hcl
    clear hcl
    have hno : clash (sB p T) (sB q T) = true → agB p q = false := by
     intro hc
     rw [← Bool.not_eq_true, agB_iff]
     intro h
     have := h T hT1 (by unfold endB; omega) hT2 (by unfold endB; omega)
     rw [hc] at this
     cases this
    have HNO := Lib.hid hno
    clear hno
    obtain ⟨X, hX⟩ : ∃ X, X = sB p T := ⟨_, rfl⟩
    obtain ⟨Y, hY⟩ : ∃ Y, Y = sB q T := ⟨_, rfl⟩
    rw [← hX] at hw1 HCL HNO
    rw [← hY] at hw2 HCL HNO
    clear hX hY
    have hways : ((X != 0) = false ∧ clash X Y = false) ∨ ((X != 0) = true ∧ (Y != 0) = false ∧ clash X Y = false) ∨ ((X != 0) = true ∧ (Y != 0) = true ∧ (X != Y) = false ∧ clash X Y = false) ∨ ((X != 0) = true ∧ (Y != 0) = true ∧ (X != Y) = true ∧ clash X Y = true) := by
     unfold clash
     cases (X != 0) <;> cases (Y != 0) <;> cases (X != Y) <;> simp
    rcases hways with ⟨h1, hc⟩ | ⟨h1, h2, hc⟩ | ⟨h1, h2, h3, hc⟩ | ⟨h1, h2, h3, hc⟩
    ·have HC := Lib.hid hc
     clear hc
     go_wp2
     all_goals
      go_quiet (fail)
      go_wp2
      go_roundg (gk - 1)
      case rel => exact ⟨T + 1, n + 1, by have := HN.out; omega, by go_num, by omega, by omega, by omega, by omega, below_drewN hB3 _, Lib.hid (HCL.out.resolve_right (by rw [HC.out]; simp))⟩
      case measure => have := HN.out; omega
    ·have HC := Lib.hid hc
     clear hc
     go_wp2
     all_goals
      go_quiet (fail)
      go_wp2
      go_roundg (gk - 1)
      case rel => exact ⟨T + 1, n + 1, by have := HN.out; omega, by go_num, by omega, by omega, by omega, by omega, below_drewN hB3 _, Lib.hid (HCL.out.resolve_right (by rw [HC.out]; simp))⟩
      case measure => have := HN.out; omega
    ·have HC := Lib.hid hc
     clear hc
     go_wp2
     all_goals
      go_quiet (fail)
      go_wp2
      go_roundg (gk - 1)
      case rel => exact ⟨T + 1, n + 1, by have := HN.out; omega, by go_num, by omega, by omega, by omega, by omega, below_drewN hB3 _, Lib.hid (HCL.out.resolve_right (by rw [HC.out]; simp))⟩
      case measure => have := HN.out; omega
    ·have HR := Lib.hid (HNO.out hc)
     clear hc
     go_wp2
     all_goals
      go_quiet (fail)
      go_wp2
      go_ret
      exact ⟨ret_bool HR.out.symm, below_drewN hB3w _⟩
   ·have HR : Hid (agB p q = true) := Lib.hid (by
     rw [agB_iff]
     intro t h1 h2 h3 h4
     unfold endB at h2 h4
     exact hall.out t h1 h3 (by omega))
    go_wp2
    all_goals
     go_ret
     exact ⟨ret_bool HR.out.symm, hB3w⟩
end Aln
end Go.Proofs.YtelkokcnedbmeaaGreat
namespace Go.Proofs.YtelkokcnedbmeaaGreat
open Go.RowKit
set_option maxRecDepth 20000
set_option linter.unusedVariables false
namespace Aln
def allAg (l : List (Int × List Int)) (p : Int × List Int) : Bool := l.all (fun b => agB b p)
theorem allAg_no {l : List (Int × List Int)} {p : Int × List Int} {k : Nat} (hk : k < l.length) (h : agB l[k] p = false) : allAg l p = false := by
 unfold allAg
 rw [List.all_eq_false]
 exact ⟨l[k], List.getElem_mem hk, by simp [h]⟩
theorem allAg_yes {l : List (Int × List Int)} {p : Int × List Int} (h : ∀ k (hk : k < l.length), agB l[k] p = true) : allAg l p = true := by
 unfold allAg
 rw [List.all_eq_true]
 intro b hb
 obtain ⟨k, hk, rfl⟩ := List.mem_iff_getElem.1 hb
 exact h k hk
set_option maxHeartbeats 4000000 in
theorem all_any (A : Option Addr) (c : Nat) (l : List (Int × List Int)) (p : Int × List Int) (B : Option Addr) (d : Nat) (w : World) (hx : RB w A l) (hy : RI .i64 w B p.2) (hA : Apart l) (hl : l.length ≤ 64) (hp : okB p = true) :
 Calls Tryz.prog 68 #[.slice A l.length c, .agg #[.int .i64 p.1, .slice B p.2.length d], .func (.func 69) #[] #[]] w fun e w' => e = .returned (.bool (allAg l p)) ∧ Below w.heap.size w w' := by
 have HA := Lib.hid hA
 have HP := Lib.hid hp
 clear hA hp
 have hP0 := Blk.new w 125 #[.int .i64 p.1, .slice B p.2.length d]
 have hb0 : Below w.heap.size w (w.alloc (.cells #[.int .i64 p.1, .slice B p.2.length d] 125)) := balloc (Below.refl _ _) _
 go_enter Tryz.func68, Tryz.ntmps68
 go_wp2
 go_loopg [8, 11] l.length (fun gk _ i wr => ∃ k : Nat, k + gk = l.length ∧ i = .int .i64 k ∧ Blk wr w.heap.size 125 #[.int .i64 p.1, .slice B p.2.length d] ∧ Below w.heap.size w wr ∧ Hid (∀ j (h : j < l.length), j < k → agB l[j] p = true))
 case atStart => exact ⟨0, by omega, rfl, hP0, hb0, Lib.hid (by intro j h h2; omega)⟩
 case round =>
  obtain ⟨k, hk, rfl, hP, hb, hall⟩ := hrel
  have hk' : k ≤ l.length := by omega
  have HK := Lib.hid hk
  clear hk
  have a0 : World.cell? wr ⟨w.heap.size, 0, none⟩ = some (.int .i64 p.1) := hP.cell 0
  have af0 := hP.frozen 0
  have a1 : World.cell? wr ⟨w.heap.size, 1, none⟩ = some (.slice B p.2.length d) := hP.cell 1
  have af1 := hP.frozen 1
  have afl := hP.lt
  by_cases hlt : k < l.length
  ·obtain ⟨b1, off1, A1, c1, rfl, hlw, hw1, hw2, hr, hcap⟩ := hx.at_ hlt
   have hc1 := (hb.cell (p := ⟨b1, _, none⟩) hlw).trans hw1
   have hc2 := (hb.cell (p := ⟨b1, _, none⟩) hlw).trans hw2
   have hb' := balloc hb (.cells #[.int .i64 l[k].1, .slice A1 l[k].2.length c1] 83)
   have hP' := hP.alloc (.cells #[.int .i64 l[k].1, .slice A1 l[k].2.length c1] 83)
   go_wp2_with fail
   refine (agrees_any l[k] p A1 B c1 d _ (hr.keep hb') (hy.keep hb') (HA.out.1 k hlt) HP.out).mono ?_
   rintro _ w3 ⟨rfl, hb3⟩
   have hP3 := hP'.keep hb3
   have hB3 := bstep hb' hb3
   clear hc1 hc2
   by_cases hag : agB l[k] p = true
   ·have HN : Hid (∀ j (h : j < l.length), j < k + 1 → agB l[j] p = true) := Lib.hid (by
     intro j h h2
     rcases Nat.lt_or_ge j k with h3 | h3
     ·exact hall.out j h h3
     ·obtain rfl : j = k := by omega
      exact hag)
    go_wp2
    go_roundg (gk - 1)
    case rel => exact ⟨k + 1, by have := HK.out; omega, by go_num, hP3, hB3, HN⟩
    case measure => have := HK.out; omega
   ·have hag' : agB l[k] p = false := by simpa using hag
    have HN := Lib.hid (allAg_no hlt hag')
    clear hag
    go_wp2
    go_ret
    exact ⟨ret_bool HN.out.symm, hB3⟩
  ·have HN : Hid (allAg l p = true) := Lib.hid (allAg_yes (fun j hj => hall.out j hj (by omega)))
   go_wp2
   go_ret
   exact ⟨ret_bool HN.out.symm, hb⟩
def refAg (l : List (Int × List Int)) (b : Int × List Int) : Bool := (List.range b.2.length).all (fun (k : Nat) => !clash (b.2.getD k 0) (sampAt l (b.1 + k)))
theorem refAg_yes {l : List (Int × List Int)} {b : Int × List Int} (h : ∀ k, k < b.2.length → clash (b.2.getD k 0) (sampAt l (b.1 + k)) = false) : refAg l b = true := by
 unfold refAg
 rw [List.all_eq_true]
 intro k hk
 rw [h k (by simpa using hk)]
 rfl
theorem clash_comm (x y : Int) : clash x y = clash y x := by
 unfold clash
 rw [show (y != x) = (x != y) from bne_comm]
 cases (x != 0) <;> cases (y != 0) <;> rfl
theorem sampAt_in {l : List (Int × List Int)} (h : Apart l) {j : Nat} (hj : j < l.length) {t : Int} (h1 : l[j].1 ≤ t) (h2 : t < endB l[j]) : sampAt l t = sB l[j] t := by
 refine sampAt_first hj (fun i hi hij => ?_) ⟨h1, h2⟩
 have := h.lt hij hj
 omega
theorem ag_same {l : List (Int × List Int)} (h : Apart l) (b : Int × List Int) : allAg l b = refAg l b := by
 rw [Bool.eq_iff_iff]
 constructor
 ·intro h1
  apply refAg_yes
  intro k hk
  by_cases hex : ∃ j, ∃ hj : j < l.length, l[j].1 ≤ b.1 + k ∧ b.1 + k < endB l[j]
  ·obtain ⟨j, hj, h2, h3⟩ := hex
   rw [sampAt_in h hj h2 h3, clash_comm]
   unfold allAg at h1
   rw [List.all_eq_true] at h1
   have h4 := (agB_iff _ _).1 (h1 _ (List.getElem_mem hj)) (b.1 + k) h2 h3 (by omega) (by unfold endB; omega)
   have e : sB b (b.1 + k) = b.2.getD k 0 := by unfold sB; congr 1; omega
   rwa [e] at h4
  ·rw [sampAt_none (fun j hj hc => hex ⟨j, hj, hc⟩)]
   exact clash_y rfl
 ·intro h1
  apply allAg_yes
  intro j hj
  rw [agB_iff]
  intro t h2 h3 h4 h5
  unfold refAg at h1
  rw [List.all_eq_true] at h1
  unfold endB at h5
  have h6 := h1 (t - b.1).toNat (by simp; omega)
  have e : b.1 + ((t - b.1).toNat : Int) = t := by omega
  rw [e, sampAt_in h hj h2 h3, clash_comm] at h6
  simpa [sB] using h6
end Aln
end Go.Proofs.YtelkokcnedbmeaaGreat
