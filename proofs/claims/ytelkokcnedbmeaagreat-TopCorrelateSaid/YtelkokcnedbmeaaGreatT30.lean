/-
  Parts of the proof of TopCorrelate: Lol FouX.
-/
import Derived.Test.YtelkokcnedbmeaaGreatT15
import Derived.Test.YtelkokcnedbmeaaGreatT11
import Derived.Test.YtelkokcnedbmeaaGreatT28
namespace Go.Proofs.YtelkokcnedbmeaaGreat
open Go.RowKit
set_option maxRecDepth 20000
set_option linter.unusedVariables false
set_option linter.unusedSimpArgs false
namespace Lol
def RIo (k : IntKind) (base : Nat) (w : World) (A : Option Addr) (xs : List Int) : Prop :=
 0 < xs.length → ∃ b off, A = some ⟨b, off, none⟩ ∧ base ≤ b ∧ b < w.heap.size ∧ ∀ j, j < xs.length → w.cell? ⟨b, off + j, none⟩ = some (.int k (xs.getD j 0))
theorem RIo.ri {k : IntKind} {base : Nat} {w : World} {A : Option Addr} {xs : List Int} (h : RIo k base w A xs) : RI k w A xs := by
 intro h0
 obtain ⟨b, off, e, _, hlt, hc⟩ := h h0
 exact ⟨b, off, e, hlt, hc⟩
theorem RIo.keep {k : IntKind} {base : Nat} {w w' : World} {A : Option Addr} {xs : List Int} (h : RIo k base w A xs) (hb : Below w.heap.size w w') : RIo k base w' A xs := by
 intro h0
 obtain ⟨b, off, e, h1, hlt, hc⟩ := h h0
 exact ⟨b, off, e, h1, Nat.lt_of_lt_of_le hlt hb.size, fun j hj => (hb.cell (p := ⟨b, off + j, none⟩) hlt).trans (hc j hj)⟩
theorem RIo.mono {k : IntKind} {base base' : Nat} {w : World} {A : Option Addr} {xs : List Int} (h : RIo k base w A xs) (hb : base' ≤ base) : RIo k base' w A xs := by
 intro h0
 obtain ⟨b, off, e, h1, hlt, hc⟩ := h h0
 exact ⟨b, off, e, by omega, hlt, hc⟩
theorem own_RIo {k : IntKind} {w : World} {base : Nat} {e : TypeId} {A : Option Addr} {c : Nat} {l : List Int} (h : w.ownsRow base e 1 (.slice A l.length c) l.length (l.flatMap (encI k))) : RIo k base w A l := by
 intro h0
 obtain ⟨g, rfl, hg1, hg⟩ := own_some h h0
 obtain ⟨b, off, e1, _, hc⟩ := own_RI h h0
 injection e1 with e1
 injection e1 with e1 e2
 subst e1; subst e2
 exact ⟨g, 0, rfl, hg1, hg, hc⟩
theorem blk_RIo {k : IntKind} {w : World} {e : TypeId} {g base : Nat} {l : List Int} (h : Blk w g e (l.flatMap (encI k)).toArray) (hg : base ≤ g) : RIo k base w (some ⟨g, 0, none⟩) l := by
 intro h0
 obtain ⟨b, off, e1, _, hc⟩ := blk_RI h h0
 injection e1 with e1
 injection e1 with e1 e2
 subst e1; subst e2
 exact ⟨g, 0, rfl, hg, h.lt, hc⟩
theorem RIo.grown {k : IntKind} {base : Nat} {w w' : World} {A : Option Addr} {xs : List Int} {row : Option Nat} (h : RIo k base w A xs) (hg : w.grownBy w' row) (hne : 0 < xs.length → ∀ b off, A = some ⟨b, off, none⟩ → row ≠ some b) : RIo k base w' A xs := by
 intro h0
 obtain ⟨b, off, e, h1, hlt, hc⟩ := h h0
 refine ⟨b, off, e, h1, Nat.lt_of_lt_of_le hlt hg.size, fun j hj => ?_⟩
 rw [hg.cell_far ⟨b, off + j, none⟩ hlt (fun e2 => hne h0 b off e e2.symm)]
 exact hc j hj
theorem RIo.far {k : IntKind} {base : Nat} {w : World} {A : Option Addr} {xs : List Int} (h : RIo k base w A xs) {p : Addr} (hp : p.block < base) (u : Value) : RIo k base (w.setCell p u) A xs := by
 intro h0
 obtain ⟨b, off, e, h1, hlt, hc⟩ := h h0
 refine ⟨b, off, e, h1, by simpa [World.setCell] using hlt, fun j hj => ?_⟩
 have e2 : (w.setCell p u).heap[b]? = w.heap[b]? := Below.heap_setCell w p u b (by omega)
 rw [World.cell?_of_block (a := ⟨b, off + j, none⟩) e2]
 exact hc j hj
theorem RIo.apart {k : IntKind} {B base : Nat} {w wr : World} {e : TypeId} {s n : Nat} {A : Option Addr} {xs : List Int} {v : Value} {ys : List Value} (h : RIo k B w A xs) (hO : wr.ownsRow base e s v n ys) (hB : wr.heap.size ≤ B) : 0 < xs.length → ∀ b off, A = some ⟨b, off, none⟩ → v.ownBlock ≠ some b := by
 intro h0 b off e2 e3
 obtain ⟨b', off', e', h1, _⟩ := h h0
 rw [e2] at e'
 injection e' with e'
 injection e' with e' _
 have := (hO.lt b e3).2
 omega
def RLL (k : IntKind) (w : World) (A : Option Addr) (L : List (List Int)) : Prop :=
 0 < L.length → ∃ b off, A = some ⟨b, off, none⟩ ∧ b < w.heap.size ∧ ∀ j (hj : j < L.length), ∃ A' c', w.cell? ⟨b, off + j, none⟩ = some (.slice A' L[j].length c') ∧ RI k w A' L[j] ∧ L[j].length ≤ c'
theorem RLL.keep {k : IntKind} {w w' : World} {A : Option Addr} {L : List (List Int)} (h : RLL k w A L) (hb : Below w.heap.size w w') : RLL k w' A L := by
 intro h0
 obtain ⟨b, off, e, hlt, hc⟩ := h h0
 refine ⟨b, off, e, Nat.lt_of_lt_of_le hlt hb.size, fun j hj => ?_⟩
 obtain ⟨A', c', h1, h2, h3⟩ := hc j hj
 exact ⟨A', c', (hb.cell (p := ⟨b, off + j, none⟩) hlt).trans h1, h2.keep hb, h3⟩
theorem RLL.nil {k : IntKind} {w : World} {A : Option Addr} : RLL k w A [] := fun h => absurd h (by simp)
theorem RLL.at_ {k : IntKind} {w : World} {A : Option Addr} {L : List (List Int)} {i : Nat} (h : RLL k w A L) (hi : i < L.length) :
 ∃ b off A' c', A = some ⟨b, off, none⟩ ∧ b < w.heap.size ∧ w.cell? ⟨b, off + i, none⟩ = some (.slice A' L[i].length c') ∧ RI k w A' L[i] ∧ L[i].length ≤ c' := by
 obtain ⟨b, off, e, hlt, hc⟩ := h (by omega)
 obtain ⟨A', c', h1, h2, h3⟩ := hc i hi
 exact ⟨b, off, A', c', e, hlt, h1, h2, h3⟩
def Els (k : IntKind) (base : Nat) (w : World) (own : Option Nat) (raws : List Value) (L : List (List Int)) : Prop :=
 raws.length = L.length ∧ ∀ j (h : j < raws.length) (h' : j < L.length), ∃ A c, raws[j] = .slice A L[j].length c ∧ RIo k base w A L[j] ∧ L[j].length ≤ c ∧ (0 < L[j].length → ∀ b off, A = some ⟨b, off, none⟩ → own ≠ some b)
theorem Els.nil {k : IntKind} {base : Nat} {w : World} {own : Option Nat} : Els k base w own [] [] := ⟨rfl, fun j h => absurd h (by simp)⟩
theorem Els.keep {k : IntKind} {base : Nat} {w w' : World} {own : Option Nat} {raws : List Value} {L : List (List Int)} (h : Els k base w own raws L) (hb : Below w.heap.size w w') : Els k base w' own raws L := by
 refine ⟨h.1, fun j h1 h2 => ?_⟩
 obtain ⟨A, c, e2, h3, h4, h5⟩ := h.2 j h1 h2
 exact ⟨A, c, e2, h3.keep hb, h4, h5⟩
theorem Els.grown {k : IntKind} {base : Nat} {w w' : World} {own own' : Option Nat} {raws : List Value} {L : List (List Int)} (h : Els k base w own raws L) (hg : w.grownBy w' own) (ho : own' = own ∨ ∃ H, own' = some H ∧ w.heap.size ≤ H) : Els k base w' own' raws L := by
 refine ⟨h.1, fun j h1 h2 => ?_⟩
 obtain ⟨A, c, e2, h3, h4, h5⟩ := h.2 j h1 h2
 refine ⟨A, c, e2, h3.grown hg h5, h4, fun h0 b off e => ?_⟩
 rcases ho with rfl | ⟨H, rfl, hH⟩
 ·exact h5 h0 b off e
 ·intro e3
  injection e3 with e3
  obtain ⟨b', off', e', _, hlt, _⟩ := h3 h0
  rw [e] at e'
  injection e' with e'
  injection e' with e' _
  omega
theorem Els.snoc {k : IntKind} {base : Nat} {w : World} {own : Option Nat} {raws : List Value} {L : List (List Int)} (h : Els k base w own raws L) {A : Option Addr} {c : Nat} {xs : List Int} (hr : RIo k base w A xs) (hc : xs.length ≤ c) (hne : 0 < xs.length → ∀ b off, A = some ⟨b, off, none⟩ → own ≠ some b) :
 Els k base w own (raws ++ [.slice A xs.length c]) (L ++ [xs]) := by
 refine ⟨by simp [h.1], fun j h1 h2 => ?_⟩
 rcases Nat.lt_or_ge j raws.length with h3 | h3
 ·rw [List.getElem_append_left h3, List.getElem_append_left (by rw [← h.1]; exact h3)]
  exact h.2 j h3 (by rw [← h.1]; exact h3)
 ·have e1 : j = raws.length := by simp at h1; omega
  have e2 : j = L.length := by rw [← h.1]; exact e1
  rw [List.getElem_append_right (by omega), List.getElem_append_right (by omega)]
  simp only [e1, Nat.sub_self, List.getElem_cons_zero]
  have : (L ++ [xs])[raws.length]'(by simp; rw [h.1]; omega) = xs := by
   rw [List.getElem_append_right (by rw [h.1]; omega)]
   simp [h.1]
  simp only [h.1, Nat.sub_self, List.getElem_cons_zero]
  exact ⟨A, c, rfl, hr, hc, hne⟩
theorem Els.push {k : IntKind} {base : Nat} {w w' : World} {own : Option Nat} {raws : List Value} {L : List (List Int)} {A : Option Addr} {c g H : Nat} {xs : List Int} (h : Els k base w own raws L) (hr : RIo k base w A xs) (hc : xs.length ≤ c) (hne : 0 < xs.length → ∀ b off, A = some ⟨b, off, none⟩ → own ≠ some b)
 (hg : w.grownBy w' own) (hat : own = some g ∨ g = H) (hH : w.heap.size ≤ H) : Els k base w' (some g) (raws ++ [.slice A xs.length c]) (L ++ [xs]) := by
 refine (h.snoc hr hc hne).grown hg ?_
 rcases hat with e | e
 ·exact .inl e.symm
 ·exact .inr ⟨g, rfl, by omega⟩
theorem own_RLL {k : IntKind} {w : World} {base : Nat} {e : TypeId} {A : Option Addr} {c n : Nat} {own : Option Nat} {raws : List Value} {L : List (List Int)} (h : w.ownsRow base e 1 (.slice A n c) n raws) (hE : Els k base w own raws L) : RLL k w A L := by
 intro h0
 have hn : raws.length = n := by have := h.1; omega
 rcases h.2 with ⟨e1, e2⟩ | ⟨g, cap, cur, e1, hg, hheap, hnc, hcap, hcur, htake⟩
 ·have := hE.1; omega
 ·injection e1 with e1 _ _
  subst e1
  refine ⟨g, 0, rfl, (Array.getElem?_eq_some_iff.1 hheap).1, fun j hj => ?_⟩
  have hj2 : j < raws.length := by rw [hE.1]; exact hj
  obtain ⟨A', c', e2, r, hc, _⟩ := hE.2 j hj2 hj
  refine ⟨A', c', ?_, r.ri, hc⟩
  rw [← e2]
  have h1 : (List.take (n * 1) cur.toList)[j]? = some raws[j] := by rw [htake]; exact List.getElem?_eq_getElem hj2
  rw [List.getElem?_take_of_lt (by omega)] at h1
  have hcu : cur[j]? = some raws[j] := by simpa using h1
  simp [World.cell?, hheap, hcu]
theorem blk_RLL {k : IntKind} {w : World} {e : TypeId} {g base : Nat} {own : Option Nat} {raws : List Value} {L : List (List Int)} (h : Blk w g e raws.toArray) (hE : Els k base w own raws L) : RLL k w (some ⟨g, 0, none⟩) L := by
 intro h0
 refine ⟨g, 0, rfl, h.lt, fun j hj => ?_⟩
 have hj2 : j < raws.length := by rw [hE.1]; exact hj
 obtain ⟨A', c', e2, r, hc, _⟩ := hE.2 j hj2 hj
 refine ⟨A', c', ?_, r.ri, hc⟩
 rw [Nat.zero_add, h.cell]
 simp [List.getElem?_eq_getElem hj2, e2]
def RetLL (k : IntKind) (w : World) (r : List (List Int) × Int) (e : Ending) (w' : World) : Prop :=
 ∃ A c, e = .returned (.tuple #[.slice A r.1.length c, .int .i64 r.2]) ∧ RLL k w' A r.1 ∧ Below w.heap.size w w'
theorem RetLL.no {k : IntKind} {w w' : World} {x : Int} {r : List (List Int) × Int} (hr : r = ([], x)) (hb : Below w.heap.size w w') : RetLL k w r (.returned (.tuple #[.slice none 0 0, .int .i64 x])) w' := by
 subst hr; exact ⟨none, 0, rfl, RLL.nil, hb⟩
theorem RetLL.own {k : IntKind} {w w' : World} {A : Option Addr} {c n : Nat} {L : List (List Int)} {x : Int} {r : List (List Int) × Int} (hr : r = (L, x)) (hn : L.length = n) (h : RLL k w' A L) (hb : Below w.heap.size w w') : RetLL k w r (.returned (.tuple #[.slice A n c, .int .i64 x])) w' := by
 subst hr; subst hn; exact ⟨A, c, rfl, h, hb⟩
end Lol
end Go.Proofs.YtelkokcnedbmeaaGreat
namespace Go.Proofs.YtelkokcnedbmeaaGreat
open Go.RowKit Num
set_option maxRecDepth 20000
set_option maxRecDepth 8000
set_option linter.unusedVariables false
set_option linter.unusedSimpArgs false
def RetN (w : World) (r : List Int × Int) (e : Ending) (w' : World) : Prop :=
 ∃ A c, e = .returned (.tuple #[.slice A r.1.length c, .int .i64 r.2]) ∧ Lol.RIo .i64 w.heap.size w' A r.1 ∧ r.1.length ≤ c ∧ Below w.heap.size w w'
theorem RetN.no {w w' : World} {x : Int} {r : List Int × Int} (hr : r = ([], x)) (hb : Below w.heap.size w w') : RetN w r (.returned (.tuple #[.slice none 0 0, .int .i64 x])) w' := by
 subst hr; exact ⟨none, 0, rfl, fun h => absurd h (by simp), by simp, hb⟩
theorem RetN.blk {w w' : World} {g n : Nat} {l : List Int} {x : Int} {r : List Int × Int} (hr : r = (l, x)) (hn : l.length = n) (hg : w.heap.size ≤ g) (h : Blk w' g 2 (l.flatMap (encI .i64)).toArray) (hb : Below w.heap.size w w') : RetN w r (.returned (.tuple #[.slice (some ⟨g, 0, none⟩) n n, .int .i64 x])) w' := by
 subst hr; subst hn; exact ⟨_, _, rfl, Lol.blk_RIo h hg, Nat.le_refl _, hb⟩
theorem RetN.row {w w' : World} {A : Option Addr} {c n : Nat} {l : List Int} {x : Int} {r : List Int × Int} (hr : r = (l, x)) (hn : l.length = n) (h : Lol.RIo .i64 w.heap.size w' A l) (hc : n ≤ c) (hb : Below w.heap.size w w') : RetN w r (.returned (.tuple #[.slice A n c, .int .i64 x])) w' := by
 subst hr; subst hn; exact ⟨A, c, rfl, h, hc, hb⟩
theorem fwdN_any (p : Int) (A : Option Addr) (c : Nat) (l : List Int) (w : World) (hx : RI .i64 w A l) (hl : l.length ≤ 9223372036854775807) (hp1 : -9223372036854775808 ≤ p) (hp2 : p ≤ 9223372036854775807) :
 Calls Tryz.prog 101 #[.int .i64 p, .slice A l.length c] w (RetN w (fwdS p l)) := by
 rcases chkL_cases p l with ⟨e0, P, rfl, hF⟩ | e0
 ·have c0 : (chkL (P : Int) l != 0) = false := by rw [e0]; rfl
  have HS := Lib.hid (show fwdS (P : Int) l = (fwdL P l, 0) by unfold fwdS; rw [if_pos e0]; rfl)
  have h1 := hF.l1
  have h2 := hF.l64
  have h3 := hF.pr.1
  have h4 := hF.le
  have hlt := rootN_lt (P := P) (n := l.length) (by omega)
  have HR := Lib.hid (rootS_fit hF)
  have hC := fun w => ringRoot_any (P : Int) (l.length : Int) w (by omega) (by omega) (by omega)
  simp only [HR.out] at hC
  have HC := Lib.hid hC
  have HF := Lib.hid hF
  clear hC hF e0
  have hwl := fullL_len (pwF P (rootN P l.length)) l.length
  go_enter Tryz.func101, Tryz.ntmps101
  go_wp2_with fail
  refine (chkF_any _ _ _ _ _ hx hl (by omega) (by omega)).mono ?_
  rintro _ w1 ⟨rfl, hb1⟩
  go_wp2_with fail
  refine (HC.out _).mono ?_
  rintro _ w2 ⟨rfl, hb2⟩
  have hB2 := bstep hb1 hb2
  clear hb1 hb2
  go_wp2_with fail
  refine (powers_any P (rootN P l.length) l.length _ h3 h4 hlt (by omega)).mono ?_
  rintro _ w3 ⟨g3, rfl, hg3, hk3, hb3⟩
  have r3 := blk_RI hk3
  have hB3 := bstep hB2 hb3
  clear hB2 hb3 hk3
  simp only [hwl]
  have hT := transform_any P A (some ⟨g3, 0, none⟩) c l.length l (pwF P (rootN P l.length)) w3 h3 h4 (hx.keep hB3) r3 h1 h2 HF.out.el (fun j _ => pwF_bd (by omega) j)
  go_wp2_with fail
  refine (hT).mono ?_
  rintro _ w4 ⟨g4, rfl, hg4, hk4, hb4⟩
  go_wp2
  go_ret2
  exact RetN.blk HS.out rfl (Nat.le_trans hB3.size hg4) hk4 (bstep hB3 hb4)
 ·have c0 : (chkL p l != 0) = true := by rw [bne_iff_ne]; exact e0
  have HS := Lib.hid (show fwdS p l = ([], chkL p l) by unfold fwdS; rw [if_neg e0])
  clear e0
  go_enter Tryz.func101, Tryz.ntmps101
  go_wp2_with fail
  refine (chkF_any _ _ _ _ _ hx hl hp1 hp2).mono ?_
  rintro _ w1 ⟨rfl, hb1⟩
  go_wp2
  go_ret2
  exact RetN.no HS.out hb1
set_option maxHeartbeats 1000000 in
theorem signedN_any (p : Int) (A : Option Addr) (c : Nat) (l : List Int) (w : World) (hx : RI .i64 w A l) (hl : l.length ≤ 9223372036854775807) (hp1 : -9223372036854775808 ≤ p) (hp2 : p ≤ 9223372036854775807) :
 Calls Tryz.prog 86 #[.int .i64 p, .slice A l.length c] w (RetN w (sgS p l)) := by
 rcases chkL_cases p l with ⟨e0, P, rfl, hF⟩ | e0
 ·have c0 : (chkL (P : Int) l != 0) = false := by rw [e0]; rfl
  have HS := Lib.hid (show sgS (P : Int) l = (fullL (sgF P l) l.length, 0) by unfold sgS; rw [if_pos e0]; rfl)
  have h1 := hF.l1
  have h2 := hF.l64
  have h4 := hF.le
  have HF := Lib.hid hF
  clear e0 hF
  obtain ⟨i0, hi0, hz0, hz1, hz2⟩ := info_int64
  have hmk := mk_row (P := Tryz.prog) 62 2 Tryz.underlying62 hi0 hz0 hz1 hz2 (encI .i64) (encI_len .i64) (by omega) 0 rfl l.length (by omega) (by omega)
  go_enter Tryz.func86, Tryz.ntmps86
  go_wp2_with fail
  refine (chkF_any _ _ _ _ _ hx hl (by omega) (by omega)).mono ?_
  rintro _ w1 ⟨rfl, hb1⟩
  go_wp2
  go_loopg [21] l.length (fun gk i wr => ∃ k : Nat, k + gk = l.length ∧ i = .int .i64 k ∧ Blk wr w1.heap.size 2 ((partL (sgF P l) 0 l.length k).flatMap (encI .i64)).toArray ∧ Below w1.heap.size w1 wr)
  case atStart => exact ⟨0, by omega, rfl, by rw [partL_start]; exact Blk.new w1 2 _, balloc (Below.refl _ _) _⟩
  case round =>
   obtain ⟨k, hk, rfl, hO, hb⟩ := hrel
   have hk' : k ≤ l.length := by omega
   have HK := Lib.hid hk
   clear hk hmk
   by_cases hlt : k < l.length
   ·obtain ⟨b1, off1, rfl, hlw1, hc1⟩ := ((hx.keep hb1).keep hb).at2 hlt
    have bx := HF.out.el k hlt
    have o0 := blkI_at hO (j := k) (by rw [partL_len]; exact hlt)
    have of0 := hO.frozen k
    have hgl := hO.lt
    have HN := Lib.hid (show sgF P l k = if (P : Int) < 2 * l.getD k 0 then l.getD k 0 - P else l.getD k 0 from rfl)
    generalize l.getD k 0 = X at *
    by_cases h2x : (P : Int) < 2 * X
    ·have d1 : decide ((P : Int) < 2 * X) = true := decide_eq_true h2x
     have HM := Lib.hid (partL_set (sgF P l) 0 l.length k (X - P) (by rw [HN.out, if_pos h2x]))
     clear h2x
     go_wp2
     go_roundg (gk - 1)
     case rel => exact ⟨k + 1, by have := HK.out; omega, by go_num, by rw [← HM.out]; exact blkI_set hO (by rw [partL_len]; exact hlt) _, hb.setCell (p := ⟨w1.heap.size, k, none⟩) (Nat.le_refl _) _⟩
     case measure => have := HK.out; omega
    ·have d1 : decide ((P : Int) < 2 * X) = false := decide_eq_false h2x
     have HM := Lib.hid (partL_set (sgF P l) 0 l.length k X (by rw [HN.out, if_neg h2x]))
     clear h2x
     go_wp2
     go_roundg (gk - 1)
     case rel => exact ⟨k + 1, by have := HK.out; omega, by go_num, by rw [← HM.out]; exact blkI_set hO (by rw [partL_len]; exact hlt) _, hb.setCell (p := ⟨w1.heap.size, k, none⟩) (Nat.le_refl _) _⟩
     case measure => have := HK.out; omega
   ·rw [partL_end _ _ _ _ (by omega)] at hO
    go_wp2
    go_ret2
    exact RetN.blk HS.out (fullL_len _ _) hb1.size hO (bstep hb1 hb)
 ·have c0 : (chkL p l != 0) = true := by rw [bne_iff_ne]; exact e0
  have HS := Lib.hid (show sgS p l = ([], chkL p l) by unfold sgS; rw [if_neg e0])
  clear e0
  go_enter Tryz.func86, Tryz.ntmps86
  go_wp2_with fail
  refine (chkF_any _ _ _ _ _ hx hl hp1 hp2).mono ?_
  rintro _ w1 ⟨rfl, hb1⟩
  go_wp2
  go_ret2
  exact RetN.no HS.out hb1
end Go.Proofs.YtelkokcnedbmeaaGreat
