/-
  Jobs of layer 19. Works (states): what they are; contract: worker.idle.
-/
import Derived.Test.YtdekbncpodjgnaaWkG
import Derived.Test.YtdekbncpodjgnaaAccZ3
import Derived.Deep.Onto
import Derived.Test.YtdekbncpodjgnaaAppend
import Derived.Deep.DrawnRows
import Derived.Deep.RegionLaw
import Derived.Laws.CopyOwn
namespace Go.Proofs.Ytdekbncpodjgnaa
open Go.RowKit
set_option linter.unusedVariables false
set_option linter.unusedSimpArgs false
namespace Wk
open Lagw

set_option maxHeartbeats 1000000 in
theorem idle_any (n : Nat) (w : World) (hn : n ≤ 1000) :
    Calls Try.prog 44 #[.int .i64 (n : Int)] w fun e w' => e = .returned (.slice (some ⟨w.heap.size, 0, none⟩) n n) ∧ Blk w' w.heap.size 3 ((List.replicate n (-1 : Int)).flatMap (encI .i64)).toArray ∧ Below w.heap.size w w' := by
  obtain ⟨i0, hi0, hz0, hz1, hz2⟩ := info_parts info_int
  have hmk := mk_row (P := Try.prog) 22 3 Try.underlying22 hi0 hz0 hz1 hz2 (encI .i64) (encI_len .i64) (by omega) 0 rfl n (by omega) (by omega)
  have HE : Hid (fullL (fun _ => (-1 : Int)) n = List.replicate n (-1)) := Lib.hid (by
    refine List.ext_getElem (by rw [fullL_len, List.length_replicate]) fun j h1 h2 => ?_
    simp [fullL])
  go_enter Try.func44, Try.ntmps44
  go_wp2
  go_loopg [9] n (fun gk i wr => ∃ k : Nat, k + gk = n ∧ i = .int .i64 k ∧ Blk wr w.heap.size 3 ((partL (fun _ => (-1 : Int)) 0 n k).flatMap (encI .i64)).toArray ∧ Below w.heap.size w wr)
  case atStart => exact ⟨0, by omega, rfl, by rw [partL_start]; exact Blk.new w 3 _, balloc (Below.refl _ _) _⟩
  case round =>
    obtain ⟨k, hk, rfl, hO, hb⟩ := hrel
    have hk' : k ≤ n := by omega
    have HK := Lib.hid hk
    clear hk hmk
    by_cases hlt : k < n
    · have o0 := blkI_at hO (j := k) (by rw [partL_len]; omega)
      have of0 := hO.frozen k
      have hgl := hO.lt
      have HM := Lib.hid (partL_set (fun _ => (-1 : Int)) 0 n k (-1) rfl)
      go_wp2
      go_roundg (gk - 1)
      case rel => exact ⟨k + 1, by have := HK.out; omega, by go_num, by rw [← HM.out]; exact blkI_set hO (by rw [partL_len]; omega) _, hb.setCell (p := ⟨w.heap.size, k, none⟩) (Nat.le_refl _) _⟩
      case measure => have := HK.out; omega
    · rw [partL_end _ _ _ _ (by omega), HE.out] at hO
      go_wp2
      go_ret
      exact ⟨rfl, hO, hb⟩
structure Work where
  a : Acc
  d : List Bool
  t : List Int
def Work.none : Work := ⟨.none, [], []⟩
def RBo (w : World) (A : Option Addr) (l : List Bool) : Prop :=
  0 < l.length → ∃ b off, A = some ⟨b, off, none⟩ ∧ b < w.heap.size ∧ ∀ j, j < l.length → w.cell? ⟨b, off + j, none⟩ = some (.bool (l.getD j false))
theorem RBo.nil {w : World} {A : Option Addr} : RBo w A [] := fun h => absurd h (by simp)
theorem RBo.keep {w w' : World} {A : Option Addr} {l : List Bool} (h : RBo w A l) (hb : Below w.heap.size w w') : RBo w' A l := by
  intro h0
  obtain ⟨b, off, e, hlt, hc⟩ := h h0
  exact ⟨b, off, e, Nat.lt_of_lt_of_le hlt hb.size, fun j hj => (hb.cell (p := ⟨b, off + j, none⟩) hlt).trans (hc j hj)⟩
def encB (x : Bool) : List Value := [.bool x]
theorem encB_len (x : Bool) : (encB x).length = 1 := rfl
theorem flatB (l : List Bool) : l.flatMap encB = l.map Value.bool := by induction l <;> simp_all [encB]
theorem blk_RBo {w : World} {e : TypeId} {g : Nat} {l : List Bool} (h : Blk w g e (l.flatMap encB).toArray) : RBo w (some ⟨g, 0, none⟩) l := by
  intro h0
  refine ⟨g, 0, rfl, h.lt, fun j hj => ?_⟩
  rw [Nat.zero_add, h.cell, flatB]
  simp [List.getD_eq_getElem?_getD, hj]
structure RW (w : World) (S N G D T : Option Addr) (r : Work) : Prop where
  a : RA w S N G r.a
  d : RBo w D r.d
  t : RI .i64 w T r.t
theorem RW.keep {w w' : World} {S N G D T : Option Addr} {r : Work} (h : RW w S N G D T r) (hb : Below w.heap.size w w') : RW w' S N G D T r := ⟨h.a.keep hb, h.d.keep hb, h.t.keep hb⟩
def RetW (w : World) (r : Work × Int) (e : Ending) (w' : World) : Prop :=
  ∃ S N G D T c1 c2 c3 c4 c5, e = .returned (.tuple #[.agg #[.slice S r.1.a.s.length c1, .slice N r.1.a.n.length c2, .slice G r.1.a.g.length c3, .slice D r.1.d.length c4, .slice T r.1.t.length c5], .int .i64 r.2]) ∧ RW w' S N G D T r.1 ∧ Below w.heap.size w w'
theorem RetW.no {w w' : World} {r : Work × Int} {x : Int} (hr : r = (.none, x)) (hb : Below w.heap.size w w') : RetW w r (.returned (.tuple #[.agg #[.slice .none 0 0, .slice .none 0 0, .slice .none 0 0, .slice .none 0 0, .slice .none 0 0], .int .i64 x])) w' := by
  subst hr; exact ⟨.none, .none, .none, .none, .none, 0, 0, 0, 0, 0, rfl, ⟨RA.none, RBo.nil, RI.nil⟩, hb⟩
def openS (xs ys : List Int) (m s n : Int) : Work × Int :=
  if jobErr xs ys m s ≠ 0 then (.none, jobErr xs ys m s) else if n < 1 ∨ 6 < n then (.none, 2) else (⟨(newS m).1, List.replicate (cdiv xs.length s.toNat) false, List.replicate n.toNat (-1)⟩, 0)
theorem openS_err {xs ys : List Int} {m s n : Int} (h : ¬ jobErr xs ys m s = 0) : openS xs ys m s n = (.none, jobErr xs ys m s) := by simp [openS, h]
theorem openS_arg {xs ys : List Int} {m s n : Int} (h : jobErr xs ys m s = 0) (h2 : n < 1 ∨ 6 < n) : openS xs ys m s n = (.none, 2) := by
  unfold openS; rw [if_neg (by simp [h]), if_pos h2]
theorem openS_ok {xs ys : List Int} {M S n : Nat} (h : jobErr xs ys M S = 0) (h2 : ¬ ((n : Int) < 1 ∨ 6 < (n : Int))) : openS xs ys M S n = (⟨(newS M).1, List.replicate (cdiv xs.length S) false, List.replicate n (-1)⟩, 0) := by
  unfold openS; rw [if_neg (by simp [h]), if_neg h2]
  simp
theorem open_fin {w w6 : World} {g base : Nat} {S N G : Option Addr} {a : Acc} {C K D T x1 x2 x3 : Nat} {r : Work × Int} (hD : Blk w6 D 4 ((List.replicate C false).flatMap encB).toArray) (hT : Blk w6 T 3 ((List.replicate K (-1 : Int)).flatMap (encI .i64)).toArray) (ra : RA w6 S N G a) (fa : FA base S N G) (hg : g < base) (hgD : D ≠ g) (hgT : T ≠ g) (hb : Below w.heap.size w w6) (hgw : w.heap.size ≤ g) (hr : r = (⟨a, List.replicate C false, List.replicate K (-1)⟩, 0)) (v0 v1 v2 v3 v4 : Value) :
    RetW w r (.returned (.tuple #[.agg #[.slice S a.s.length x1, .slice N a.n.length x2, .slice G a.g.length x3, .slice (some ⟨D, 0, none⟩) C C, .slice (some ⟨T, 0, none⟩) K K], .int .i64 0])) (((((w6.setCell ⟨g, 0, none⟩ v0).setCell ⟨g, 1, none⟩ v1).setCell ⟨g, 2, none⟩ v2).setCell ⟨g, 3, none⟩ v3).setCell ⟨g, 4, none⟩ v4) := by
  subst hr
  refine ⟨S, N, G, some ⟨D, 0, none⟩, some ⟨T, 0, none⟩, x1, x2, x3, C, K, by simp, ⟨?_, ?_, ?_⟩, ?_⟩
  · exact ((((ra.far fa (p := ⟨g, 0, none⟩) hg _).far fa (p := ⟨g, 1, none⟩) hg _).far fa (p := ⟨g, 2, none⟩) hg _).far fa (p := ⟨g, 3, none⟩) hg _).far fa (p := ⟨g, 4, none⟩) hg _
  · exact blk_RBo (((((hD.far (p := ⟨g, 0, none⟩) hgD _).far (p := ⟨g, 1, none⟩) hgD _).far (p := ⟨g, 2, none⟩) hgD _).far (p := ⟨g, 3, none⟩) hgD _).far (p := ⟨g, 4, none⟩) hgD _)
  · exact blk_RI (((((hT.far (p := ⟨g, 0, none⟩) hgT _).far (p := ⟨g, 1, none⟩) hgT _).far (p := ⟨g, 2, none⟩) hgT _).far (p := ⟨g, 3, none⟩) hgT _).far (p := ⟨g, 4, none⟩) hgT _)
  · exact ((((hb.setCell (p := ⟨g, 0, none⟩) hgw _).setCell (p := ⟨g, 1, none⟩) hgw _).setCell (p := ⟨g, 2, none⟩) hgw _).setCell (p := ⟨g, 3, none⟩) hgw _).setCell (p := ⟨g, 4, none⟩) hgw _
theorem info_bool : (Try.prog.info? 4).map (fun i => (i.zero, i.size, i.bytes)) = some (some (.bool false), 1, 1) := by kernel_rfl
end Wk
end Go.Proofs.Ytdekbncpodjgnaa
