/-
  Parts of the proof of WorkerNames: RegM WkS RegE CloneG.
-/
import Derived.Test.YtdekbncpodjgnaaT12
import Derived.Deep.AppendLies
import Derived.Deep.RegionLawGrows
import Derived.Test.YtdekbncpodjgnaaT03
import Derived.Test.YtdekbncpodjgnaaT11
import Derived.Deep.DeepCutAuto
import Derived.Deep.Onto
import Derived.Deep.DrawnRows
import Derived.Deep.RegionLaw
import Derived.Laws.CopyOwn
import Derived.Test.YtdekbncpodjgnaaT01
namespace Go.Proofs.Ytdekbncpodjgnaa
open Go Go.RowKit
set_option linter.unusedVariables false
set_option linter.unusedSimpArgs false
namespace Reg
section
variable {P : Program} {ops : Array Oper} {Q : Exit → Act → World → Prop}
theorem ev_tmps {a : Act} {t : Nat} {v : Value} (h : a.eval (.tmp t) = v) : a.tmps[t]?.getD undef = v := by rw [← h]; simp [Act.eval, Array.getD_eq_getD_getElem?]
theorem grown_put {a w : World} {b : Nat} (h : a.grownBy w (some b)) (i : Nat) (v : Value) : a.grownBy (w.setCell ⟨b, i, none⟩ v) (some b) :=
 ⟨h.os, h.tape, h.output, by simpa [World.setCell] using h.size, fun k hk hr => (Below.heap_setCell w ⟨b, i, none⟩ v k (fun e => hr (by rw [e]))).trans (h.block k hk hr)⟩
theorem below_grown {w w' : World} (h : Below w.heap.size w w') (row : Option Nat) : w.grownBy w' row := ⟨h.os, h.tape, h.output, h.size, fun k hk _ => h.block k hk⟩
end
end Reg
end Go.Proofs.Ytdekbncpodjgnaa
namespace Go.Proofs.Ytdekbncpodjgnaa
open Go.RowKit
set_option linter.unusedVariables false
set_option linter.unusedSimpArgs false
namespace Wk
open Lagw
set_option maxHeartbeats 1000000 in
theorem idle_any (n : Nat) (w : World) (hn : n ≤ 1000) :
 Calls Try.prog 44 #[.int .i64 (n : Int)] w fun e w' => e = .returned (.slice (some ⟨w.heap.size, 0, none⟩) n n) ∧ Blk w' w.heap.size 3 ((List.replicate n (-1 : Int)).flatMap (encI .i64)).toArray ∧ Below w.heap.size w w' := by
 obtain ⟨i0, hi0, hz0, hz1, hz2⟩ := info_parts info_int
 have hmk := mk_row (P := Try.prog) 22 3 Try.underlying22 hi0 hz0 hz1 hz2 (encI .i64) (encI_len .i64) (by omega) 0 rfl n (by omega) (by omega)
 have HE : Hid (fullL (fun _ => (-1 : Int)) n = List.replicate n (-1)) := Lib.hid (by
  refine List.ext_getElem (by rw [fullL_len, List.length_replicate]) fun j h1 h2 => ?_
  simp [fullL])
 go_enter Try.func44, Try.ntmps44
 go_wp2
 go_loopg [9] n (fun gk i wr => ∃ k : Nat, k + gk = n ∧ i = .int .i64 k ∧ Blk wr w.heap.size 3 ((partL (fun _ => (-1 : Int)) 0 n k).flatMap (encI .i64)).toArray ∧ Below w.heap.size w wr)
 case atStart => exact ⟨0, by omega, rfl, by rw [partL_start]; exact Blk.new w 3 _, balloc (Below.refl _ _) _⟩
 case round =>
  obtain ⟨k, hk, rfl, hO, hb⟩ := hrel
  have hk' : k ≤ n := by omega
  have HK := Lib.hid hk
  clear hk hmk
  by_cases hlt : k < n
  ·have o0 := blkI_at hO (j := k) (by rw [partL_len]; omega)
   have of0 := hO.frozen k
   have hgl := hO.lt
   have HM := Lib.hid (partL_set (fun _ => (-1 : Int)) 0 n k (-1) rfl)
   go_wp2
   go_roundg (gk - 1)
   case rel => exact ⟨k + 1, by have := HK.out; omega, by go_num, by rw [← HM.out]; exact blkI_set hO (by rw [partL_len]; omega) _, hb.setCell (p := ⟨w.heap.size, k, none⟩) (Nat.le_refl _) _⟩
   case measure => have := HK.out; omega
  ·rw [partL_end _ _ _ _ (by omega), HE.out] at hO
   go_wp2
   go_ret
   exact ⟨rfl, hO, hb⟩
structure Work where
 a : Acc
 d : List Bool
 t : List Int
def Work.none : Work := ⟨.none, [], []⟩
def RBo (w : World) (A : Option Addr) (l : List Bool) : Prop :=
 0 < l.length → ∃ b off, A = some ⟨b, off, none⟩ ∧ b < w.heap.size ∧ ∀ j, j < l.length → w.cell? ⟨b, off + j, none⟩ = some (.bool (l.getD j false))
theorem RBo.nil {w : World} {A : Option Addr} : RBo w A [] := fun h => absurd h (by simp)
theorem RBo.keep {w w' : World} {A : Option Addr} {l : List Bool} (h : RBo w A l) (hb : Below w.heap.size w w') : RBo w' A l := by
 intro h0
 obtain ⟨b, off, e, hlt, hc⟩ := h h0
 exact ⟨b, off, e, Nat.lt_of_lt_of_le hlt hb.size, fun j hj => (hb.cell (p := ⟨b, off + j, none⟩) hlt).trans (hc j hj)⟩
def encB (x : Bool) : List Value := [.bool x]
theorem encB_len (x : Bool) : (encB x).length = 1 := rfl
theorem flatB (l : List Bool) : l.flatMap encB = l.map Value.bool := by induction l <;> simp_all [encB]
theorem blk_RBo {w : World} {e : TypeId} {g : Nat} {l : List Bool} (h : Blk w g e (l.flatMap encB).toArray) : RBo w (some ⟨g, 0, none⟩) l := by
 intro h0
 refine ⟨g, 0, rfl, h.lt, fun j hj => ?_⟩
 rw [Nat.zero_add, h.cell, flatB]
 simp [List.getD_eq_getElem?_getD, hj]
structure RW (w : World) (S N G D T : Option Addr) (r : Work) : Prop where
 a : RA w S N G r.a
 d : RBo w D r.d
 t : RI .i64 w T r.t
theorem RW.keep {w w' : World} {S N G D T : Option Addr} {r : Work} (h : RW w S N G D T r) (hb : Below w.heap.size w w') : RW w' S N G D T r := ⟨h.a.keep hb, h.d.keep hb, h.t.keep hb⟩
def RetW (w : World) (r : Work × Int) (e : Ending) (w' : World) : Prop :=
 ∃ S N G D T c1 c2 c3 c4 c5, e = .returned (.tuple #[.agg #[.slice S r.1.a.s.length c1, .slice N r.1.a.n.length c2, .slice G r.1.a.g.length c3, .slice D r.1.d.length c4, .slice T r.1.t.length c5], .int .i64 r.2]) ∧ RW w' S N G D T r.1 ∧ Below w.heap.size w w'
theorem RetW.no {w w' : World} {r : Work × Int} {x : Int} (hr : r = (.none, x)) (hb : Below w.heap.size w w') : RetW w r (.returned (.tuple #[.agg #[.slice .none 0 0, .slice .none 0 0, .slice .none 0 0, .slice .none 0 0, .slice .none 0 0], .int .i64 x])) w' := by
 subst hr; exact ⟨.none, .none, .none, .none, .none, 0, 0, 0, 0, 0, rfl, ⟨RA.none, RBo.nil, RI.nil⟩, hb⟩
def openS (xs ys : List Int) (m s n : Int) : Work × Int :=
 if jobErr xs ys m s ≠ 0 then (.none, jobErr xs ys m s) else if n < 1 ∨ 6 < n then (.none, 2) else (⟨(newS m).1, List.replicate (cdiv xs.length s.toNat) false, List.replicate n.toNat (-1)⟩, 0)
theorem openS_err {xs ys : List Int} {m s n : Int} (h : ¬ jobErr xs ys m s = 0) : openS xs ys m s n = (.none, jobErr xs ys m s) := by simp [openS, h]
theorem openS_arg {xs ys : List Int} {m s n : Int} (h : jobErr xs ys m s = 0) (h2 : n < 1 ∨ 6 < n) : openS xs ys m s n = (.none, 2) := by
 unfold openS; rw [if_neg (by simp [h]), if_pos h2]
theorem openS_ok {xs ys : List Int} {M S n : Nat} (h : jobErr xs ys M S = 0) (h2 : ¬ ((n : Int) < 1 ∨ 6 < (n : Int))) : openS xs ys M S n = (⟨(newS M).1, List.replicate (cdiv xs.length S) false, List.replicate n (-1)⟩, 0) := by
 unfold openS; rw [if_neg (by simp [h]), if_neg h2]
 simp
theorem open_fin {w w6 : World} {g base : Nat} {S N G : Option Addr} {a : Acc} {C K D T x1 x2 x3 : Nat} {r : Work × Int} (hD : Blk w6 D 4 ((List.replicate C false).flatMap encB).toArray) (hT : Blk w6 T 3 ((List.replicate K (-1 : Int)).flatMap (encI .i64)).toArray) (ra : RA w6 S N G a) (fa : FA base S N G) (hg : g < base) (hgD : D ≠ g) (hgT : T ≠ g) (hb : Below w.heap.size w w6) (hgw : w.heap.size ≤ g) (hr : r = (⟨a, List.replicate C false, List.replicate K (-1)⟩, 0)) (v0 v1 v2 v3 v4 : Value) :
 RetW w r (.returned (.tuple #[.agg #[.slice S a.s.length x1, .slice N a.n.length x2, .slice G a.g.length x3, .slice (some ⟨D, 0, none⟩) C C, .slice (some ⟨T, 0, none⟩) K K], .int .i64 0])) (((((w6.setCell ⟨g, 0, none⟩ v0).setCell ⟨g, 1, none⟩ v1).setCell ⟨g, 2, none⟩ v2).setCell ⟨g, 3, none⟩ v3).setCell ⟨g, 4, none⟩ v4) := by
 subst hr
 refine ⟨S, N, G, some ⟨D, 0, none⟩, some ⟨T, 0, none⟩, x1, x2, x3, C, K, by simp, ⟨?_, ?_, ?_⟩, ?_⟩
 ·exact ((((ra.far fa (p := ⟨g, 0, none⟩) hg _).far fa (p := ⟨g, 1, none⟩) hg _).far fa (p := ⟨g, 2, none⟩) hg _).far fa (p := ⟨g, 3, none⟩) hg _).far fa (p := ⟨g, 4, none⟩) hg _
 ·exact blk_RBo (((((hD.far (p := ⟨g, 0, none⟩) hgD _).far (p := ⟨g, 1, none⟩) hgD _).far (p := ⟨g, 2, none⟩) hgD _).far (p := ⟨g, 3, none⟩) hgD _).far (p := ⟨g, 4, none⟩) hgD _)
 ·exact blk_RI (((((hT.far (p := ⟨g, 0, none⟩) hgT _).far (p := ⟨g, 1, none⟩) hgT _).far (p := ⟨g, 2, none⟩) hgT _).far (p := ⟨g, 3, none⟩) hgT _).far (p := ⟨g, 4, none⟩) hgT _)
 ·exact ((((hb.setCell (p := ⟨g, 0, none⟩) hgw _).setCell (p := ⟨g, 1, none⟩) hgw _).setCell (p := ⟨g, 2, none⟩) hgw _).setCell (p := ⟨g, 3, none⟩) hgw _).setCell (p := ⟨g, 4, none⟩) hgw _
theorem info_bool : (Try.prog.info? 4).map (fun i => (i.zero, i.size, i.bytes)) = some (some (.bool false), 1, 1) := by kernel_rfl
end Wk
end Go.Proofs.Ytdekbncpodjgnaa
namespace Go.Proofs.Ytdekbncpodjgnaa
open Go Go.RowKit
set_option linter.unusedVariables false
set_option linter.unusedSimpArgs false
namespace Reg
section
variable {P : Program} {ops : Array Oper} {Q : Exit → Act → World → Prop}
def endB (ops : Array Oper) (st : Nat) : Bool :=
 match ops[st]? with
 | none => false
 | some o => (List.range ops.size).all fun j => j == st || o.after.toList.any fun e => e.on == j && Region.binds .any e
def GrowOk (P : Program) (ops : Array Oper) (Q : Exit → Act → World → Prop) (a0 : Act) (w0 : World) (G : Nat → Value → World → Prop) (i : Nat) (o : Oper) : Prop :=
 ∀ (val : Nat → Value) (a : Act) (w : World), Below w0.heap.size w0 w →
  (∀ j d oj, ops[j]? = some oj → oj.dst = some d → (o.after.toList.any fun e => e.on == j && Region.binds .any e) = true → a.eval (.tmp d) = val j ∧ G j (val j) w) →
  (∀ t, (ops.toList.all fun o : Oper => o.dst != some t) = true → a.eval (.tmp t) = a0.eval (.tmp t)) →
  ∀ K : Act → World → Prop, (∀ v w', Below w.heap.size w w' → G i v w' → K (a.put o.dst v) w') →
  if Region.wanted o (yielded ops a.tmps) = true then o.wp P a w K Q else K (a.put o.dst undef) w
def LastOk (P : Program) (ops : Array Oper) (Q : Exit → Act → World → Prop) (a0 : Act) (w0 : World) (G : Nat → Value → World → Prop) (F : (Nat → Value) → World → Prop) (i : Nat) (o : Oper) : Prop :=
 ∀ (val : Nat → Value) (a : Act) (w : World), Below w0.heap.size w0 w → (∀ k, k < ops.size → k ≠ i → G k (val k) w) →
  (∀ j d oj, ops[j]? = some oj → oj.dst = some d → j ≠ i → a.eval (.tmp d) = val j) →
  (∀ t, (ops.toList.all fun o : Oper => o.dst != some t) = true → a.eval (.tmp t) = a0.eval (.tmp t)) →
  ∀ K : Act → World → Prop, (∀ v w', F (upd val i v) w' → K (a.put o.dst v) w') →
  if Region.wanted o (yielded ops a.tmps) = true then o.wp P a w K Q else K (a.put o.dst undef) w
def EndOk (P : Program) (ops : Array Oper) (Q : Exit → Act → World → Prop) (a0 : Act) (w0 : World) (G : Nat → Value → World → Prop) (st : Nat) (F : (Nat → Value) → World → Prop) (i : Nat) (o : Oper) : Prop :=
 (i ≠ st → GrowOk P ops Q a0 w0 G i o) ∧ (i = st → LastOk P ops Q a0 w0 G F i o)
theorem EndOk.grow {a0 : Act} {w0 : World} {G : Nat → Value → World → Prop} {st : Nat} {F : (Nat → Value) → World → Prop} {i : Nat} {o : Oper} (h : GrowOk P ops Q a0 w0 G i o) (hi : i ≠ st) : EndOk P ops Q a0 w0 G st F i o := ⟨fun _ => h, fun e => absurd e hi⟩
theorem EndOk.last {a0 : Act} {w0 : World} {G : Nat → Value → World → Prop} {F : (Nat → Value) → World → Prop} {i : Nat} {o : Oper} (h : LastOk P ops Q a0 w0 G F i o) : EndOk P ops Q a0 w0 G i F i o := ⟨fun e => absurd rfl e, fun _ => h⟩
theorem wp_region_end {id : Nat} {a0 : Act} {w : World} (hm : P.follows .mixedOrders = true) (hback : backB ops = true) (hdst : dstB ops a0.tmps.size = true)
 (G : Nat → Value → World → Prop) (st : Nat) (F : (Nat → Value) → World → Prop) (hend : endB ops st = true) (hG : ∀ k v w w', Below w.heap.size w w' → G k v w → G k v w')
 (hs : AllIdx (EndOk P ops Q a0 w G st F) 0 ops.toList)
 (hd : ∀ val w', F val w' → Q .normal (putL val 0 ops.toList a0) w') : (Code.region id ops true).wp P Q a0 w := by
 have hst : st < ops.size := by
  unfold endB at hend
  rcases Nat.lt_or_ge st ops.size with h | h
  ·exact h
  ·rw [Array.getElem?_eq_none h] at hend; cases hend
 have hedge : ∀ o, ops[st]? = some o → ∀ j, j < ops.size → j ≠ st → ∃ e ∈ o.after, e.on = j ∧ Region.binds .any e = true := by
  intro o ho j hj hne
  unfold endB at hend
  rw [ho] at hend
  have h1 := List.all_eq_true.1 hend j (by simpa using hj)
  simp only [Bool.or_eq_true, beq_iff_eq, hne, false_or, List.any_eq_true, Bool.and_eq_true] at h1
  obtain ⟨e, he, h2, h3⟩ := h1
  exact ⟨e, by simpa using he, h2, h3⟩
 refine wp_region_val hm hback hdst (fun L val w' => (L.getD st false = true → (∀ k, k < ops.size → L.getD k false = true) ∧ F val w') ∧ (L.getD st false ≠ true → Below w.heap.size w w' ∧ ∀ k, L.getD k false = true → G k (val k) w')) ?_ ?_ ?_
 ·have h0 : ∀ k, (Array.replicate ops.size false).getD k false ≠ true := by
   intro k hk
   rw [Array.getD_eq_getD_getElem?, Array.getElem?_replicate] at hk
   split at hk <;> simp at hk
  exact ⟨fun hk => absurd hk (h0 st), fun _ => ⟨⟨rfl, rfl, rfl, Nat.le_refl _, fun _ _ => rfl⟩, fun k hk => absurd hk (h0 k)⟩⟩
 ·have key : ∀ (l : List Oper) (i : Nat), (∀ k o, l[k]? = some o → ops[i + k]? = some o) → AllIdx (EndOk P ops Q a0 w G st F) i l → AllIdx (StepOk P ops Q a0 (fun L val w' => (L.getD st false = true → (∀ k, k < ops.size → L.getD k false = true) ∧ F val w') ∧ (L.getD st false ≠ true → Below w.heap.size w w' ∧ ∀ k, L.getD k false = true → G k (val k) w'))) i l := by
   intro l
   induction l with
   | nil => intro i _ _; trivial
   | cons o l ih =>
    intro i hix h
    have hio : ops[i]? = some o := by simpa using hix 0 o rfl
    refine ⟨?_, ih (i + 1) (fun k o' hk => by have := hix (k + 1) o' (by simpa using hk); rwa [show i + 1 + k = i + (k + 1) by omega]) h.2⟩
    rintro L val a w' hsz ⟨hT, hN⟩ hu hdep hE K hK
    have hui : L.getD i false ≠ true := by
     have hi := lt_of_un hu
     rw [Array.getD_eq_getD_getElem?, Array.getElem?_eq_getElem hi] at hu ⊢
     simp only [Option.getD_some] at hu ⊢
     rw [hu]; simp
    have hnst : L.getD st false ≠ true := fun e => hui ((hT e).1 i (by rw [← hsz]; exact lt_of_un hu))
    obtain ⟨hB, hGk⟩ := hN hnst
    by_cases hi : i = st
    ·subst hi
     have hall : ∀ j, j < ops.size → j ≠ i → L.getD j false = true := by
      intro j hj hne
      obtain ⟨e, he, h2, h3⟩ := hedge o hio j hj hne
      rw [← h2]
      exact hdep e he h3
     refine h.1.2 rfl val a w' hB (fun k hk hne => hGk k (hall k hk hne)) (fun j d oj hj hd hne => ?_) (fun t ht => hE.old t ht) K (fun v w'' hF => hK v w'' ⟨fun _ => ⟨fun k hk => ?_, hF⟩, fun hne => ?_⟩)
     ·have hj2 : j < ops.size := by
       rcases Nat.lt_or_ge j ops.size with h5 | h5
       ·exact h5
       ·rw [Array.getElem?_eq_none h5] at hj; cases hj
      obtain ⟨e, he, h2, h3⟩ := hedge o hio j hj2 hne
      exact (hE.arg hdep j d hj hd (by rw [List.any_eq_true]; exact ⟨e, by simpa using he, by simp [h2, h3]⟩)).1
     ·by_cases e : k = i
      ·subst e
       rw [Array.getD_eq_getD_getElem?, Array.getElem?_setIfInBounds_self_of_lt (lt_of_un hu)]
       rfl
      ·exact getD_set_true (hall k hk e)
     ·exfalso
      apply hne
      rw [Array.getD_eq_getD_getElem?, Array.getElem?_setIfInBounds_self_of_lt (lt_of_un hu)]
      rfl
    ·refine h.1.1 hi val a w' hB (fun j d oj hj hd hw => ?_) (fun t ht => hE.old t ht) K (fun v w'' hb hGi => hK v w'' ⟨fun hk => ?_, fun _ => ⟨hB.trans (hb.mono hB.size), fun k hk => ?_⟩⟩)
     ·obtain ⟨h1, h2⟩ := hE.arg hdep j d hj hd hw
      exact ⟨h1, hGk j h2⟩
     ·rcases on_set hk with e | e
      ·exact absurd e.symm hi
      ·exact absurd e hnst
     ·rcases on_set hk with rfl | hk2
      ·rw [upd_same]; exact hGi
      ·by_cases e : k = i
       ·subst e; rw [upd_same]; exact hGi
       ·rw [upd_ne _ e]; exact hG k _ _ _ hb (hGk k hk2)
  exact key _ _ (fun k o hk => by rw [Nat.zero_add]; simpa using hk) hs
 ·rintro L val w' hall ⟨hT, _⟩
  exact hd val w' (hT (hall st hst)).2
end
end Reg
end Go.Proofs.Ytdekbncpodjgnaa
namespace Go.Proofs.Ytdekbncpodjgnaa
open Go Go.RowKit
set_option linter.unusedVariables false
set_option linter.unusedSimpArgs false
namespace Reg
theorem below_none {w w' : World} (h : w.grownBy w' none) : Below w.heap.size w w' := ⟨h.os, h.tape, h.output, h.size, fun k hk => h.block k hk (by simp)⟩
def News {α : Type} (enc : α → List Value) (w : World) (A : Option Addr) (l : List α) : Prop :=
 0 < l.length → ∃ b off, A = some ⟨b, off, none⟩ ∧ ∀ j u, (l.flatMap enc)[j]? = some u → w.cell? ⟨b, off + j, none⟩ = some u
theorem news_RI {k : IntKind} {w : World} {A : Option Addr} {l : List Int} (h : RI k w A l) : News (encI k) w A l := by
 intro h0
 obtain ⟨b, off, e, _, hc⟩ := h h0
 refine ⟨b, off, e, fun j u hu => ?_⟩
 have hj : j < l.length := by
  have := (List.getElem?_eq_some_iff.1 hu).1
  rwa [flat_len (encI k) 1 (encI_len k), Nat.mul_one] at this
 have h1 := flat_get (encI k) 1 (encI_len k) l j 0 (by omega) hj
 rw [Nat.mul_one, Nat.add_zero, hu] at h1
 rw [hc j hj, getD_lt _ _ hj]
 simpa [encI] using h1.symm
def Made {α : Type} (enc : α → List Value) (e : TypeId) (sz B : Nat) (l : List α) (A : Option Addr) (c : Nat) (w : World) : Prop :=
 l.length ≤ c ∧ (l = [] ∨ w.ownsRow B e sz (.slice A l.length c) l.length (l.flatMap enc))
theorem Made.keep {α : Type} {enc : α → List Value} {e : TypeId} {sz B : Nat} {l : List α} {A : Option Addr} {c : Nat} {w w' : World} (h : Made enc e sz B l A c w) (hb : Below w.heap.size w w') : Made enc e sz B l A c w' := by
 refine ⟨h.1, ?_⟩
 rcases h.2 with h1 | h1
 ·exact .inl h1
 ·exact .inr (own_keep h1 hb)
theorem Made.ri {k : IntKind} {e : TypeId} {B : Nat} {l : List Int} {A : Option Addr} {c : Nat} {w : World} (h : Made (encI k) e 1 B l A c w) : RI k w A l := by
 rcases h.2 with rfl | h1
 ·exact RI.nil
 ·exact own_RI h1
theorem Made.far {α : Type} {enc : α → List Value} {e : TypeId} {sz B : Nat} {l : List α} {A : Option Addr} {c : Nat} {w : World} (h : Made enc e sz B l A c w) {p : Addr} {cs : Array Value} {t : TypeId} (hp : Blk w p.block t cs) (hne : e ≠ t) (u : Value) : Made enc e sz B l A c (w.setCell p u) := by
 refine ⟨h.1, ?_⟩
 rcases h.2 with h1 | h1
 ·exact .inl h1
 ·refine .inr ⟨h1.1, ?_⟩
  rcases h1.2 with h2 | ⟨g, cap, cur, h2, h3, h4, h5⟩
  ·exact .inl h2
  ·refine .inr ⟨g, cap, cur, h2, h3, ?_, h5⟩
   have hgp : g ≠ p.block := by
    intro e2
    unfold Blk at hp
    rw [← e2, h4] at hp
    injection hp with hp
    injection hp with _ h6
    exact hne h6
   rw [Below.heap_setCell w p u g hgp]
   exact h4
def emptyV (B : Nat) (v : Value) : Prop := ∃ g, v = .slice (some ⟨g, 0, none⟩) 0 0 ∧ B ≤ g
theorem step_clone_G {P : Program} {w : World} {ops : Array Oper} {o : Oper} {a : Act} {K : Act → World → Prop} {Q : Exit → Act → World → Prop} {E : Prop} (hgd : o.guard = none) (s x : Operand) (t : TypeId)
 (ho : o.op = .call { callee := .builtin .append, args := #[s, x], argTypes := #[t, t] })
 (e : TypeId) {i : TypeInfo} {z : Value} (sz bytes : Nat) (ht : P.underlying t = some (.slice e)) (hi : P.info? e = some i) (hz : i.zero = some z)
 (hsize : i.size = sz) (hby : i.bytes = bytes) (hzs : z.cells.size = sz) (h1 : 1 ≤ sz) {α : Type} (enc : α → List Value) (henc : ∀ x, (enc x).length = sz) (hone : ∀ y, ∀ u ∈ enc y, u.oneCell' = true) (B : Nat) (v : Value) (hs : a.eval s = v) (hv : emptyV B v) (hB : B ≤ w.heap.size)
 (A : Option Addr) (c : Nat) (l : List α) (hx : a.eval x = .slice A l.length c) (hr : News enc w A l) (h63 : l.length ≤ maxLen) (hbytes : l.length * bytes ≤ 140737488355328)
 (h : ∀ A' c' w', Made enc e sz B l A' c' w' → Below w.heap.size w w' → K (a.put o.dst (.slice A' l.length c')) w') :
 if Region.wanted o (yielded ops a.tmps) = true then Oper.wp P o a w K Q else E := by
 obtain ⟨g, rfl, hg⟩ := hv
 by_cases h0 : l.length = 0
 ·have hw : Region.wanted o (yielded ops a.tmps) = true := by simp [Region.wanted, hgd]
  rw [if_pos hw]
  have hl : l = [] := List.length_eq_zero_iff.1 h0
  subst hl
  have hrun : (Builtin.append_ #[t, t] o.type #[.slice (some ⟨g, 0, none⟩) 0 0, .slice A 0 c]).run P w = .ok (.slice (some ⟨g, 0, none⟩) 0 0) w := by
   cases A <;> simp [Builtin.append_, run_underlying ht, sizeOf, typeInfo, hi, Builtin.lenOf, Builtin.firstCells, storeCells, loadCells, loadCellsFrom]
  unfold Oper.wp
  simp [execOp, ho, resolve, invoke, builtin, hs, hx, hrun, Result.andThen]
  exact h (some ⟨g, 0, none⟩) 0 w ⟨Nat.le_refl _, .inl rfl⟩ (Below.refl _ _)
 ·obtain ⟨b, off, rfl, hc⟩ := hr (by omega)
  refine step_append_grows hgd s x t ho e i z sz bytes ht hi hz hsize hby hzs h1 (some ⟨g, 0, none⟩) 0 0 [] hs (by intro h; cases h) (by simp) (by simp) ⟨b, off, none⟩ l.length c (l.flatMap enc) hx (by rw [flat_len enc sz henc]) (by
   intro j u hu
   have e2 : (⟨b, off, none⟩ : Addr).add j = ⟨b, off + j, none⟩ := by unfold Addr.add; split <;> simp_all
   rw [e2]
   exact hc j u hu) (by
   intro u hu
   obtain ⟨y, _, hy⟩ := List.mem_flatMap.1 hu
   exact hone y u hy) (by omega) (by omega) (by simpa using hbytes) ?_
  intro v' w' hown hgrow
  rw [Nat.zero_add, List.nil_append] at hown
  obtain ⟨A', c', rfl, hc'⟩ := own_shape' hown
  refine h A' c' w' ⟨hc', .inr ⟨hown.1, ?_⟩⟩ (below_none hgrow)
  rcases hown.2 with h2 | ⟨g', cap, cur, h2, h3, h4⟩
  ·exact .inl h2
  ·exact .inr ⟨g', cap, cur, h2, by omega, h4⟩
end Reg
end Go.Proofs.Ytdekbncpodjgnaa
