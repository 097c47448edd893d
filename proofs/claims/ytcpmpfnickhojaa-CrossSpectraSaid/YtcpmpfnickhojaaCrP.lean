/-
  Layer 17, contracts: fringeref17.Pieces (rows that grow inside a row), SameLists.
-/
import Derived.Test.YtcpmpfnickhojaaCrK
import Derived.Deep.DrawnRows
import Derived.Deep.RegionLaw
namespace Go.Proofs.Ytcpmpfnickhojaa
open Go.RowKit Num Dft
set_option linter.unusedVariables false
set_option linter.unusedSimpArgs false
namespace Crs
open Lol

/-- Slices of a row stay readable while memory off two blocks stays. -/
theorem Els.turn {k : IntKind} {base : Nat} {w w' : World} {own own2 own' : Option Nat} {raws : List Value} {L : List (List Int)} (h1 : Els k base w own raws L) (h2 : Els k base w own2 raws L)
    (hc : ∀ b i, b < w.heap.size → own ≠ some b → own2 ≠ some b → w'.cell? ⟨b, i, none⟩ = w.cell? ⟨b, i, none⟩) (hs : w.heap.size ≤ w'.heap.size) (ho : own' = own ∨ own' = own2 ∨ own' = none ∨ ∃ H, own' = some H ∧ w.heap.size ≤ H) : Els k base w' own' raws L := by
  refine ⟨h1.1, fun j hj hj' => ?_⟩
  obtain ⟨A, c, e, hr, hcap, hn⟩ := h1.2 j hj hj'
  obtain ⟨A2, c2, e2, hr2, hcap2, hn2⟩ := h2.2 j hj hj'
  rw [e] at e2
  injection e2 with e2 e3 e4
  subst e2
  refine ⟨A, c, e, fun h0 => ?_, hcap, fun h0 b off ea e5 => ?_⟩
  · obtain ⟨b, off, ea, hb, hlt, hcell⟩ := hr h0
    exact ⟨b, off, ea, hb, Nat.lt_of_lt_of_le hlt hs, fun i hi => (hc b (off + i) hlt (hn h0 b off ea) (hn2 h0 b off ea)).trans (hcell i hi)⟩
  · obtain ⟨b', off', ea', hb, hlt, hcell⟩ := hr h0
    rw [ea] at ea'
    injection ea' with ea'
    injection ea' with ea' _
    rcases ho with rfl | rfl | rfl | ⟨H, rfl, hH⟩
    · exact hn h0 b off ea e5
    · exact hn2 h0 b off ea e5
    · cases e5
    · injection e5 with e5
      omega
structure PRow (w wr : World) (v : Value) (raws : List Value) (L : List (List Int)) (q : Nat) : Prop where
  own : wr.ownsRow w.heap.size 22 1 v q raws
  els : Els .i64 w.heap.size wr v.ownBlock raws L
  bel : Below w.heap.size w wr
structure PInv (w wr : World) (v : Value) (raws : List Value) (vl : Value) (L : List (List Int)) (last : List Int) (q m : Nat) : Prop where
  own : wr.ownsRow w.heap.size 22 1 v (q + 1) (raws ++ [vl])
  row : wr.ownsRow w.heap.size 3 1 vl m (last.flatMap (encI .i64))
  e1 : Els .i64 w.heap.size wr v.ownBlock raws L
  e2 : Els .i64 w.heap.size wr vl.ownBlock raws L
  ap : ∀ h, v.ownBlock = some h → vl.ownBlock ≠ some h
  bel : Below w.heap.size w wr
  hq : raws.length = q
  hm : last.length = m
theorem PInv.toRow {w wr : World} {v : Value} {raws : List Value} {vl : Value} {L : List (List Int)} {last : List Int} {q m : Nat} (h : PInv w wr v raws vl L last q m) : PRow w wr v (raws ++ [vl]) (L ++ [last]) (q + 1) := by
  refine ⟨h.own, ?_, h.bel⟩
  obtain ⟨A, c, e, hc⟩ := own_shape' h.row
  have hr := h.row
  have hap := h.ap
  have hm := h.hm
  subst hm
  rw [e] at hr hap ⊢
  refine h.e1.snoc (own_RIo hr) hc fun h0 b off ea e2 => ?_
  subst ea
  exact hap b e2 rfl
theorem PRow.open_ {w wr W w4 : World} {v : Value} {raws : List Value} {L : List (List Int)} {q g4 c4 H : Nat} (h : PRow w wr v raws L q) (hW : Below wr.heap.size wr W)
    (hown4 : w4.ownsRow w.heap.size 22 1 (.slice (some ⟨g4, 0, none⟩) (q + 1) c4) (q + 1) (raws ++ [.slice none 0 0])) (hgrow : W.grownBy w4 v.ownBlock) (hat : v.ownBlock = some g4 ∨ g4 = H) (hH : wr.heap.size ≤ H) :
    PInv w w4 (.slice (some ⟨g4, 0, none⟩) (q + 1) c4) raws (.slice none 0 0) L [] q 0 := by
  have hoW := own_keep h.own hW
  have heW := h.els.keep hW
  have hbW := h.bel.trans (hW.mono h.bel.size)
  have hcell : ∀ b i, b < wr.heap.size → v.ownBlock ≠ some b → v.ownBlock ≠ some b → w4.cell? ⟨b, i, none⟩ = wr.cell? ⟨b, i, none⟩ := fun b i hb h1 _ => by
    rw [hgrow.cell_far ⟨b, i, none⟩ (Nat.lt_of_lt_of_le hb hW.size) (fun e => h1 e.symm)]
    exact hW.cell (p := ⟨b, i, none⟩) hb
  have hsz : wr.heap.size ≤ w4.heap.size := Nat.le_trans hW.size hgrow.size
  refine ⟨hown4, World.ownsRow_nil _ _ _ _, Els.turn h.els h.els hcell hsz ?_, Els.turn h.els h.els hcell hsz (.inr (.inr (.inl rfl))), fun _ _ => by simp [Value.ownBlock], own_below hbW hoW hgrow (Nat.le_refl _) (Nat.le_trans h.bel.size hW.size), ?_, rfl⟩
  · rcases hat with e | e
    · exact .inl e.symm
    · exact .inr (.inr (.inr ⟨g4, rfl, by omega⟩))
  · have := h.own.1
    omega
theorem PInv.step {w wr W w4 : World} {raws : List Value} {vl : Value} {L : List (List Int)} {last : List Int} {q m G c g4 c4 H : Nat} {x : Int} (h : PInv w wr (.slice (some ⟨G, 0, none⟩) (q + 1) c) raws vl L last q m) (hW : Below wr.heap.size wr W)
    (hown4 : w4.ownsRow w.heap.size 3 1 (.slice (some ⟨g4, 0, none⟩) (m + 1) c4) (m + 1) (last.flatMap (encI .i64) ++ encI .i64 x)) (hgrow : W.grownBy w4 vl.ownBlock) (hat : vl.ownBlock = some g4 ∨ g4 = H) (hH : wr.heap.size ≤ H) :
    PInv w (w4.setCell ⟨G, q, none⟩ (.slice (some ⟨g4, 0, none⟩) (m + 1) c4)) (.slice (some ⟨G, 0, none⟩) (q + 1) c) raws (.slice (some ⟨g4, 0, none⟩) (m + 1) c4) L (last ++ [x]) q (m + 1) := by
  obtain ⟨hG1, hG2⟩ := h.own.lt G rfl
  have hne : vl.ownBlock ≠ some G := h.ap G rfl
  have hoW := own_keep h.own hW
  have hrW := own_keep h.row hW
  have hbW := h.bel.trans (hW.mono h.bel.size)
  have hgG : g4 ≠ G := by
    rintro rfl
    rcases hat with e | e
    · exact hne e
    · omega
  have ho4 := kept_apart (e' := 0) (s' := 1) (m := 0) (ys := []) hoW hgrow (fun g e => by rintro e2; exact h.ap g e2 e)
  have hb4 := own_below hbW hrW hgrow (Nat.le_refl _) (Nat.le_trans h.bel.size hW.size)
  have hcell : ∀ b i, b < wr.heap.size → (Value.slice (some ⟨G, 0, none⟩) (q + 1) c).ownBlock ≠ some b → vl.ownBlock ≠ some b → (w4.setCell ⟨G, q, none⟩ (.slice (some ⟨g4, 0, none⟩) (m + 1) c4)).cell? ⟨b, i, none⟩ = wr.cell? ⟨b, i, none⟩ := fun b i hb h1 h2 => by
    have e1 : (w4.setCell ⟨G, q, none⟩ (.slice (some ⟨g4, 0, none⟩) (m + 1) c4)).heap[b]? = w4.heap[b]? := Below.heap_setCell w4 _ _ b (fun e => h1 (by simp [Value.ownBlock, e]))
    rw [World.cell?_of_block (a := ⟨b, i, none⟩) e1, hgrow.cell_far ⟨b, i, none⟩ (Nat.lt_of_lt_of_le hb hW.size) (fun e => h2 e.symm)]
    exact hW.cell (p := ⟨b, i, none⟩) hb
  have hsz : wr.heap.size ≤ (w4.setCell ⟨G, q, none⟩ (.slice (some ⟨g4, 0, none⟩) (m + 1) c4)).heap.size := by
    have := hgrow.size
    have := hW.size
    simp [World.setCell]
    omega
  have hst := (ho4.stored q (.slice (some ⟨g4, 0, none⟩) (m + 1) c4)).1
  have hset : (raws ++ [vl]).set q (Value.slice (some ⟨g4, 0, none⟩) (m + 1) c4) = raws ++ [.slice (some ⟨g4, 0, none⟩) (m + 1) c4] := by
    rw [List.set_append_right q _ (by rw [h.hq]; exact Nat.le_refl _), h.hq, Nat.sub_self]
    rfl
  rw [hset] at hst
  refine ⟨hst, ?_, Els.turn h.e1 h.e2 hcell hsz (.inl rfl), Els.turn h.e1 h.e2 hcell hsz ?_, ?_, hb4.setCell (p := ⟨G, q, none⟩) hG1 _, h.hq, by simp [h.hm]⟩
  · rw [flat_snoc]
    exact ownsRow_setCell_other hown4 (by simp [Value.ownBlock]; exact hgG) _
  · rcases hat with e | e
    · exact .inr (.inl e.symm)
    · exact .inr (.inr (.inr ⟨g4, rfl, by omega⟩))
  · intro b e1 e2
    simp only [Value.ownBlock, Option.some.injEq] at e1 e2
    omega
/-- What the walk needs behind the append: the box of the outer row. -/
theorem PInv.box {w wr W w4 : World} {raws : List Value} {vl : Value} {L : List (List Int)} {last : List Int} {q m G c : Nat} (h : PInv w wr (.slice (some ⟨G, 0, none⟩) (q + 1) c) raws vl L last q m) (hW : Below wr.heap.size wr W) (hgrow : W.grownBy w4 vl.ownBlock) :
    w4.cell? ⟨G, q, none⟩ = some vl ∧ w4.frozen? ⟨G, q, none⟩ = false ∧ G < w4.heap.size := by
  have ho4 := kept_apart (e' := 0) (s' := 1) (m := 0) (ys := []) (own_keep h.own hW) hgrow (fun g e => by rintro e2; exact h.ap g e2 e)
  refine ⟨?_, ho4.frozenAt q, (ho4.lt G rfl).2⟩
  rw [ho4.cellAt q (by omega)]
  simp [h.hq]
theorem pcs_done0 {xs : List Int} {q : Nat} (h : xs.length = 32 * q) : pcs xs = fullL (pcI xs) q := by
  unfold pcs
  rw [show pcN xs = q by unfold pcN; omega]
theorem pcs_done {xs : List Int} {q r : Nat} (h : xs.length = 32 * q + r) (h1 : 0 < r) (h2 : r < 32) : pcs xs = fullL (pcI xs) q ++ [(pcI xs q).take r] := by
  unfold pcs
  rw [show pcN xs = q + 1 by unfold pcN; omega, fullL_succ, List.take_of_length_le]
  rw [pcI_len xs (by omega)]
  omega
theorem pcI_next {xs : List Int} {q r : Nat} (h : 32 * q + r < xs.length) (h2 : r < 32) : (pcI xs q).take (r + 1) = (pcI xs q).take r ++ [xs.getD (32 * q + r) 0] := by
  have hl := pcI_len xs (i := q) (by omega)
  have hr : r < (pcI xs q).length := by omega
  rw [List.take_succ_eq_append_getElem hr]
  congr 2
  have e : xs.getD (32 * q + r) 0 = xs[32 * q + r] := by simp [List.getD_eq_getElem?_getD, h]
  rw [e]
  simp [pcI]
theorem pcI_full {xs : List Int} {q : Nat} : (pcI xs q).take 32 = pcI xs q := by
  unfold pcI
  rw [List.take_take]
  rfl
/-- The state of the loop at 32 q + r. -/
def PSt (xs : List Int) (w wr : World) (v : Value) (q r : Nat) : Prop :=
  (r = 0 ∧ ∃ raws, PRow w wr v raws (fullL (pcI xs) q) q) ∨ (0 < r ∧ ∃ raws vl, PInv w wr v raws vl (fullL (pcI xs) q) ((pcI xs q).take r) q r)
theorem PSt.next {xs : List Int} {w wr : World} {v : Value} {q r : Nat} {raws : List Value} {vl : Value} (hr : r < 32) (h : PInv w wr v raws vl (fullL (pcI xs) q) ((pcI xs q).take (r + 1)) q (r + 1)) :
    ∃ q' r', 32 * q' + r' = 32 * q + (r + 1) ∧ r' < 32 ∧ PSt xs w wr v q' r' := by
  rcases Nat.lt_or_ge (r + 1) 32 with h1 | h1
  · exact ⟨q, r + 1, rfl, h1, .inr ⟨by omega, raws, vl, h⟩⟩
  · obtain rfl : r = 31 := by omega
    refine ⟨q + 1, 0, by omega, by omega, .inl ⟨rfl, raws ++ [vl], ?_⟩⟩
    rw [fullL_succ]
    have h2 := h.toRow
    rw [show 31 + 1 = 32 from rfl, pcI_full] at h2
    exact h2
theorem PSt.done {xs : List Int} {w wr : World} {v : Value} {q r : Nat} (hl : 32 * q + r = xs.length) (hr : r < 32) (h : PSt xs w wr v q r) : ∃ A c, v = .slice A (pcs xs).length c ∧ RLL .i64 wr A (pcs xs) ∧ Below w.heap.size w wr := by
  obtain ⟨n, raws, h2⟩ : ∃ n raws, PRow w wr v raws (pcs xs) n := by
    rcases h with ⟨rfl, raws, h⟩ | ⟨h0, raws, vl, h⟩
    · rw [pcs_done0 (q := q) (by omega)]
      exact ⟨_, _, h⟩
    · rw [pcs_done hl.symm h0 hr]
      exact ⟨_, _, h.toRow⟩
  have hn : (pcs xs).length = n := by
    have := h2.own.1
    have := h2.els.1
    omega
  obtain ⟨A, c, rfl, _⟩ := own_shape' h2.own
  exact ⟨A, c, by rw [hn], own_RLL h2.own h2.els, h2.bel⟩
theorem info_int2 : (Try.prog.info? 3).map (fun i => (i.zero, i.size, i.bytes)) = some (some (.int .i64 0), 1, 8) := info_int
set_option maxRecDepth 20000 in
set_option maxHeartbeats 4000000 in
theorem refPieces_any (A : Option Addr) (c : Nat) (xs : List Int) (w : World) (hx : RI .i64 w A xs) (hl : xs.length ≤ 140737488355328) :
    Calls Try.prog 17 #[.slice A xs.length c] w (RetLL .i64 w (pcS xs)) := by
  rcases (Decidable.em (streamErr xs = 0)).symm with he | he
  · have e1 : (streamErr xs != 0) = true := by simp [he]
    have HR := Lib.hid (pcS_err he)
    clear he
    go_enter Try.func17, Try.ntmps17
    go_wp2_with fail
    refine (refCheck13_any _ _ _ _ hx hl).mono ?_
    rintro _ _ ⟨rfl, rfl⟩
    go_wp2_with fail
    refine (refCheck13_any _ _ _ _ hx hl).mono ?_
    rintro _ _ ⟨rfl, rfl⟩
    go_wp2
    go_ret2
    exact RetLL.no HR.out (Below.refl _ _)
  have e1 : (streamErr xs != 0) = false := by simp [he]
  have HR := Lib.hid (pcS_ok he)
  have hl5 := (Lagw.streamErr_zero he).1
  clear he
  obtain ⟨i0, hi0, hz0, hz1, hz2⟩ := info_parts info_int
  obtain ⟨j0, hj0, hy0, hy1, hy2⟩ := info_parts info_ints
  go_enter Try.func17, Try.ntmps17
  go_wp2_with fail
  refine (refCheck13_any _ _ _ _ hx hl).mono ?_
  rintro _ _ ⟨rfl, rfl⟩
  go_wp2
  go_loopg [4, 5] xs.length (fun gk v i wr => ∃ (k q r : Nat), k + gk = xs.length ∧ i = .int .i64 k ∧ 32 * q + r = k ∧ r < 32 ∧ PSt xs w wr v q r)
  case atStart => exact ⟨0, 0, 0, by omega, rfl, rfl, by omega, .inl ⟨rfl, [], World.ownsRow_nil _ _ _ _, Els.nil, Below.refl _ _⟩⟩
  case round =>
    obtain ⟨i, q, r, hk, rfl, hi, hr, hS⟩ := hrel
    have hk' : i ≤ xs.length := by omega
    have HK := Lib.hid hk
    clear hk
    by_cases hlt : i < xs.length
    · obtain ⟨b1, o1, rfl, l1, h1⟩ := hx.at2 hlt
      have HX : Hid ((pcI xs q).take (r + 1) = (pcI xs q).take r ++ [xs.getD i 0]) := Lib.hid (by rw [pcI_next (by omega) hr, hi])
      have hm : (i : Int).tmod 32 = (r : Int) := by rw [Int.tmod_eq_emod_of_nonneg (by omega)]; omega
      have hm2 : (i : Int) % 32 = (r : Int) := by omega
      have hqb : q ≤ 8 := by omega
      have hqlt : (q : Int) < (q : Int) + 1 := by omega
      have hwq : IntKind.i64.wrap (q : Int) = (q : Int) := IntWalk.i64_in _ (by omega)
      generalize hX : xs.getD i 0 = X at *
      clear hX
      rcases hS with ⟨rfl, raws, hP⟩ | ⟨h0, raws, vl, hP⟩
      · have hm3 : ((i : Int) % 32 == 0) = true := by rw [hm2]; rfl
        obtain ⟨As, cs, rfl, hcs⟩ := own_shape' hP.own
        have hO := hP.own
        go_wp2_with (at_builtin; refine wpList_append_lies _ rfl (.tmp 20) (.tmp 21) 34 rfl w.heap.size 22 j0 _ 1 24 Try.underlying34 hj0 hy0 hy1 hy2 rfl (by decide) _ q _ rfl (hO.alloc _) ⟨wr.heap.size, 0, none⟩ 1 1 [.slice none 0 0] rfl rfl (enc_news _ rfl) one_slice (by omega) (by unfold maxLen; omega) (by omega) (by simp; have := hP.bel.size; omega) (wr.heap.size + 1) (by simp) ?_; intro g5 c5 w5 hown5 hgrow5 hat5 hlt5)
        have hP5 := hP.open_ (balloc (Below.refl _ _) (.cells #[.slice none 0 0] 22)) hown5 hgrow5 hat5 (by simp)
        clear hown5 hgrow5 hat5 hO hP hlt5
        have hbx1 : Hid (∀ W2, Below w5.heap.size w5 W2 → W2.cell? ⟨g5, q, none⟩ = some (.slice none 0 0) ∧ W2.cell? ⟨b1, o1 + i, none⟩ = some (.int .i64 X)) := Lib.hid (fun W2 hW2 => ⟨(hW2.cell (p := ⟨g5, q, none⟩) (hP5.own.lt g5 rfl).2).trans (hP5.box (Below.refl _ _) (World.grownBy.refl _ _)).1, (hW2.cell (p := ⟨b1, o1 + i, none⟩) (Nat.lt_of_lt_of_le l1 hP5.bel.size)).trans ((hP5.bel.cell (p := ⟨b1, o1 + i, none⟩) l1).trans h1)⟩)
        have hc1 := (hbx1.out _ (Below.refl _ _)).1
        have hc2 := (hbx1.out _ (Below.refl _ _)).2
        have hlG := (hP5.own.lt g5 rfl).2
        have hlb := Nat.lt_of_lt_of_le l1 hP5.bel.size
        have hszW := hP5.bel.size
        go_region_law
          ((refine step_append_lies _ (by rfl) (.tmp 32) (.tmp 37) _ (by rfl) w.heap.size 3 i0 _ 1 8 Try.underlying22 hi0 hz0 hz1 hz2 rfl (by omega) (.slice none 0 0) 0 _ (by rfl) (World.ownsRow.drew (hP5.row.alloc (.cells #[.int .i64 X] 3))) ⟨w5.heap.size, 0, none⟩ 1 1 (encI .i64 X) (by rfl) (by rfl) (encI_news w5 _ _ _) (encI_one _ _) (by omega) (by unfold maxLen; omega) (by omega) (by simp [World.drew]; omega) (w5.heap.size + 1) (by simp [World.drew]) ?_; intro g4 c4 w4 hown4 hgrow4 hat4 hlt4; have hW4 : Below w5.heap.size w5 ((w5.alloc (.cells #[.int .i64 X] 3)).drew) := (balloc (Below.refl _ _) (.cells #[.int .i64 X] 3)).drew; have hbox4 := hP5.box hW4 hgrow4; have k0 := hbox4.1; have k1 := hbox4.2.1; have k2 := hbox4.2.2))
        all_goals
          have hP6 := hP5.step hW4 hown4 hgrow4 hat4 (by simp)
          rw [List.nil_append] at hP6
          have hX2 := HX.out
          rw [List.take_zero, List.nil_append] at hX2
          rw [← hX2] at hP6
          clear hbx1 hc1 hc2 hown4 hgrow4 hat4 hbox4 k0 k1 k2 hW4 hP5 h1
          go_wp2
          go_roundg (gk - 1)
          case rel =>
            obtain ⟨q', r', h1, h2, h3⟩ := PSt.next hr hP6
            exact ⟨i + 1, q', r', by have := HK.out; omega, by go_num, by omega, h2, h3⟩
          case measure => have := HK.out; omega
      · obtain ⟨G, c5, rfl, hG1, hG2⟩ := hP.own.form (by omega)
        obtain ⟨Al, cl, rfl, hcl⟩ := own_shape' hP.row
        have hm3 : ((i : Int) % 32 == 0) = false := by rw [hm2]; simp; omega
        go_wp2
        have hbx1 : Hid (∀ W2, Below wr.heap.size wr W2 → W2.cell? ⟨G, q, none⟩ = some (.slice Al r cl) ∧ W2.cell? ⟨b1, o1 + i, none⟩ = some (.int .i64 X)) := Lib.hid (fun W2 hW2 => ⟨(hW2.cell (p := ⟨G, q, none⟩) (hP.own.lt G rfl).2).trans (hP.box (Below.refl _ _) (World.grownBy.refl _ _)).1, (hW2.cell (p := ⟨b1, o1 + i, none⟩) (Nat.lt_of_lt_of_le l1 hP.bel.size)).trans ((hP.bel.cell (p := ⟨b1, o1 + i, none⟩) l1).trans h1)⟩)
        have hc1 := (hbx1.out _ (Below.refl _ _)).1
        have hc2 := (hbx1.out _ (Below.refl _ _)).2
        have hlG := (hP.own.lt G rfl).2
        have hlb := Nat.lt_of_lt_of_le l1 hP.bel.size
        have hszW := hP.bel.size
        go_region_law
          ((refine step_append_lies _ (by rfl) (.tmp 32) (.tmp 37) _ (by rfl) w.heap.size 3 i0 _ 1 8 Try.underlying22 hi0 hz0 hz1 hz2 rfl (by omega) (.slice Al r cl) r _ (by rfl) (World.ownsRow.drew (hP.row.alloc (.cells #[.int .i64 X] 3))) ⟨wr.heap.size, 0, none⟩ 1 1 (encI .i64 X) (by rfl) (by rfl) (encI_news wr _ _ _) (encI_one _ _) (by omega) (by unfold maxLen; omega) (by omega) (by simp [World.drew]; omega) (wr.heap.size + 1) (by simp [World.drew]) ?_; intro g4 c4 w4 hown4 hgrow4 hat4 hlt4; have hW4 : Below wr.heap.size wr ((wr.alloc (.cells #[.int .i64 X] 3)).drew) := (balloc (Below.refl _ _) (.cells #[.int .i64 X] 3)).drew; have hbox4 := hP.box hW4 hgrow4; have k0 := hbox4.1; have k1 := hbox4.2.1; have k2 := hbox4.2.2))
        all_goals
          have hP6 := hP.step hW4 hown4 hgrow4 hat4 (by simp)
          rw [← HX.out] at hP6
          clear hbx1 hc1 hc2 hown4 hgrow4 hat4 hbox4 k0 k1 k2 hW4 hP h1
          go_wp2
          go_roundg (gk - 1)
          case rel =>
            obtain ⟨q', r', h1, h2, h3⟩ := PSt.next hr hP6
            exact ⟨i + 1, q', r', by have := HK.out; omega, by go_num, by omega, h2, h3⟩
          case measure => have := HK.out; omega
    · obtain rfl : i = xs.length := by omega
      obtain ⟨A', c', rfl, h2, h3⟩ := hS.done hi hr
      clear hS
      go_wp2
      go_ret2
      exact RetLL.own HR.out rfl h2 h3
end Crs
end Go.Proofs.Ytcpmpfnickhojaa
