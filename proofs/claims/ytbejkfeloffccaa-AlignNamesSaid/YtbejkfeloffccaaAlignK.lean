/-
  Recordings in new memory; contracts: fringeref14.twin, Twin, Count, Same, align.Count.
-/
import Derived.Test.YtbejkfeloffccaaAlignI
namespace Go.Proofs.Ytbejkfeloffccaa
open Go.RowKit
set_option linter.unusedVariables false

/-- As RI, and the numbers lie in block base or beyond. -/
def RIo (base : Nat) (w : World) (A : Option Addr) (xs : List Int) : Prop :=
  0 < xs.length → ∃ b off, A = some ⟨b, off, none⟩ ∧ base ≤ b ∧ b < w.heap.size ∧ ∀ j, j < xs.length → w.cell? ⟨b, off + j, none⟩ = some (.int .i64 (xs.getD j 0))
theorem RIo.ri {base : Nat} {w : World} {A : Option Addr} {xs : List Int} (h : RIo base w A xs) : RI .i64 w A xs := by
  intro h0
  obtain ⟨b, off, e, _, hlt, hc⟩ := h h0
  exact ⟨b, off, e, hlt, hc⟩
theorem RIo.keep {base : Nat} {w w' : World} {A : Option Addr} {xs : List Int} (h : RIo base w A xs) (hb : Below w.heap.size w w') : RIo base w' A xs := by
  intro h0
  obtain ⟨b, off, e, h1, hlt, hc⟩ := h h0
  exact ⟨b, off, e, h1, Nat.lt_of_lt_of_le hlt hb.size, fun j hj => (hb.cell (p := ⟨b, off + j, none⟩) hlt).trans (hc j hj)⟩
theorem RIo.mono {base base' : Nat} {w : World} {A : Option Addr} {xs : List Int} (h : RIo base w A xs) (hb : base' ≤ base) : RIo base' w A xs := by
  intro h0
  obtain ⟨b, off, e, h1, hlt, hc⟩ := h h0
  exact ⟨b, off, e, by omega, hlt, hc⟩
theorem own_RIo {w : World} {base : Nat} {e : TypeId} {A : Option Addr} {c : Nat} {l : List Int} (h : w.ownsRow base e 1 (.slice A l.length c) l.length (l.flatMap (encI .i64))) : RIo base w A l := by
  intro h0
  obtain ⟨g, rfl, hg1, hg⟩ := own_some h h0
  refine ⟨g, 0, rfl, hg1, hg, fun j hj => ?_⟩
  have := own_at (encI_len .i64) h hj (i := 0) (by omega)
  rw [Nat.zero_add, getD_lt _ _ hj]
  simpa [encI] using this
theorem blk_RIo {w : World} {e : TypeId} {g base : Nat} {l : List Int} (h : Blk w g e (l.flatMap (encI .i64)).toArray) (hg : base ≤ g) : RIo base w (some ⟨g, 0, none⟩) l := by
  intro h0
  refine ⟨g, 0, rfl, hg, h.lt, fun j hj => ?_⟩
  rw [Nat.zero_add, h.cell, getD_lt _ _ hj]
  have := flat_get (encI .i64) 1 (encI_len .i64) l j 0 (by omega) hj
  simpa [encI] using this
/-- What stays of numbers when another block alone turns. -/
theorem RIo.grown {base : Nat} {w w' : World} {A : Option Addr} {xs : List Int} {row : Option Nat} (h : RIo base w A xs) (hg : w.grownBy w' row) (hne : 0 < xs.length → ∀ b off, A = some ⟨b, off, none⟩ → row ≠ some b) : RIo base w' A xs := by
  intro h0
  obtain ⟨b, off, e, h1, hlt, hc⟩ := h h0
  refine ⟨b, off, e, h1, Nat.lt_of_lt_of_le hlt hg.size, fun j hj => ?_⟩
  rw [hg.cell_far ⟨b, off + j, none⟩ hlt (fun e2 => hne h0 b off e e2.symm)]
  exact hc j hj
theorem RIo.far {base : Nat} {w : World} {A : Option Addr} {xs : List Int} (h : RIo base w A xs) {p : Addr} (hp : p.block < base) (u : Value) : RIo base (w.setCell p u) A xs := by
  intro h0
  obtain ⟨b, off, e, h1, hlt, hc⟩ := h h0
  refine ⟨b, off, e, h1, by simpa [World.setCell] using hlt, fun j hj => ?_⟩
  have hb : Below base (w.setCell p u) (w.setCell p u) := Below.refl _ _
  have e2 : (w.setCell p u).heap[b]? = w.heap[b]? := Below.heap_setCell w p u b (by omega)
  rw [World.cell?_of_block (a := ⟨b, off + j, none⟩) e2]
  exact hc j hj
def RBo (base : Nat) (w : World) (A : Option Addr) (l : List (Int × List Int)) : Prop :=
  0 < l.length → ∃ b off, A = some ⟨b, off, none⟩ ∧ base ≤ b ∧ b < w.heap.size ∧ ∀ j (hj : j < l.length), w.cell? ⟨b, off + j * 2, none⟩ = some (.int .i64 l[j].1) ∧ ∃ A' c', w.cell? ⟨b, off + j * 2 + 1, none⟩ = some (.slice A' l[j].2.length c') ∧ RIo base w A' l[j].2 ∧ l[j].2.length ≤ c'
theorem RBo.rb {base : Nat} {w : World} {A : Option Addr} {l : List (Int × List Int)} (h : RBo base w A l) : RB w A l := by
  intro h0
  obtain ⟨b, off, e, _, hlt, hc⟩ := h h0
  refine ⟨b, off, e, hlt, fun j hj => ?_⟩
  obtain ⟨h1, A', c', h2, h3, h4⟩ := hc j hj
  exact ⟨h1, A', c', h2, h3.ri, h4⟩
theorem RBo.keep {base : Nat} {w w' : World} {A : Option Addr} {l : List (Int × List Int)} (h : RBo base w A l) (hb : Below w.heap.size w w') : RBo base w' A l := by
  intro h0
  obtain ⟨b, off, e, h5, hlt, hc⟩ := h h0
  refine ⟨b, off, e, h5, Nat.lt_of_lt_of_le hlt hb.size, fun j hj => ?_⟩
  obtain ⟨h1, A', c', h2, h3, h4⟩ := hc j hj
  exact ⟨(hb.cell (p := ⟨b, off + j * 2, none⟩) hlt).trans h1, A', c', (hb.cell (p := ⟨b, off + j * 2 + 1, none⟩) hlt).trans h2, h3.keep hb, h4⟩
/-- Elements of a row of blocks: how they are laid, apart from the row's own block. -/
def encK (b : Int × Value) : List Value := [.int .i64 b.1, b.2]
theorem encK_len (b : Int × Value) : (encK b).length = 2 := rfl
def Elems (base : Nat) (w : World) (own : Option Nat) (raws : List (Int × Value)) (l : List (Int × List Int)) : Prop :=
  raws.length = l.length ∧ ∀ j (h : j < raws.length) (h' : j < l.length), raws[j].1 = l[j].1 ∧ ∃ A c, raws[j].2 = .slice A l[j].2.length c ∧ RIo base w A l[j].2 ∧ l[j].2.length ≤ c ∧ (0 < l[j].2.length → ∀ b off, A = some ⟨b, off, none⟩ → own ≠ some b)
theorem Elems.nil {base : Nat} {w : World} {own : Option Nat} : Elems base w own [] [] := ⟨rfl, fun j h => absurd h (by simp)⟩
theorem Elems.keep {base : Nat} {w w' : World} {own : Option Nat} {raws : List (Int × Value)} {l : List (Int × List Int)} (h : Elems base w own raws l) (hb : Below w.heap.size w w') : Elems base w' own raws l := by
  refine ⟨h.1, fun j h1 h2 => ?_⟩
  obtain ⟨e1, A, c, e2, h3, h4, h5⟩ := h.2 j h1 h2
  exact ⟨e1, A, c, e2, h3.keep hb, h4, h5⟩
theorem Elems.grown {base : Nat} {w w' : World} {own own' : Option Nat} {raws : List (Int × Value)} {l : List (Int × List Int)} (h : Elems base w own raws l) (hg : w.grownBy w' own) (ho : own' = own ∨ ∃ H, own' = some H ∧ w.heap.size ≤ H) : Elems base w' own' raws l := by
  refine ⟨h.1, fun j h1 h2 => ?_⟩
  obtain ⟨e1, A, c, e2, h3, h4, h5⟩ := h.2 j h1 h2
  refine ⟨e1, A, c, e2, h3.grown hg h5, h4, fun h0 b off e => ?_⟩
  rcases ho with rfl | ⟨H, rfl, hH⟩
  · exact h5 h0 b off e
  · obtain ⟨b', off', e', _, hlt, _⟩ := h3 h0
    rw [e] at e'
    injection e' with e'
    injection e' with e' _
    intro e3
    injection e3 with e3
    omega
theorem Elems.snoc {base : Nat} {w : World} {own : Option Nat} {raws : List (Int × Value)} {l : List (Int × List Int)} (h : Elems base w own raws l) {a : Int} {A : Option Addr} {c : Nat} {xs : List Int} (hr : RIo base w A xs) (hc : xs.length ≤ c) (hne : 0 < xs.length → ∀ b off, A = some ⟨b, off, none⟩ → own ≠ some b) : Elems base w own (raws ++ [(a, .slice A xs.length c)]) (l ++ [(a, xs)]) := by
  refine ⟨by simp [h.1], fun j h1 h2 => ?_⟩
  rcases Nat.lt_or_ge j raws.length with h3 | h3
  · rw [List.getElem_append_left h3, List.getElem_append_left (by rw [← h.1]; exact h3)]
    exact h.2 j h3 (by rw [← h.1]; exact h3)
  · have e1 : j = raws.length := by simp at h1; omega
    have e2 : j = l.length := by rw [← h.1]; exact e1
    have r1 : (raws ++ [(a, Value.slice A xs.length c)])[j]'h1 = (a, .slice A xs.length c) := by simp [e1]
    have r2 : (l ++ [(a, xs)])[j]'h2 = (a, xs) := by simp [e2]
    rw [r1, r2]
    exact ⟨rfl, A, c, rfl, hr, hc, hne⟩
theorem own_RBo {w : World} {base : Nat} {e : TypeId} {A : Option Addr} {c n : Nat} {own : Option Nat} {raws : List (Int × Value)} {l : List (Int × List Int)} (h : w.ownsRow base e 2 (.slice A n c) n (raws.flatMap encK)) (hE : Elems base w own raws l) (hn : raws.length = n) : RBo base w A l := by
  subst hn
  intro h0
  have h0' : 0 < raws.length := by rw [hE.1]; exact h0
  obtain ⟨g, rfl, hg1, hg⟩ := own_some h h0'
  refine ⟨g, 0, rfl, hg1, hg, fun j hj => ?_⟩
  have hj' : j < raws.length := by rw [hE.1]; exact hj
  obtain ⟨e1, A, c, e2, h3, h4, _⟩ := hE.2 j hj' hj
  have k1 := own_at encK_len h hj' (i := 0) (by omega)
  have k2 := own_at encK_len h hj' (i := 1) (by omega)
  rw [Nat.zero_add]
  simp [encK] at k1 k2
  exact ⟨by rw [k1, e1], A, c, by rw [k2, e2], h3, h4⟩

theorem own_emptyG {w : World} {base s g : Nat} (e : TypeId) (hg : w.heap.size = g) (h : base ≤ g) : (w.alloc (.cells #[] e)).ownsRow base e s (.slice (some ⟨g, 0, none⟩) 0 0) 0 [] := by
  subst hg; exact own_emptyR e h
theorem twin_facts {w w1 : World} {t t' : TypeId} {v0 v1 r0 r1 : Value} {n c : Nat} (hg : ((((w.alloc (.cells #[v0, v1] t)).alloc (.cells #[r0, r1] t)).alloc (.cells #[] t')).drew).grownBy w1 (Value.slice (some ⟨w.heap.size + 1 + 1, 0, none⟩) n c).ownBlock) :
    Below w.heap.size w w1 ∧ Blk w1 w.heap.size t #[v0, v1] ∧ Blk w1 (w.heap.size + 1) t #[r0, r1] := by
  have hb : Below w.heap.size w (((w.alloc (.cells #[v0, v1] t)).alloc (.cells #[r0, r1] t)).alloc (.cells #[] t')) := balloc (balloc (balloc (Below.refl _ _) _) _) _
  refine ⟨?_, ?_, ?_⟩
  · exact hb.drew.grown hg (by simp [World.drew]; omega) (fun k hk => by simp [Value.ownBlock] at hk; omega)
  · exact ((((Blk.new w t #[v0, v1]).alloc _).alloc _).drew).grown hg (by simp [Value.ownBlock]; try omega)
  · exact (((Blk.newAt (w := w.alloc (.cells #[v0, v1] t)) (g := w.heap.size + 1) t #[r0, r1] (by simp)).alloc _).drew).grown hg (by simp [Value.ownBlock]; try omega)
theorem twin_any (a : Int) (A : Option Addr) (c : Nat) (xs : List Int) (w : World) (hx : RI .i64 w A xs) (hl : xs.length ≤ 1000000) :
    Calls Try.prog 42 #[.agg #[.int .i64 a, .slice A xs.length c]] w fun e w' => ∃ A' c', e = .returned (.agg #[.int .i64 a, .slice A' xs.length c']) ∧ RIo w.heap.size w' A' xs ∧ xs.length ≤ c' ∧ Below w.heap.size w w' := by
  obtain ⟨i0, hi0, hz0, hz1, hz2⟩ := info_parts info_int
  have hb0 : Below w.heap.size w ((w.alloc (.cells #[.int .i64 a, .slice A xs.length c] 47)).alloc (.cells #[.int .i64 0, .slice none 0 0] 47)) := balloc (balloc (Below.refl _ _) _) _
  go_enter Try.func42, Try.ntmps42
  go_wp2
  go_region_held3 (fun w' => w'.cell? ⟨w.heap.size, 0, none⟩ = some (.int .i64 a) ∧ w'.cell? ⟨w.heap.size, 1, none⟩ = some (.slice A xs.length c))
    (first | go_keep | exact ⟨hV1.cell 0, hV1.cell 1⟩ | exact ⟨hV2.cell 0, hV2.cell 1⟩)
    ((refine step_clone_RI _ (by rfl) _ _ 22 (by rfl) (w.heap.size + 1 + 1) 3 8 Try.underlying22 hi0 hz0 hz1 hz2 rfl .i64 _ (by rfl) (World.ownsRow.drew (own_emptyG _ (by simp) (Nat.le_refl _))) A c xs (by rfl) (hx.keep (balloc hb0 _).drew) (by unfold maxLen; omega) (by omega) (by simp) ?_; intro A' c' w1 hc1 hown1 hgrow1; obtain ⟨hB1, hV1, hR1⟩ := twin_facts hgrow1; have hV2 := (hV1.far (p := ⟨w.heap.size + 1, 0, none⟩) (by simp) (.int .i64 a)).far (p := ⟨w.heap.size + 1, 1, none⟩) (by simp) (.slice A' xs.length c'); have r0 := hR1.frozen 0; have r1 := hR1.frozen 1; have q0 : w1.cell? ⟨w.heap.size + 1, 0, none⟩ = some (.int .i64 0) := hR1.cell 0; have q1 : w1.cell? ⟨w.heap.size + 1, 1, none⟩ = some (.slice none 0 0) := hR1.cell 1; have hlt1 := hR1.lt))
  go_wp2
  refine bodyPost_ret (v := .agg #[.int .i64 a, .slice A' xs.length c']) (by simp [results, Try.results42, go_sem, q0, q1]) rfl ⟨A', c', rfl, ?_, hc1, ?_⟩
  · exact (((own_RIo hown1).far (p := ⟨w.heap.size + 1, 0, none⟩) (by simp) _).far (p := ⟨w.heap.size + 1, 1, none⟩) (by simp) _).mono (by omega)
  · exact (hB1.setCell (p := ⟨w.heap.size + 1, 0, none⟩) (by simp) _).setCell (p := ⟨w.heap.size + 1, 1, none⟩) (by simp) _

theorem Elems.push {base : Nat} {w w' : World} {own : Option Nat} {raws : List (Int × Value)} {l : List (Int × List Int)} {a : Int} {A : Option Addr} {c g H : Nat} {xs : List Int} (h : Elems base w own raws l) (hr : RIo base w A xs) (hc : xs.length ≤ c) (hne : 0 < xs.length → ∀ b off, A = some ⟨b, off, none⟩ → own ≠ some b)
    (hg : w.grownBy w' own) (hat : own = some g ∨ g = H) (hH : w.heap.size ≤ H) : Elems base w' (some g) (raws ++ [(a, .slice A xs.length c)]) (l ++ [(a, xs)]) := by
  refine (h.snoc hr hc hne).grown hg ?_
  rcases hat with e | e
  · exact .inl e.symm
  · exact .inr ⟨g, rfl, by omega⟩
/-- What was made later lies apart from an older row. -/
theorem RIo.apart {B base : Nat} {w wr : World} {e : TypeId} {s n : Nat} {A : Option Addr} {xs : List Int} {v : Value} {ys : List Value} (h : RIo B w A xs) (hO : wr.ownsRow base e s v n ys) (hB : wr.heap.size ≤ B) : 0 < xs.length → ∀ b off, A = some ⟨b, off, none⟩ → v.ownBlock ≠ some b := by
  intro h0 b off e2 e3
  obtain ⟨b', off', e', h1, _⟩ := h h0
  rw [e2] at e'
  injection e' with e'
  injection e' with e' _
  have := (hO.lt b e3).2
  omega
theorem encK_one {a : Int} {A : Option Addr} {n c : Nat} : ∀ u ∈ encK (a, .slice A n c), u.oneCell' = true := by simp [encK, Value.oneCell']
theorem info_block : (Try.prog.info? 47).map (fun i => (i.zero, i.size, i.bytes)) = some (some (.agg #[.int .i64 0, .slice none 0 0]), 2, 32) := by kernel_rfl
set_option maxHeartbeats 4000000 in
theorem Twin_any (A : Option Addr) (c : Nat) (l : List (Int × List Int)) (w : World) (hx : RB w A l) (hl : l.length ≤ 1000000) (hall : ∀ b ∈ l, b.2.length ≤ 1000000) :
    Calls Try.prog 22 #[.slice A l.length c] w fun e w' => ∃ A' c', e = .returned (.slice A' l.length c') ∧ RBo w.heap.size w' A' l ∧ l.length ≤ c' ∧ Below w.heap.size w w' := by
  have HALL := Lib.hid hall
  clear hall
  obtain ⟨i0, hi0, hz0, hz1, hz2⟩ := info_parts info_block
  go_enter Try.func22, Try.ntmps22
  go_wp2
  go_loopg [3, 4] l.length (fun gk v i wr => ∃ (k : Nat) (raws : List (Int × Value)), k + gk = l.length ∧ i = .int .i64 k ∧ wr.ownsRow w.heap.size 47 2 v k (raws.flatMap encK) ∧ Elems w.heap.size wr v.ownBlock raws (l.take k) ∧ Below w.heap.size w wr)
  case atStart => exact ⟨0, [], by omega, rfl, World.ownsRow_nil _ _ _ _, Elems.nil, Below.refl _ _⟩
  case round =>
    obtain ⟨k, raws, hk, rfl, hO, hE, hb⟩ := hrel
    have hk' : k ≤ l.length := by omega
    have HK := Lib.hid hk
    clear hk
    have hsz := hb.size
    have hrl : raws.length = k := by rw [hE.1]; simp; omega
    have HRL := Lib.hid hrl
    clear hrl
    by_cases hlt : k < l.length
    · obtain ⟨b1, off1, A1, c1, rfl, hlw, hw1, hw2, hr, hcap⟩ := hx.at_ hlt
      have hc1 := (hb.cell (p := ⟨b1, _, none⟩) hlw).trans hw1
      have hc2 := (hb.cell (p := ⟨b1, _, none⟩) hlw).trans hw2
      have hln := HALL.out _ (List.getElem_mem hlt)
      go_wp2_with fail
      refine (twin_any l[k].1 A1 c1 l[k].2 _ (hr.keep hb) hln).mono ?_
      rintro _ w3 ⟨A3, c3, rfl, r3, hc3, hb3⟩
      have hO3 := own_keep hO hb3
      have hE3 := hE.keep hb3
      have hne := r3.apart hO (Nat.le_refl _)
      have hB3 := bstep hb hb3
      have hs3 := hB3.size
      have HT : Hid (l.take (k + 1) = l.take k ++ [(l[k].1, l[k].2)]) := Lib.hid (List.take_succ_eq_append_getElem hlt)
      clear hc1 hc2 hb3
      go_wp2_with (at_builtin; refine wpList_append_lies _ rfl _ _ 37 rfl w.heap.size 47 i0 _ 2 32 Try.underlying37 hi0 hz0 hz1 hz2 rfl (by decide) _ k _ rfl (hO3.alloc _) ⟨w3.heap.size, 0, none⟩ 1 1 (encK (l[k].1, .slice A3 l[k].2.length c3)) rfl rfl (enc_news _ rfl) encK_one (by omega) (by unfold maxLen; omega) (by omega) (by simp; omega) (w3.heap.size + 1) (by simp) ?_; intro g4 c4 w4 hown4 hgrow4 hat4 hlt4)
      have hE4 := (hE3.keep (balloc (Below.refl _ _) (.cells #[.int .i64 l[k].1, .slice A3 l[k].2.length c3] 47))).push (a := l[k].1) ((r3.mono hsz).keep (balloc (Below.refl _ _) (.cells #[.int .i64 l[k].1, .slice A3 l[k].2.length c3] 47))) hc3 hne hgrow4 hat4 (by simp)
      go_roundg (gk - 1)
      case rel => exact ⟨k + 1, _, by have := HK.out; omega, by go_num, by rw [flat_snoc]; exact hown4, by rw [HT.out]; exact hE4, own_below (balloc hB3 _) (hO3.alloc _) hgrow4 (Nat.le_refl _) (by simp; omega)⟩
      case measure => have := HK.out; omega
    · obtain rfl : k = l.length := by omega
      rw [List.take_length] at hE
      obtain ⟨A', c', rfl, hcc⟩ := own_shape' hO
      go_wp2
      go_ret
      exact ⟨A', c', rfl, own_RBo hO hE HRL.out, hcc, hb⟩

/-! ### counts -/
def cnt (xs : List Int) : Nat → Int
  | 0 => 0
  | k + 1 => cnt xs k + if xs.getD k 0 = 0 then 0 else 1
def cntB (l : List (Int × List Int)) : Nat → Int
  | 0 => 0
  | k + 1 => cntB l k + cnt (l.getD k (0, [])).2 (l.getD k (0, [])).2.length
theorem cnt_bd (xs : List Int) (k : Nat) : 0 ≤ cnt xs k ∧ cnt xs k ≤ k := by
  induction k with
  | zero => simp [cnt]
  | succ k ih => unfold cnt; split <;> omega
theorem cntB_bd {l : List (Int × List Int)} (h : Apart l) (k : Nat) (hk : k ≤ l.length) : 0 ≤ cntB l k ∧ cntB l k ≤ 256 * k := by
  induction k with
  | zero => simp [cntB]
  | succ k ih =>
    have h1 := ih (by omega)
    have h2 := (h.bd k (by omega)).2.2.2.1
    unfold cntB
    rw [getD_lt _ _ (show k < l.length by omega)]
    have h3 := cnt_bd l[k].2 l[k].2.length
    omega
def countS (l : List (Int × List Int)) : Int × Int := if recErr l ≠ 0 then (0, recErr l) else (cntB l l.length, 0)
theorem count_err {l : List (Int × List Int)} (h : ¬ recErr l = 0) : countS l = (0, recErr l) := by simp [countS, h]
theorem count_ok {l : List (Int × List Int)} (h : recErr l = 0) : countS l = (cntB l l.length, 0) := by simp [countS, h]
def CountPost (l : List (Int × List Int)) (w : World) (e : Ending) (w' : World) : Prop := e = .returned (.tuple #[.int .i64 (countS l).1, .int .i64 (countS l).2]) ∧ Below w.heap.size w w'
theorem CountPost.mk {l : List (Int × List Int)} {w w' : World} {a b : Int} (h : countS l = (a, b)) (hb : Below w.heap.size w w') : CountPost l w (.returned (.tuple #[.int .i64 a, .int .i64 b])) w' := ⟨by rw [h], hb⟩
set_option maxHeartbeats 4000000 in
theorem alignCount_any (A : Option Addr) (c : Nat) (l : List (Int × List Int)) (w : World) (hx : RB w A l) (hl : l.length ≤ 140737488355328) (hall : ∀ b ∈ l, b.2.length ≤ 140737488355328) :
    Calls Try.prog 23 #[.slice A l.length c] w (CountPost l w) := by
  rcases (Decidable.em (recErr l = 0)).symm with he | he
  · have e1 : (recErr l != 0) = true := by simp [he]
    have HE := Lib.hid he
    clear he
    go_enter Try.func23, Try.ntmps23
    go_wp2_with fail
    refine (alignCheck_any _ _ _ _ hx hl hall).mono ?_
    rintro _ w1 ⟨rfl, hb1⟩
    go_wp2
    go_ret2
    exact CountPost.mk (count_err HE.out) hb1
  have e1 : (recErr l != 0) = false := by simp [he]
  have HE := Lib.hid he
  have hl5 := (recErr_zero he).1
  have HA := Lib.hid (rec_apart he)
  clear he
  go_enter Try.func23, Try.ntmps23
  go_wp2_with fail
  refine (alignCheck_any _ _ _ _ hx hl hall).mono ?_
  rintro _ w1 ⟨rfl, hb1⟩
  go_wp2
  go_loopg [5, 7, 9, 17] l.length (fun gk v _ _ i wr => ∃ k : Nat, k + gk = l.length ∧ i = .int .i64 k ∧ v = .int .i64 (cntB l k) ∧ Below w.heap.size w wr)
  case atStart => exact ⟨0, by omega, rfl, rfl, hb1⟩
  case round =>
    obtain ⟨k, hk, rfl, rfl, hb⟩ := hrel
    have hk' : k ≤ l.length := by omega
    have HK := Lib.hid hk
    clear hk
    have hbd := cntB_bd HA.out k hk'
    by_cases hlt : k < l.length
    · obtain ⟨b1, off1, A1, c1, rfl, hlw, hw1, hw2, hr, hcap⟩ := hx.at_ hlt
      have hc1 := (hb.cell (p := ⟨b1, _, none⟩) hlw).trans hw1
      have hc2 := (hb.cell (p := ⟨b1, _, none⟩) hlw).trans hw2
      have hln := (HA.out.bd k hlt).2.2.2.1
      have HN : Hid (cntB l (k + 1) = cntB l k + cnt l[k].2 l[k].2.length) := Lib.hid (by rw [cntB, getD_lt _ _ hlt])
      generalize hP : cntB l k = P at *
      clear hP
      have hb' := balloc hb (.cells #[.int .i64 l[k].1, .slice A1 l[k].2.length c1] 47)
      obtain ⟨wo, rfl⟩ : ∃ wo : World, wo = wr := ⟨_, rfl⟩
      obtain ⟨gu, rfl⟩ : ∃ gu : Nat, gu = gk := ⟨_, rfl⟩
      go_wp2
      clear hc1 hc2
      go_loopg [5, 9, 24] l[k].2.length (fun gj v _ i wr => ∃ j : Nat, j + gj = l[k].2.length ∧ i = .int .i64 j ∧ v = .int .i64 (P + cnt l[k].2 j) ∧ Below w.heap.size w wr)
      case atStart => exact ⟨0, by omega, rfl, by simp [cnt], hb'⟩
      case round =>
        obtain ⟨j, hj, rfl, rfl, hb2⟩ := hrel
        have hj' : j ≤ l[k].2.length := by omega
        have HJ := Lib.hid hj
        clear hj
        have hcb := cnt_bd l[k].2 j
        by_cases hlt2 : j < l[k].2.length
        · obtain ⟨b2, off2, rfl, hlw2, hw3⟩ := hr.at2 hlt2
          rw [getD_lt _ _ hlt2] at hw3
          have hc3 := (hb2.cell (p := ⟨b2, _, none⟩) hlw2).trans hw3
          by_cases hz : (l[k].2)[j] = 0
          · have ez : ((l[k].2)[j] != 0) = false := by simp [hz]
            have HS : Hid (cnt l[k].2 (j + 1) = cnt l[k].2 j) := Lib.hid (by rw [cnt, getD_lt _ _ hlt2, if_pos hz, Int.add_zero])
            clear hz
            go_wp2
            go_roundg (gk - 1)
            case rel => exact ⟨j + 1, by have := HJ.out; omega, by go_num, by rw [HS.out], hb2⟩
            case measure => have := HJ.out; omega
          · have ez : ((l[k].2)[j] != 0) = true := by simp [hz]
            have HS : Hid (cnt l[k].2 (j + 1) = cnt l[k].2 j + 1) := Lib.hid (by rw [cnt, getD_lt _ _ hlt2, if_neg hz])
            clear hz
            go_wp2
            go_roundg (gk - 1)
            case rel => exact ⟨j + 1, by have := HJ.out; omega, by go_num, by rw [HS.out, Int.add_assoc], hb2⟩
            case measure => have := HJ.out; omega
        · obtain rfl : j = l[k].2.length := by omega
          go_wp2
          go_roundg (gu - 1)
          case rel => exact ⟨k + 1, by have := HK.out; omega, by go_num, by rw [HN.out], hb2⟩
          case measure => have := HK.out; omega
    · obtain rfl : k = l.length := by omega
      go_wp2
      go_ret2
      exact CountPost.mk (count_ok HE.out) hb
set_option maxHeartbeats 4000000 in
theorem refCount14_any (A : Option Addr) (c : Nat) (l : List (Int × List Int)) (w : World) (hx : RB w A l) (hl : l.length ≤ 140737488355328) (hall : ∀ b ∈ l, b.2.length ≤ 140737488355328) :
    Calls Try.prog 24 #[.slice A l.length c] w (CountPost l w) := by
  rcases (Decidable.em (recErr l = 0)).symm with he | he
  · have e1 : (recErr l != 0) = true := by simp [he]
    have HE := Lib.hid he
    clear he
    go_enter Try.func24, Try.ntmps24
    go_wp2_with fail
    refine (refCheck14_any _ _ _ _ hx hl hall).mono ?_
    rintro _ w1 ⟨rfl, hb1⟩
    go_wp2_with fail
    refine (refCheck14_any _ _ _ _ (hx.keep hb1) hl hall).mono ?_
    rintro _ w2 ⟨rfl, hb2⟩
    go_wp2
    go_ret2
    exact CountPost.mk (count_err HE.out) (bstep hb1 hb2)
  have e1 : (recErr l != 0) = false := by simp [he]
  have HE := Lib.hid he
  have hl5 := (recErr_zero he).1
  have HA := Lib.hid (rec_apart he)
  clear he
  go_enter Try.func24, Try.ntmps24
  go_wp2_with fail
  refine (refCheck14_any _ _ _ _ hx hl hall).mono ?_
  rintro _ w1 ⟨rfl, hb1⟩
  go_wp2
  go_loopg [4, 5, 6] l.length (fun gk v i _ wr => ∃ k : Nat, k + gk = l.length ∧ i = .int .i64 k ∧ v = .int .i64 (cntB l k) ∧ Below w.heap.size w wr)
  case atStart => exact ⟨0, by omega, rfl, rfl, hb1⟩
  case round =>
    obtain ⟨k, hk, rfl, rfl, hb⟩ := hrel
    have hk' : k ≤ l.length := by omega
    have HK := Lib.hid hk
    clear hk
    have hbd := cntB_bd HA.out k hk'
    by_cases hlt : k < l.length
    · obtain ⟨b1, off1, A1, c1, rfl, hlw, hw1, hw2, hr, hcap⟩ := hx.at_ hlt
      have hln := (HA.out.bd k hlt).2.2.2.1
      have HN : Hid (cntB l (k + 1) = cntB l k + cnt l[k].2 l[k].2.length) := Lib.hid (by rw [cntB, getD_lt _ _ hlt])
      generalize hP : cntB l k = P at *
      clear hP
      obtain ⟨wo, rfl⟩ : ∃ wo : World, wo = wr := ⟨_, rfl⟩
      obtain ⟨gu, rfl⟩ : ∃ gu : Nat, gu = gk := ⟨_, rfl⟩
      have dk : decide (k < l.length) = true := decide_eq_true hlt
      go_wp2
      go_loopg [4, 6] l[k].2.length (fun gj v i wr => ∃ j : Nat, j + gj = l[k].2.length ∧ i = .int .i64 j ∧ v = .int .i64 (P + cnt l[k].2 j) ∧ Below w.heap.size w wr)
      case atStart => exact ⟨0, by omega, rfl, by simp [cnt], hb⟩
      case round =>
        obtain ⟨j, hj, rfl, rfl, hb2⟩ := hrel
        have hj' : j ≤ l[k].2.length := by omega
        have HJ := Lib.hid hj
        clear hj
        have hcb := cnt_bd l[k].2 j
        have hc1 := (hb2.cell (p := ⟨b1, _, none⟩) hlw).trans hw1
        have hc2 := (hb2.cell (p := ⟨b1, _, none⟩) hlw).trans hw2
        by_cases hlt2 : j < l[k].2.length
        · obtain ⟨b2, off2, rfl, hlw2, hw3⟩ := hr.at2 hlt2
          rw [getD_lt _ _ hlt2] at hw3
          have hc3 := (hb2.cell (p := ⟨b2, _, none⟩) hlw2).trans hw3
          by_cases hz : (l[k].2)[j] = 0
          · have ez : ((l[k].2)[j] != 0) = false := by simp [hz]
            have HS : Hid (cnt l[k].2 (j + 1) = cnt l[k].2 j) := Lib.hid (by rw [cnt, getD_lt _ _ hlt2, if_pos hz, Int.add_zero])
            clear hz
            go_wp2
            go_roundg (gk - 1)
            case rel => exact ⟨j + 1, by have := HJ.out; omega, by go_num, by rw [HS.out], hb2⟩
            case measure => have := HJ.out; omega
          · have ez : ((l[k].2)[j] != 0) = true := by simp [hz]
            have HS : Hid (cnt l[k].2 (j + 1) = cnt l[k].2 j + 1) := Lib.hid (by rw [cnt, getD_lt _ _ hlt2, if_neg hz])
            clear hz
            go_wp2
            go_roundg (gk - 1)
            case rel => exact ⟨j + 1, by have := HJ.out; omega, by go_num, by rw [HS.out, Int.add_assoc], hb2⟩
            case measure => have := HJ.out; omega
        · obtain rfl : j = l[k].2.length := by omega
          go_wp2
          go_roundg (gu - 1)
          case rel => exact ⟨k + 1, by have := HK.out; omega, by go_num, by rw [HN.out], hb2⟩
          case measure => have := HK.out; omega
    · obtain rfl : k = l.length := by omega
      go_wp2
      go_ret2
      exact CountPost.mk (count_ok HE.out) hb
end Go.Proofs.Ytbejkfeloffccaa
