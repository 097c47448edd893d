/-
  Parts of the proof of WorkerNames: WkT.
-/
import Derived.Test.YtdekbncpodjgnaaT13
import Derived.Test.YtdekbncpodjgnaaT12
import Derived.Lib.SliceRun
namespace Go.Proofs.Ytdekbncpodjgnaa
open Go.RowKit Runs Lagc Reg
set_option linter.unusedVariables false
set_option linter.unusedSimpArgs false
namespace Wk
open Lagw
theorem wpList_clone_G {P : Program} {w : World} {ops : Array Oper} {rest : List Oper} {o : Oper} {a : Act} {Q : Exit → Act → World → Prop} (hgd : o.guard = none) (s x : Operand) (t : TypeId)
 (ho : o.op = .call { callee := .builtin .append, args := #[s, x], argTypes := #[t, t] })
 (e : TypeId) {i : TypeInfo} {z : Value} (sz bytes : Nat) (ht : P.underlying t = some (.slice e)) (hi : P.info? e = some i) (hz : i.zero = some z)
 (hsize : i.size = sz) (hby : i.bytes = bytes) (hzs : z.cells.size = sz) (h1 : 1 ≤ sz) {α : Type} (enc : α → List Value) (henc : ∀ x, (enc x).length = sz) (hone : ∀ y, ∀ u ∈ enc y, u.oneCell' = true) (B : Nat) (v : Value) (hs : a.eval s = v) (hv : emptyV B v) (hB : B ≤ w.heap.size)
 (A : Option Addr) (c : Nat) (l : List α) (hx : a.eval x = .slice A l.length c) (hr : News enc w A l) (h63 : l.length ≤ maxLen) (hbytes : l.length * bytes ≤ 140737488355328)
 (h : ∀ A' c' w', Made enc e sz B l A' c' w' → Below w.heap.size w w' → wpList P ops Q rest (a.put o.dst (.slice A' l.length c')) w') : wpList P ops Q (o :: rest) a w := by
 refine wpList_plain hgd fun K hK => ?_
 have := step_clone_G (P := P) (w := w) (ops := #[]) (o := o) (a := a) (K := K) (Q := Q) (E := True) hgd s x t ho e sz bytes ht hi hz hsize hby hzs h1 enc henc hone B v hs hv hB A c l hx hr h63 hbytes (fun A' c' w' h1 h2 => hK _ _ (h A' c' w' h1 h2))
 rwa [if_pos (by simp [Region.wanted, hgd])] at this
theorem news_RL {w : World} {A : Option Addr} {l : List (Int × Int)} (h : RL w A l) : News encP w A l := by
 intro h0
 obtain ⟨b, off, e, hc⟩ : ∃ b off, A = some ⟨b, off, none⟩ ∧ ∀ j u, (l.flatMap encP)[j]? = some u → w.cell? ⟨b, off + j, none⟩ = some u := by
  obtain ⟨b, off, e, _, hc⟩ := h h0
  refine ⟨b, off, e, fun j u hu => ?_⟩
  have hj : j < l.length * 2 := by
   have := (List.getElem?_eq_some_iff.1 hu).1
   rwa [flat_len encP 2 encP_len] at this
  have hk : j / 2 < l.length := by omega
  have h1 := flat_get encP 2 encP_len l (j / 2) (j % 2) (by omega) hk
  rw [Nat.div_add_mod' j 2, hu] at h1
  have h2 := hc (j / 2) hk
  rw [getD_lt _ _ hk] at h2
  have h3 : j % 2 = 0 ∨ j % 2 = 1 := by omega
  rcases h3 with h3 | h3
  ·rw [h3] at h1
   simp only [encP, List.getElem?_cons_zero] at h1
   rw [show off + j = off + j / 2 * 2 by omega, h2.1, ← h1]
  ·rw [h3] at h1
   simp only [encP, List.getElem?_cons_succ, List.getElem?_cons_zero] at h1
   rw [show off + j = off + j / 2 * 2 + 1 by omega, h2.2, ← h1]
 exact ⟨b, off, e, hc⟩
theorem news_RBo {w : World} {A : Option Addr} {l : List Bool} (h : RBo w A l) : News encB w A l := by
 intro h0
 obtain ⟨b, off, e, _, hc⟩ := h h0
 refine ⟨b, off, e, fun j u hu => ?_⟩
 rw [flatB] at hu
 have hj : j < l.length := by
  have := (List.getElem?_eq_some_iff.1 hu).1
  rwa [List.length_map] at this
 rw [hc j hj, ← hu]
 simp [List.getD_eq_getElem?_getD, hj]
theorem _root_.Go.Proofs.Ytdekbncpodjgnaa.Reg.Made.rl {e : TypeId} {B : Nat} {l : List (Int × Int)} {A : Option Addr} {c : Nat} {w : World} (h : Made encP e 2 B l A c w) : RL w A l := by
 rcases h.2 with rfl | h1
 ·exact RL.nil
 ·exact own_RL h1
theorem _root_.Go.Proofs.Ytdekbncpodjgnaa.Reg.Made.rb {e : TypeId} {B : Nat} {l : List Bool} {A : Option Addr} {c : Nat} {w : World} (h : Made encB e 1 B l A c w) : RBo w A l := by
 rcases h.2 with rfl | h1
 ·exact RBo.nil
 ·intro h0
  obtain ⟨g, rfl, _, hg⟩ := own_some h1 h0
  refine ⟨g, 0, rfl, hg, fun j hj => ?_⟩
  have := own_at encB_len h1 hj (i := 0) (by omega)
  simp only [encB, List.getElem?_cons_zero, Nat.mul_one, Nat.add_zero] at this
  rw [Nat.zero_add, this, List.getD_eq_getElem?_getD, List.getElem?_eq_getElem hj]
  rfl
theorem encP_oneP (y : Int × Int) : ∀ u ∈ encP y, u.oneCell' = true := fun u hu => encP_one y u hu
theorem encI_oneI (y : Int) : ∀ u ∈ encI .i64 y, u.oneCell' = true := fun u hu => encI_one .i64 y u hu
theorem encB_oneB (y : Bool) : ∀ u ∈ encB y, u.oneCell' = true := by
 intro u hu
 simp only [encB, List.mem_singleton] at hu
 subst hu
 rfl
theorem news_none {α : Type} {enc : α → List Value} {w : World} {l : List α} (h : News enc w none l) : l = [] := by
 rcases l with _ | ⟨x, l⟩
 ·rfl
 ·obtain ⟨b, off, e, _⟩ := h (by simp)
  cases e
theorem cell_lt {w : World} {b off : Nat} {v : Value} (h : w.cell? ⟨b, off, none⟩ = some v) : b < w.heap.size := by
 rcases Nat.lt_or_ge b w.heap.size with h1 | h1
 ·exact h1
 ·exfalso
  simp [World.cell?, Array.getElem?_eq_none h1] at h
theorem info_count19 : (Try.prog.info? 97).map (fun i => (i.zero, i.size, i.bytes)) = some (some (.agg #[.int .i64 0, .int .i64 0]), 2, 16) := by kernel_rfl
theorem info_gap19 : (Try.prog.info? 99).map (fun i => (i.zero, i.size, i.bytes)) = some (some (.agg #[.int .i64 0, .int .i64 0]), 2, 16) := by kernel_rfl
set_option maxRecDepth 20000 in
set_option maxHeartbeats 1000000 in
theorem cloneC_any (A : Option Addr) (c : Nat) (l : List (Int × Int)) (w : World) (hx : News encP w A l) (hl : l.length ≤ 1000000) :
 Calls Try.prog 74 #[.slice A l.length c] w fun e w' => ∃ A' c', e = .returned (.slice A' l.length c') ∧ Made encP 97 2 w.heap.size l A' c' w' ∧ Below w.heap.size w w' := by
 obtain ⟨i0, hi0, hz0, hz1, hz2⟩ := info_parts info_count19
 have qN : ∀ (w : World) (a : Option Addr) (n c n' c' : Nat), (binOp .eql 36 (.slice a n c) (.slice none n' c')).run Try.prog w = .ok (.bool a.isNone) w := fun w a n c n' c' => Lib.run_eql_slice_nil w _ _ a n c n' c' Try.underlying36
 rcases A with _ | ad
 ·have h0 := news_none hx
  subst h0
  go_enter Try.func74, Try.ntmps74
  go_wp2
  go_ret
  exact ⟨none, 0, rfl, ⟨Nat.le_refl _, .inl rfl⟩, Below.refl _ _⟩
 ·have hx' : News encP (w.alloc (.cells #[] 97)) (some ad) l := by
   intro h0
   obtain ⟨b, off, e, h1⟩ := hx h0
   refine ⟨b, off, e, fun j u hu => ?_⟩
   have h2 := h1 j u hu
   exact (balloc (Below.refl w.heap.size w) _).cell (p := ⟨b, off + j, none⟩) (cell_lt h2) |>.trans h2
  go_enter Try.func74, Try.ntmps74
  go_wp2_with (at_builtin; refine wpList_clone_G rfl (.tmp 5) (.tmp 6) 36 rfl 97 2 16 Try.underlying36 hi0 hz0 hz1 hz2 rfl (by omega) encP encP_len encP_oneP w.heap.size _ rfl ⟨_, rfl, Nat.le_refl _⟩ (by simp) _ c l rfl hx' (by unfold maxLen; omega) (by omega) ?_; intro A' c' w' hm hb)
  go_ret
  exact ⟨A', c', rfl, hm, bstep (balloc (Below.refl _ _) _) hb⟩
set_option maxRecDepth 20000 in
set_option maxHeartbeats 1000000 in
theorem cloneG_any (A : Option Addr) (c : Nat) (l : List (Int × Int)) (w : World) (hx : News encP w A l) (hl : l.length ≤ 1000000) :
 Calls Try.prog 75 #[.slice A l.length c] w fun e w' => ∃ A' c', e = .returned (.slice A' l.length c') ∧ Made encP 99 2 w.heap.size l A' c' w' ∧ Below w.heap.size w w' := by
 obtain ⟨i0, hi0, hz0, hz1, hz2⟩ := info_parts info_gap19
 have qN : ∀ (w : World) (a : Option Addr) (n c n' c' : Nat), (binOp .eql 37 (.slice a n c) (.slice none n' c')).run Try.prog w = .ok (.bool a.isNone) w := fun w a n c n' c' => Lib.run_eql_slice_nil w _ _ a n c n' c' Try.underlying37
 rcases A with _ | ad
 ·have h0 := news_none hx
  subst h0
  go_enter Try.func75, Try.ntmps75
  go_wp2
  go_ret
  exact ⟨none, 0, rfl, ⟨Nat.le_refl _, .inl rfl⟩, Below.refl _ _⟩
 ·have hx' : News encP (w.alloc (.cells #[] 99)) (some ad) l := by
   intro h0
   obtain ⟨b, off, e, h1⟩ := hx h0
   refine ⟨b, off, e, fun j u hu => ?_⟩
   have h2 := h1 j u hu
   exact (balloc (Below.refl w.heap.size w) _).cell (p := ⟨b, off + j, none⟩) (cell_lt h2) |>.trans h2
  go_enter Try.func75, Try.ntmps75
  go_wp2_with (at_builtin; refine wpList_clone_G rfl (.tmp 5) (.tmp 6) 37 rfl 99 2 16 Try.underlying37 hi0 hz0 hz1 hz2 rfl (by omega) encP encP_len encP_oneP w.heap.size _ rfl ⟨_, rfl, Nat.le_refl _⟩ (by simp) _ c l rfl hx' (by unfold maxLen; omega) (by omega) ?_; intro A' c' w' hm hb)
  go_ret
  exact ⟨A', c', rfl, hm, bstep (balloc (Below.refl _ _) _) hb⟩
set_option maxRecDepth 20000 in
set_option maxHeartbeats 1000000 in
theorem cloneB_any (A : Option Addr) (c : Nat) (l : List Bool) (w : World) (hx : News encB w A l) (hl : l.length ≤ 1000000) :
 Calls Try.prog 76 #[.slice A l.length c] w fun e w' => ∃ A' c', e = .returned (.slice A' l.length c') ∧ Made encB 4 1 w.heap.size l A' c' w' ∧ Below w.heap.size w w' := by
 obtain ⟨i0, hi0, hz0, hz1, hz2⟩ := info_parts info_bool
 have qN : ∀ (w : World) (a : Option Addr) (n c n' c' : Nat), (binOp .eql 40 (.slice a n c) (.slice none n' c')).run Try.prog w = .ok (.bool a.isNone) w := fun w a n c n' c' => Lib.run_eql_slice_nil w _ _ a n c n' c' Try.underlying40
 rcases A with _ | ad
 ·have h0 := news_none hx
  subst h0
  go_enter Try.func76, Try.ntmps76
  go_wp2
  go_ret
  exact ⟨none, 0, rfl, ⟨Nat.le_refl _, .inl rfl⟩, Below.refl _ _⟩
 ·have hx' : News encB (w.alloc (.cells #[] 4)) (some ad) l := by
   intro h0
   obtain ⟨b, off, e, h1⟩ := hx h0
   refine ⟨b, off, e, fun j u hu => ?_⟩
   have h2 := h1 j u hu
   exact (balloc (Below.refl w.heap.size w) _).cell (p := ⟨b, off + j, none⟩) (cell_lt h2) |>.trans h2
  go_enter Try.func76, Try.ntmps76
  go_wp2_with (at_builtin; refine wpList_clone_G rfl (.tmp 5) (.tmp 6) 40 rfl 4 1 1 Try.underlying40 hi0 hz0 hz1 hz2 rfl (by omega) encB encB_len encB_oneB w.heap.size _ rfl ⟨_, rfl, Nat.le_refl _⟩ (by simp) _ c l rfl hx' (by unfold maxLen; omega) (by omega) ?_; intro A' c' w' hm hb)
  go_ret
  exact ⟨A', c', rfl, hm, bstep (balloc (Below.refl _ _) _) hb⟩
set_option maxRecDepth 20000 in
set_option maxHeartbeats 1000000 in
theorem cloneI_any (A : Option Addr) (c : Nat) (l : List Int) (w : World) (hx : News (encI .i64) w A l) (hl : l.length ≤ 1000000) :
 Calls Try.prog 77 #[.slice A l.length c] w fun e w' => ∃ A' c', e = .returned (.slice A' l.length c') ∧ Made (encI .i64) 3 1 w.heap.size l A' c' w' ∧ Below w.heap.size w w' := by
 obtain ⟨i0, hi0, hz0, hz1, hz2⟩ := info_parts info_int
 have qN : ∀ (w : World) (a : Option Addr) (n c n' c' : Nat), (binOp .eql 22 (.slice a n c) (.slice none n' c')).run Try.prog w = .ok (.bool a.isNone) w := fun w a n c n' c' => Lib.run_eql_slice_nil w _ _ a n c n' c' Try.underlying22
 rcases A with _ | ad
 ·have h0 := news_none hx
  subst h0
  go_enter Try.func77, Try.ntmps77
  go_wp2
  go_ret
  exact ⟨none, 0, rfl, ⟨Nat.le_refl _, .inl rfl⟩, Below.refl _ _⟩
 ·have hx' : News (encI .i64) (w.alloc (.cells #[] 3)) (some ad) l := by
   intro h0
   obtain ⟨b, off, e, h1⟩ := hx h0
   refine ⟨b, off, e, fun j u hu => ?_⟩
   have h2 := h1 j u hu
   exact (balloc (Below.refl w.heap.size w) _).cell (p := ⟨b, off + j, none⟩) (cell_lt h2) |>.trans h2
  go_enter Try.func77, Try.ntmps77
  go_wp2_with (at_builtin; refine wpList_clone_G rfl (.tmp 5) (.tmp 6) 22 rfl 3 1 8 Try.underlying22 hi0 hz0 hz1 hz2 rfl (by omega) (encI .i64) (encI_len .i64) encI_oneI w.heap.size _ rfl ⟨_, rfl, Nat.le_refl _⟩ (by simp) _ c l rfl hx' (by unfold maxLen; omega) (by omega) ?_; intro A' c' w' hm hb)
  go_ret
  exact ⟨A', c', rfl, hm, bstep (balloc (Below.refl _ _) _) hb⟩
set_option maxHeartbeats 1000000 in
theorem equalC_any (A B : Option Addr) (c d : Nat) (xs ys : List (Int × Int)) (w : World) (hx : RL w A xs) (hy : RL w B ys) (l1 : xs.length ≤ 1000000) (l2 : ys.length ≤ 1000000) :
 Calls Try.prog 62 #[.slice A xs.length c, .slice B ys.length d] w fun e w' => e = .returned (.bool (decide (xs = ys))) ∧ ∃ n, w' = w.drewN n := by
 by_cases hl : xs.length = ys.length
 ·have hl' : ((xs.length : Int) != (ys.length : Int)) = false := by simp [hl]
  have HL := Lib.hid hl
  clear hl
  go_enter Try.func62, Try.ntmps62
  go_wp2
  go_loopg [13] xs.length (fun gk i wr => ∃ k n : Nat, k + gk = xs.length ∧ i = .int .i64 k ∧ wr = w.drewN n ∧ Hid (∀ j, j < k → xs.getD j (0, 0) = ys.getD j (0, 0)))
  case atStart => exact ⟨0, 0, by omega, rfl, rfl, Lib.hid (by intro j hj; omega)⟩
  case round =>
   obtain ⟨k, n, hk, rfl, rfl, hall⟩ := hrel
   have hk' : k ≤ xs.length := by omega
   have HK := Lib.hid hk
   clear hk
   by_cases hlt : k < xs.length
   ·have hlt2 : k < ys.length := by have := HL.out; omega
    obtain ⟨b1, off1, rfl, hl1, hc1, hd1⟩ := hx.at_ hlt
    obtain ⟨b2, off2, rfl, hl2, hc2, hd2⟩ := hy.at_ hlt2
    have HNE := Lib.hid (fun h => ne_at (xs := xs) (ys := ys) (k := k) (d := (0, 0)) h)
    have HEQ := Lib.hid (fun h => all_lt_succ (p := fun j => xs.getD j (0, 0) = ys.getD j (0, 0)) hall.out h)
    generalize xs.getD k (0, 0) = x at *
    generalize ys.getD k (0, 0) = y at *
    have g1 := eqg_count
    by_cases hxy : x = y
    ·have g2 := fun w => eqf_count x y w
     rw [decide_eq_true hxy] at g2
     have HXY := Lib.hid hxy
     clear hxy
     go_wp2
     go_quiet (fail)
     go_wp2
     go_roundg (gk - 1)
     case rel => exact ⟨k + 1, _, by have := HK.out; omega, by go_num, rfl, Lib.hid (HEQ.out HXY.out)⟩
     case measure => have := HK.out; omega
    ·have g2 := fun w => eqf_count x y w
     rw [decide_eq_false hxy] at g2
     have HXY := Lib.hid hxy
     clear hxy
     go_wp2
     go_quiet (fail)
     go_wp2
     go_ret
     exact ⟨ret_bool (decide_eq_false (HNE.out HXY.out)).symm, n + nq, by first | rfl | rw [World.drewN_drewN]⟩
   ·have HEQ := Lib.hid (plist_eq (d := (0, 0)) HL.out (fun j hj => hall.out j (by omega)))
    clear hall HK
    go_wp2
    go_ret
    exact ⟨ret_bool (decide_eq_true HEQ.out).symm, _, rfl⟩
 ·have hl' : ((xs.length : Int) != (ys.length : Int)) = true := by simp; omega
  have HN := Lib.hid (show ¬ xs = ys from fun e => hl (by rw [e]))
  clear hl
  go_enter Try.func62, Try.ntmps62
  go_wp2
  go_ret
  exact ⟨ret_bool (decide_eq_false HN.out).symm, 0, rfl⟩
set_option maxHeartbeats 1000000 in
theorem equalG_any (A B : Option Addr) (c d : Nat) (xs ys : List (Int × Int)) (w : World) (hx : RL w A xs) (hy : RL w B ys) (l1 : xs.length ≤ 1000000) (l2 : ys.length ≤ 1000000) :
 Calls Try.prog 63 #[.slice A xs.length c, .slice B ys.length d] w fun e w' => e = .returned (.bool (decide (xs = ys))) ∧ ∃ n, w' = w.drewN n := by
 by_cases hl : xs.length = ys.length
 ·have hl' : ((xs.length : Int) != (ys.length : Int)) = false := by simp [hl]
  have HL := Lib.hid hl
  clear hl
  go_enter Try.func63, Try.ntmps63
  go_wp2
  go_loopg [13] xs.length (fun gk i wr => ∃ k n : Nat, k + gk = xs.length ∧ i = .int .i64 k ∧ wr = w.drewN n ∧ Hid (∀ j, j < k → xs.getD j (0, 0) = ys.getD j (0, 0)))
  case atStart => exact ⟨0, 0, by omega, rfl, rfl, Lib.hid (by intro j hj; omega)⟩
  case round =>
   obtain ⟨k, n, hk, rfl, rfl, hall⟩ := hrel
   have hk' : k ≤ xs.length := by omega
   have HK := Lib.hid hk
   clear hk
   by_cases hlt : k < xs.length
   ·have hlt2 : k < ys.length := by have := HL.out; omega
    obtain ⟨b1, off1, rfl, hl1, hc1, hd1⟩ := hx.at_ hlt
    obtain ⟨b2, off2, rfl, hl2, hc2, hd2⟩ := hy.at_ hlt2
    have HNE := Lib.hid (fun h => ne_at (xs := xs) (ys := ys) (k := k) (d := (0, 0)) h)
    have HEQ := Lib.hid (fun h => all_lt_succ (p := fun j => xs.getD j (0, 0) = ys.getD j (0, 0)) hall.out h)
    generalize xs.getD k (0, 0) = x at *
    generalize ys.getD k (0, 0) = y at *
    have g1 := eqg_gap
    by_cases hxy : x = y
    ·have g2 := fun w => eqf_gap x y w
     rw [decide_eq_true hxy] at g2
     have HXY := Lib.hid hxy
     clear hxy
     go_wp2
     go_quiet (fail)
     go_wp2
     go_roundg (gk - 1)
     case rel => exact ⟨k + 1, _, by have := HK.out; omega, by go_num, rfl, Lib.hid (HEQ.out HXY.out)⟩
     case measure => have := HK.out; omega
    ·have g2 := fun w => eqf_gap x y w
     rw [decide_eq_false hxy] at g2
     have HXY := Lib.hid hxy
     clear hxy
     go_wp2
     go_quiet (fail)
     go_wp2
     go_ret
     exact ⟨ret_bool (decide_eq_false (HNE.out HXY.out)).symm, n + nq, by first | rfl | rw [World.drewN_drewN]⟩
   ·have HEQ := Lib.hid (plist_eq (d := (0, 0)) HL.out (fun j hj => hall.out j (by omega)))
    clear hall HK
    go_wp2
    go_ret
    exact ⟨ret_bool (decide_eq_true HEQ.out).symm, _, rfl⟩
 ·have hl' : ((xs.length : Int) != (ys.length : Int)) = true := by simp; omega
  have HN := Lib.hid (show ¬ xs = ys from fun e => hl (by rw [e]))
  clear hl
  go_enter Try.func63, Try.ntmps63
  go_wp2
  go_ret
  exact ⟨ret_bool (decide_eq_false HN.out).symm, 0, rfl⟩
def isEvB (D T : Nat) (k w b : Int) : Bool :=
 if k = 1 then (decide (0 ≤ w) && decide (w < (T : Int))) && decide (0 ≤ b) && decide (b < (D : Int))
 else if k = 2 ∨ k = 3 then (decide (0 ≤ w) && decide (w < (T : Int))) && (b == 0)
 else if k = 4 then (w == 0) && (b == 0) else false
set_option maxRecDepth 20000 in
set_option maxHeartbeats 4000000 in
theorem isEvent_any (S N G D T : Option Addr) (sl nl gl dl tl c1 c2 c3 c4 c5 : Nat) (k u b : Int) (w : World) :
 Calls Try.prog 64 #[.agg #[.slice S sl c1, .slice N nl c2, .slice G gl c3, .slice D dl c4, .slice T tl c5], .agg #[.int .u8 k, .int .i64 u, .int .i64 b]] w fun e w' => e = .returned (.bool (isEvB dl tl k u b)) ∧ Below w.heap.size w w' := by
 have hB : Below w.heap.size w ((w.alloc (.cells #[.slice S sl c1, .slice N nl c2, .slice G gl c3, .slice D dl c4, .slice T tl c5] 42)).alloc (.cells #[.int .u8 k, .int .i64 u, .int .i64 b] 54)) := balloc (balloc (Below.refl _ _) _) _
 by_cases k1 : k = 1
 ·subst k1
  rcases (show (decide (0 ≤ u) = false) ∨ (decide (0 ≤ u) = true ∧ decide (u < (tl : Int)) = false) ∨ (decide (0 ≤ u) = true ∧ decide (u < (tl : Int)) = true) by cases decide (0 ≤ u) <;> cases decide (u < (tl : Int)) <;> simp) with p1 | ⟨p1, p2⟩ | ⟨p1, p2⟩
  ·go_enter Try.func64, Try.ntmps64
   go_wp2
   go_ret
   exact ⟨ret_bool (by simp [isEvB, *]), hB⟩
  ·go_enter Try.func64, Try.ntmps64
   go_wp2
   go_ret
   exact ⟨ret_bool (by simp [isEvB, *]), hB⟩
  ·cases p3 : decide (0 ≤ b)
   ·go_enter Try.func64, Try.ntmps64
    go_wp2
    go_ret
    exact ⟨ret_bool (by simp [isEvB, *]), hB⟩
   ·cases p4 : decide (b < (dl : Int))
    ·go_enter Try.func64, Try.ntmps64
     go_wp2
     go_ret
     exact ⟨ret_bool (by simp [isEvB, *]), hB⟩
    ·go_enter Try.func64, Try.ntmps64
     go_wp2
     go_ret
     exact ⟨ret_bool (by simp [isEvB, *]), hB⟩
 by_cases k2 : k = 2
 ·subst k2
  rcases (show (decide (0 ≤ u) = false) ∨ (decide (0 ≤ u) = true ∧ decide (u < (tl : Int)) = false) ∨ (decide (0 ≤ u) = true ∧ decide (u < (tl : Int)) = true) by cases decide (0 ≤ u) <;> cases decide (u < (tl : Int)) <;> simp) with p1 | ⟨p1, p2⟩ | ⟨p1, p2⟩
  ·go_enter Try.func64, Try.ntmps64
   go_wp2
   go_ret
   exact ⟨ret_bool (by simp [isEvB, *]), hB⟩
  ·go_enter Try.func64, Try.ntmps64
   go_wp2
   go_ret
   exact ⟨ret_bool (by simp [isEvB, *]), hB⟩
  ·cases p3 : (b == 0)
   ·go_enter Try.func64, Try.ntmps64
    go_wp2
    go_ret
    exact ⟨ret_bool (by simp [isEvB, *]), hB⟩
   ·go_enter Try.func64, Try.ntmps64
    go_wp2
    go_ret
    exact ⟨ret_bool (by simp [isEvB, *]), hB⟩
 by_cases k3 : k = 3
 ·subst k3
  rcases (show (decide (0 ≤ u) = false) ∨ (decide (0 ≤ u) = true ∧ decide (u < (tl : Int)) = false) ∨ (decide (0 ≤ u) = true ∧ decide (u < (tl : Int)) = true) by cases decide (0 ≤ u) <;> cases decide (u < (tl : Int)) <;> simp) with p1 | ⟨p1, p2⟩ | ⟨p1, p2⟩
  ·go_enter Try.func64, Try.ntmps64
   go_wp2
   go_ret
   exact ⟨ret_bool (by simp [isEvB, *]), hB⟩
  ·go_enter Try.func64, Try.ntmps64
   go_wp2
   go_ret
   exact ⟨ret_bool (by simp [isEvB, *]), hB⟩
  ·cases p3 : (b == 0)
   ·go_enter Try.func64, Try.ntmps64
    go_wp2
    go_ret
    exact ⟨ret_bool (by simp [isEvB, *]), hB⟩
   ·go_enter Try.func64, Try.ntmps64
    go_wp2
    go_ret
    exact ⟨ret_bool (by simp [isEvB, *]), hB⟩
 by_cases k4 : k = 4
 ·subst k4
  cases p3 : (u == 0) <;> cases p4 : (b == 0)
  ·rcases (show (decide (0 ≤ u) = false) ∨ (decide (0 ≤ u) = true ∧ decide (u < (tl : Int)) = false) ∨ (decide (0 ≤ u) = true ∧ decide (u < (tl : Int)) = true) by cases decide (0 ≤ u) <;> cases decide (u < (tl : Int)) <;> simp) with p1 | ⟨p1, p2⟩ | ⟨p1, p2⟩
   ·go_enter Try.func64, Try.ntmps64
    go_wp2
    go_ret
    exact ⟨ret_bool (by simp [isEvB, *]), hB⟩
   ·go_enter Try.func64, Try.ntmps64
    go_wp2
    go_ret
    exact ⟨ret_bool (by simp [isEvB, *]), hB⟩
   ·go_enter Try.func64, Try.ntmps64
    go_wp2
    go_ret
    exact ⟨ret_bool (by simp [isEvB, *]), hB⟩
  ·rcases (show (decide (0 ≤ u) = false) ∨ (decide (0 ≤ u) = true ∧ decide (u < (tl : Int)) = false) ∨ (decide (0 ≤ u) = true ∧ decide (u < (tl : Int)) = true) by cases decide (0 ≤ u) <;> cases decide (u < (tl : Int)) <;> simp) with p1 | ⟨p1, p2⟩ | ⟨p1, p2⟩
   ·go_enter Try.func64, Try.ntmps64
    go_wp2
    go_ret
    exact ⟨ret_bool (by simp [isEvB, *]), hB⟩
   ·go_enter Try.func64, Try.ntmps64
    go_wp2
    go_ret
    exact ⟨ret_bool (by simp [isEvB, *]), hB⟩
   ·go_enter Try.func64, Try.ntmps64
    go_wp2
    go_ret
    exact ⟨ret_bool (by simp [isEvB, *]), hB⟩
  ·rcases (show (decide (0 ≤ u) = false) ∨ (decide (0 ≤ u) = true ∧ decide (u < (tl : Int)) = false) ∨ (decide (0 ≤ u) = true ∧ decide (u < (tl : Int)) = true) by cases decide (0 ≤ u) <;> cases decide (u < (tl : Int)) <;> simp) with p1 | ⟨p1, p2⟩ | ⟨p1, p2⟩
   ·go_enter Try.func64, Try.ntmps64
    go_wp2
    go_ret
    exact ⟨ret_bool (by simp [isEvB, *]), hB⟩
   ·go_enter Try.func64, Try.ntmps64
    go_wp2
    go_ret
    exact ⟨ret_bool (by simp [isEvB, *]), hB⟩
   ·go_enter Try.func64, Try.ntmps64
    go_wp2
    go_ret
    exact ⟨ret_bool (by simp [isEvB, *]), hB⟩
  ·rcases (show (decide (0 ≤ u) = false) ∨ (decide (0 ≤ u) = true ∧ decide (u < (tl : Int)) = false) ∨ (decide (0 ≤ u) = true ∧ decide (u < (tl : Int)) = true) by cases decide (0 ≤ u) <;> cases decide (u < (tl : Int)) <;> simp) with p1 | ⟨p1, p2⟩ | ⟨p1, p2⟩
   ·go_enter Try.func64, Try.ntmps64
    go_wp2
    go_ret
    exact ⟨ret_bool (by simp [isEvB, *]), hB⟩
   ·go_enter Try.func64, Try.ntmps64
    go_wp2
    go_ret
    exact ⟨ret_bool (by simp [isEvB, *]), hB⟩
   ·go_enter Try.func64, Try.ntmps64
    go_wp2
    go_ret
    exact ⟨ret_bool (by simp [isEvB, *]), hB⟩
 have q1 : (k == 1) = false := by simp [k1]
 have q2 : (k == 2) = false := by simp [k2]
 have q3 : (k == 3) = false := by simp [k3]
 have q4 : (k == 4) = false := by simp [k4]
 rcases (show (decide (0 ≤ u) = false) ∨ (decide (0 ≤ u) = true ∧ decide (u < (tl : Int)) = false) ∨ (decide (0 ≤ u) = true ∧ decide (u < (tl : Int)) = true) by cases decide (0 ≤ u) <;> cases decide (u < (tl : Int)) <;> simp) with p1 | ⟨p1, p2⟩ | ⟨p1, p2⟩
 ·go_enter Try.func64, Try.ntmps64
  go_wp2
  go_ret
  exact ⟨ret_bool (by simp [isEvB, *]), hB⟩
 ·go_enter Try.func64, Try.ntmps64
  go_wp2
  go_ret
  exact ⟨ret_bool (by simp [isEvB, *]), hB⟩
 ·go_enter Try.func64, Try.ntmps64
  go_wp2
  go_ret
  exact ⟨ret_bool (by simp [isEvB, *]), hB⟩
end Wk
end Go.Proofs.Ytdekbncpodjgnaa
