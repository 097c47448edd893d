/-
  CrossNames: contracts at literals.
-/
import Derived.Test.YtcpmpfnickhojaaCrN
namespace Go.Proofs.Ytcpmpfnickhojaa
open Go.RowKit Num Dft
set_option linter.unusedVariables false
set_option linter.unusedSimpArgs false
namespace Crs
open Lol

theorem S_zero (n : Nat) : S (fun _ => 0) n = 0 := S_null (fun _ _ => rfl)
theorem spc_nil : spcL [] = List.replicate 64 0 := by
  have e1 : resL 7681 64 (fun k => ([] : List Int).getD k 0) = List.replicate 64 0 := by decide +kernel
  unfold spcL
  rw [e1]
  refine List.ext_getElem (by rw [fwdL_len]) fun j h1 h2 => ?_
  rw [fwdL_len] at h1
  have h3 := fullL_getD (trF 7681 (List.replicate 64 0) (pwF 7681 (rootN 7681 (List.replicate 64 (0 : Int)).length))) (List.replicate 64 (0 : Int)).length j 0 h1
  have h4 : trF 7681 (List.replicate 64 0) (pwF 7681 (rootN 7681 (List.replicate 64 (0 : Int)).length)) j = 0 := by
    unfold trF
    rw [sumM_congr (g := fun _ => 0) (fun i _ => by
      have : (List.replicate 64 (0 : Int)).getD i 0 = 0 := by
        rw [List.getD_eq_getElem?_getD, List.getElem?_replicate]
        split <;> rfl
      rw [this, Int.zero_mul]), sumM_S (by omega), S_zero]
    rfl
  rw [h4] at h3
  have h5 : (fwdL 7681 (List.replicate 64 0))[j]'(by rw [fwdL_len]; exact h1) = (fwdL 7681 (List.replicate 64 0)).getD j 0 := by
    rw [List.getD_eq_getElem?_getD, List.getElem?_eq_getElem (by rw [fwdL_len]; exact h1)]
    rfl
  rw [h5]
  simp only [List.getElem_replicate]
  exact h3
def zI (n : Nat) : Array Value := ((List.replicate n (0 : Int)).flatMap (encI .i64)).toArray
def badL (x : Int) : List Int := (List.replicate 64 0).set 5 x
def badZ (x : Int) : Array Value := (zI 64).setIfInBounds 5 (.int .i64 x)
theorem bad_cells (x : Int) : badZ x = ((badL x).flatMap (encI .i64)).toArray := by rfl
theorem bad_put (x y : Int) : (badZ x).setIfInBounds 5 (.int .i64 y) = badZ y := by
  unfold badZ
  simp
theorem z_RI {w : World} {g n : Nat} {t : TypeId} (h : Blk w g t (zI n)) : RI .i64 w (some ⟨g, 0, none⟩) (List.replicate n 0) := blk_RI h
theorem bad_RI {w : World} {g : Nat} {t : TypeId} {x : Int} (h : Blk w g t (badZ x)) : RI .i64 w (some ⟨g, 0, none⟩) (badL x) := by
  rw [bad_cells] at h
  exact blk_RI h
theorem mkI (n : Nat) (hn : n ≤ 1000) (w : World) : (Instr.makeSlice 22 (.int .i64 (n : Int)) (.int .i64 (n : Int))).run Try.prog w = .ok (.slice (some ⟨w.heap.size, 0, none⟩) n n) (w.alloc (.cells (zI n) 3)) := by
  obtain ⟨i0, hi0, hz0, hz1, hz2⟩ := info_parts info_int
  exact mk_row (P := Try.prog) 22 3 Try.underlying22 hi0 hz0 hz1 hz2 (encI .i64) (encI_len .i64) (by omega) 0 rfl n (by omega) (by omega) w
theorem mk33 (w : World) : (Instr.makeSlice 22 (.int .i64 33) (.int .i64 33)).run Try.prog w = .ok (.slice (some ⟨w.heap.size, 0, none⟩) 33 33) (w.alloc (.cells (zI 33) 3)) := mkI 33 (by omega) w
theorem mk257 (w : World) : (Instr.makeSlice 22 (.int .i64 257) (.int .i64 257)).run Try.prog w = .ok (.slice (some ⟨w.heap.size, 0, none⟩) 257 257) (w.alloc (.cells (zI 257) 3)) := mkI 257 (by omega) w
theorem mk65 (w : World) : (Instr.makeSlice 22 (.int .i64 65) (.int .i64 65)).run Try.prog w = .ok (.slice (some ⟨w.heap.size, 0, none⟩) 65 65) (w.alloc (.cells (zI 65) 3)) := mkI 65 (by omega) w
theorem mk64z (w : World) : (Instr.makeSlice 23 (.int .i64 64) (.int .i64 64)).run Try.prog w = .ok (.slice (some ⟨w.heap.size, 0, none⟩) 64 64) (w.alloc (.cells (zI 64) 2)) := mk64 w
def zL (n : Nat) : Array Value := ((List.replicate n ((0, 0) : Int × Int)).flatMap encP).toArray
theorem mk5L (w : World) : (Instr.makeSlice 43 (.int .i64 5) (.int .i64 5)).run Try.prog w = .ok (.slice (some ⟨w.heap.size, 0, none⟩) 5 5) (w.alloc (.cells (zL 5) 55)) := by
  obtain ⟨i0, hi0, hz0, hz1, hz2⟩ := info_parts info_lag
  exact mk_row (P := Try.prog) 43 55 Try.underlying43 hi0 hz0 hz1 hz2 encP encP_len (by omega) (0, 0) rfl 5 (by omega) (by omega) w
theorem zL_RL {w : World} {g : Nat} {t : TypeId} {n : Nat} (h : Blk w g t (zL n)) : RL w (some ⟨g, 0, none⟩) (List.replicate n (0, 0)) := blk_RL h

def Err (x : Int) (w : World) (e : Ending) (w' : World) : Prop := ∃ A c, e = .returned (.tuple #[.slice A 0 c, .int .i64 x]) ∧ Below w.heap.size w w'
theorem spec_e {xs : List Int} {x : Int} (h : spcS xs = ([], x)) (n : Nat) (hn : xs.length = n) (hl : n ≤ 1000) (A : Option Addr) (c : Nat) (w : World) (hx : RI .i64 w A xs) : Calls Try.prog 10 #[.slice A n c] w (Err x w) := by
  subst hn
  have h1 := spectrum_any A c xs w hx (by omega)
  rw [h] at h1
  exact h1.mono fun _ _ ⟨A', c', e, _, _, hb⟩ => ⟨A', c', e, hb⟩
theorem prod_e {a b : List Int} {x : Int} (h : prdS a b = ([], x)) (n m : Nat) (hn : a.length = n) (hm : b.length = m) (hl : n ≤ 1000) (hl2 : m ≤ 1000) (A B : Option Addr) (c d : Nat) (w : World) (hx : RI .i64 w A a) (hy : RI .i64 w B b) : Calls Try.prog 12 #[.slice A n c, .slice B m d] w (Err x w) := by
  subst hn; subst hm
  have h1 := product_any A B c d a b w hx hy (by omega) (by omega)
  rw [h] at h1
  exact h1.mono fun _ _ ⟨A', c', e, _, _, hb⟩ => ⟨A', c', e, hb⟩
theorem val_e {a : List Int} {x : Int} (h : vlS a = ([], x)) (n : Nat) (hn : a.length = n) (hl : n ≤ 1000) (A : Option Addr) (c : Nat) (w : World) (hx : RI .i64 w A a) : Calls Try.prog 14 #[.slice A n c] w (Err x w) := by
  subst hn
  have h1 := values_any A c a w hx (by omega)
  rw [h] at h1
  exact h1.mono fun _ _ ⟨A', c', e, _, _, hb⟩ => ⟨A', c', e, hb⟩
theorem pcs_r {xs : List Int} {L : List (List Int)} {x : Int} (h : pcS xs = (L, x)) (n m : Nat) (hn : xs.length = n) (hm : L.length = m) (hl : n ≤ 1000) (A : Option Addr) (c : Nat) (hc : n ≤ c) (w : World) (hx : RI .i64 w A xs) : Calls Try.prog 16 #[.slice A n c] w (fun e w' => ∃ A c, e = .returned (.tuple #[.slice A m c, .int .i64 x]) ∧ RLL .i64 w' A L ∧ Below w.heap.size w w') := by
  subst hn; subst hm
  have h1 := pieces_any A c xs w hx hc (by omega)
  rw [h] at h1
  exact h1
theorem of_r {xs ys : List Int} {k : Int} {L : List (Int × Int)} {x : Int} (h : Lagw.ofSpec xs ys k = (L, x)) (n m r : Nat) (hn : xs.length = n) (hm : ys.length = m) (hr : L.length = r) (hl : n ≤ 1000) (hl2 : m ≤ 1000) (A B : Option Addr) (c d : Nat) (hc : n ≤ c) (hd : m ≤ d) (w : World) (hx : RI .i64 w A xs) (hy : RI .i64 w B ys) :
    Calls Try.prog 21 #[.slice A n c, .slice B m d, .int .i64 k] w (fun e w' => ∃ A c, e = .returned (.tuple #[.slice A r c, .int .i64 x]) ∧ RL w' A L ∧ Below w.heap.size w w') := by
  subst hn; subst hm; subst hr
  have h1 := crossOf_any A B c d xs ys k w hx hy hc hd (by omega) (by omega)
  rw [h] at h1
  exact h1
theorem l33 : spcS (List.replicate 33 0) = ([], 4) := spcS_many (by decide +kernel) (by rw [List.length_replicate]; omega)
theorem l257 : spcS (List.replicate 257 0) = ([], 4) := by
  have h : streamErr (List.replicate 257 0) = 4 := by decide +kernel
  rw [spcS_err (by rw [h]; omega), h]
theorem l2 : spcS [2] = ([], 8) := by
  have h : streamErr [2] = 8 := by decide +kernel
  rw [spcS_err (by rw [h]; omega), h]
theorem lp1 : prdS (List.replicate 64 0) (badL 7681) = ([], 8) := by decide +kernel
theorem lp2 : prdS (List.replicate 63 0) (List.replicate 64 0) = ([], 8) := by decide +kernel
theorem lv1 : vlS (badL (-1)) = ([], 8) := vl_no (by decide +kernel)
theorem lv2 : vlS [] = ([], 8) := vl_no (by decide +kernel)
theorem lc1 : pcS [1, 4] = ([], 8) := by decide +kernel
theorem lc2 : pcS [] = ([], 0) := by decide +kernel
theorem lc3 : pcS (List.replicate 65 0) = ([List.replicate 32 0, List.replicate 32 0, [0]], 0) := by decide +kernel
theorem lo1 : Lagw.ofSpec [] [] 256 = ([], 2) := by decide +kernel
theorem lo2 : Lagw.ofSpec [2] [] (-1) = ([], 8) := by decide +kernel
theorem lo3 : Lagw.ofSpec [] (List.replicate 257 0) 0 = ([], 4) := by decide +kernel
theorem lo4 : Lagw.ofSpec [] [] 2 = (List.replicate 5 (0, 0), 0) := by decide +kernel
theorem lf0 : streamErr [3, 3, 3, -1] = 0 := by decide +kernel
theorem lf1 : (spcL [3, 3, 3, -1]).getD 0 0 = 8 := by rw [spc_zero]; decide +kernel
theorem RI_take {k : IntKind} {w : World} {A : Option Addr} {n m : Nat} (h : RI k w A (List.replicate n 0)) (hm : m ≤ n) : RI k w A (List.replicate m 0) := by
  intro h0
  rw [List.length_replicate] at h0
  obtain ⟨b, off, e, hlt, hc⟩ := h (by rw [List.length_replicate]; omega)
  refine ⟨b, off, e, hlt, fun j hj => ?_⟩
  rw [List.length_replicate] at hj
  rw [hc j (by rw [List.length_replicate]; omega)]
  simp [List.getD_eq_getElem?_getD, List.getElem?_replicate, hj, show j < n by omega]
end Crs
end Go.Proofs.Ytcpmpfnickhojaa
