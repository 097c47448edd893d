/-
  Contracts: lag.Flip, fringeref16.Flip.
-/
import Derived.Test.YtfmhliiljmcejaaLagD
import Derived.Deep.RegionHeld3
namespace Go.Proofs.Ytfmhliiljmcejaa
open Go.RowKit
set_option linter.unusedVariables false

theorem info_lag : (Try.prog.info? 39).map (fun i => (i.zero, i.size, i.bytes)) = some (some (.agg #[.int .i64 0, .int .i64 0]), 2, 16) := by kernel_rfl

/-- The call returned the list r.1 of pairs, in new memory, and the error r.2. -/
def RetP (w : World) (r : List (Int × Int) × Int) (e : Ending) (w' : World) : Prop :=
  ∃ A c, e = .returned (.tuple #[.slice A r.1.length c, .int .i64 r.2]) ∧ w'.ownsRow w.heap.size 39 2 (.slice A r.1.length c) r.1.length (r.1.flatMap encP) ∧ Below w.heap.size w w'
theorem RetP.nil {w w' : World} {x : Int} {r : List (Int × Int) × Int} (hr : r = ([], x)) (hb : Below w.heap.size w w') : RetP w r (.returned (.tuple #[.slice none 0 0, .int .i64 x])) w' := by
  subst hr
  exact ⟨none, 0, rfl, World.ownsRow_nil _ _ _ _, hb⟩
theorem RetP.blk {w w' : World} {g n : Nat} {l : List (Int × Int)} {r : List (Int × Int) × Int} (hr : r = (l, 0)) (hn : l.length = n) (hm : n ≤ maxLen) (h : Blk w' g 39 (l.flatMap encP).toArray) (hg : w.heap.size ≤ g) (hb : Below w.heap.size w w') :
    RetP w r (.returned (.tuple #[.slice (some ⟨g, 0, none⟩) n n, .int .i64 0])) w' := by
  subst hr; subst hn
  refine ⟨_, _, rfl, ?_, hb⟩
  have := own_blk (size := 2) (n := l.length) h hg (by simp [flat_len encP 2 encP_len]) hm
  simpa using this
theorem RetP.own {w w' : World} {v : Value} {n : Nat} {l : List (Int × Int)} {r : List (Int × Int) × Int} (hr : r = (l, 0)) (hn : l.length = n) (h : w'.ownsRow w.heap.size 39 2 v n (l.flatMap encP)) (hb : Below w.heap.size w w') :
    RetP w r (.returned (.tuple #[v, .int .i64 0])) w' := by
  subst hr; subst hn
  obtain ⟨A, c, rfl⟩ := own_shape h
  exact ⟨A, c, rfl, h, hb⟩

def flipSpec (l : List (Int × Int)) : List (Int × Int) × Int := if lagErr l = 0 then (l.reverse, 0) else ([], lagErr l)
theorem flipSpec_ok {l : List (Int × Int)} (h : lagErr l = 0) : flipSpec l = (l.reverse, 0) := by simp [flipSpec, h]
theorem flipSpec_no {l : List (Int × Int)} (h : ¬ lagErr l = 0) : flipSpec l = ([], lagErr l) := by simp [flipSpec, h]
def flipPart (l : List (Int × Int)) (k : Nat) : List (Int × Int) := List.replicate (l.length - k) (0, 0) ++ (l.take k).reverse
theorem flipPart_len {l : List (Int × Int)} {k : Nat} (h : k ≤ l.length) : (flipPart l k).length = l.length := by simp [flipPart]; omega
theorem flipPart_end {l : List (Int × Int)} {k : Nat} (h : l.length ≤ k) : flipPart l k = l.reverse := by
  simp [flipPart, List.take_of_length_le h, show l.length - k = 0 by omega]
theorem flipPart_succ {l : List (Int × Int)} {k : Nat} (h : k < l.length) : (flipPart l k).set (l.length - 1 - k) l[k] = flipPart l (k + 1) := by
  unfold flipPart
  rw [List.take_succ_eq_append_getElem h, List.reverse_append, List.set_append_left _ _ (by simp; omega)]
  obtain ⟨m, hm⟩ : ∃ m, l.length - k = m + 1 := ⟨l.length - k - 1, by omega⟩
  rw [hm, show l.length - 1 - k = m by omega, show l.length - (k + 1) = m by omega, List.replicate_succ', List.set_append_right _ _ (by simp)]
  simp

theorem lagFlip_any (A : Option Addr) (c : Nat) (l : List (Int × Int)) (w : World) (hx : RL w A l) (hl : l.length ≤ 140737488355328) :
    Calls Try.prog 24 #[.slice A l.length c] w (RetP w (flipSpec l)) := by
  by_cases he : lagErr l = 0
  · have e1 : (lagErr l != 0) = false := by simp [he]
    have HE := Lib.hid he
    have hl5 := (lagErr_zero he).1
    clear he
    obtain ⟨i0, hi0, hz0, hz1, hz2⟩ := info_parts info_lag
    have hmk := mk_row (P := Try.prog) 24 39 Try.underlying24 hi0 hz0 hz1 hz2 encP encP_len (by omega) (0, 0) rfl l.length (by omega) (by omega)
    go_enter Try.func24, Try.ntmps24
    go_wp2_with fail
    refine (lagCheck_any _ _ _ _ hx hl).mono ?_
    rintro e w1 ⟨rfl, hb1⟩
    go_wp2
    go_loopg [6, 7, 18] l.length (fun gk _ _ i wr => ∃ k : Nat, k + gk = l.length ∧ i = .int .i64 k ∧ Blk wr w1.heap.size 39 ((flipPart l k).flatMap encP).toArray ∧ Below w.heap.size w wr)
    case atStart => exact ⟨0, by omega, rfl, by simpa [flipPart] using Blk.new w1 39 _, hb1.alloc hb1.size _⟩
    case round =>
      obtain ⟨k, hk, rfl, hO, hb⟩ := hrel
      have hk' : k ≤ l.length := by omega
      have HK := Lib.hid hk
      clear hk
      by_cases hlt : k < l.length
      · obtain ⟨b, off, rfl, _, hc1, hc2⟩ := (hx.keep hb).at_ hlt
        obtain ⟨o0, o1⟩ := blkP_at hO (j := l.length - 1 - k) (by rw [flipPart_len hk']; omega)
        have p0 := hO.frozen ((l.length - 1 - k) * 2)
        have p1 := hO.frozen ((l.length - 1 - k) * 2 + 1)
        have hg := hO.lt
        have hsz := hb1.size
        go_wp2
        go_roundg (gk - 1)
        case rel => exact ⟨k + 1, by have := HK.out; omega, by go_num, by rw [← flipPart_succ hlt]; exact (blkP_set hO (by rw [flipPart_len hk']; omega) _).alloc _, ((hb.setCell (p := ⟨w1.heap.size, (l.length - 1 - k) * 2, none⟩) hsz _).setCell (p := ⟨w1.heap.size, (l.length - 1 - k) * 2 + 1, none⟩) hsz _).alloc (by simpa using hb.size) _⟩
        case measure => have := HK.out; omega
      · go_wp2
        go_ret2
        exact RetP.blk (flipSpec_ok HE.out) (by simp) (by unfold maxLen; omega) (by rw [← flipPart_end (by omega : l.length ≤ k)]; exact hO) hb1.size hb
  · have e1 : (lagErr l != 0) = true := by simp [he]
    have HE := Lib.hid he
    clear he
    go_enter Try.func24, Try.ntmps24
    go_wp2_with fail
    refine (lagCheck_any _ _ _ _ hx hl).mono ?_
    rintro e w1 ⟨rfl, hb1⟩
    go_wp2
    go_ret2
    exact RetP.nil (flipSpec_no HE.out) hb1

def revTake (l : List (Int × Int)) (k : Nat) : List (Int × Int) := l.reverse.take k
theorem revTake_succ {l : List (Int × Int)} {k : Nat} (h : k < l.length) : revTake l k ++ [l[l.length - 1 - k]] = revTake l (k + 1) := by
  unfold revTake
  rw [List.take_succ_eq_append_getElem (by simpa using h)]
  simp
theorem revTake_len {l : List (Int × Int)} {k : Nat} (h : k ≤ l.length) : (revTake l k).length = k := by simp [revTake]; omega

theorem refFlip_any (A : Option Addr) (c : Nat) (l : List (Int × Int)) (w : World) (hx : RL w A l) (hl : l.length ≤ 140737488355328) :
    Calls Try.prog 25 #[.slice A l.length c] w (RetP w (flipSpec l)) := by
  by_cases he : lagErr l = 0
  · have e1 : (lagErr l != 0) = false := by simp [he]
    have HE := Lib.hid he
    have hl5 := (lagErr_zero he).1
    clear he
    obtain ⟨i0, hi0, hz0, hz1, hz2⟩ := info_parts info_lag
    go_enter Try.func25, Try.ntmps25
    go_wp2_with fail
    refine (refCheck16_any _ _ _ _ hx hl).mono ?_
    rintro e w1 ⟨rfl, hb1⟩
    go_wp2
    go_loopg [4, 5] l.length (fun gk v i wr => ∃ k : Nat, k + gk = l.length ∧ i = .int .i64 k ∧ wr.ownsRow w.heap.size 39 2 v k ((revTake l k).flatMap encP) ∧ Below w.heap.size w wr)
    case atStart => exact ⟨0, by omega, rfl, by simpa [revTake] using World.ownsRow_nil _ _ _ _, hb1⟩
    case round =>
      obtain ⟨k, hk, rfl, hO, hb⟩ := hrel
      have hk' : k ≤ l.length := by omega
      have HK := Lib.hid hk
      clear hk
      have hsz := hb.size
      by_cases hlt : k < l.length
      · have hlt2 : l.length - 1 - k < l.length := by omega
        obtain ⟨b, off, rfl, _, hc1, hc2⟩ := (hx.keep hb).at_ hlt2
        go_wp2_with (at_builtin; refine wpList_append_own _ rfl _ _ 24 rfl w.heap.size 39 i0 _ 2 16 Try.underlying24 hi0 hz0 hz1 hz2 rfl (by decide) _ k _ rfl (hO.alloc _) ⟨wr.heap.size, 0, none⟩ 1 1 (encP l[l.length - 1 - k]) rfl rfl ?c1 ?c2 ?c3 ?c4 ?c5 ?_)
        case c1 => exact encP_news _ _ _
        case c2 => exact encP_one _
        case c3 => unfold maxLen; omega
        case c4 => omega
        case c5 => simp; omega
        intro v' w2 hown2 hgrow2 _
        go_wp2
        go_roundg (gk - 1)
        case rel => exact ⟨k + 1, by have := HK.out; omega, by go_num, by rw [← revTake_succ hlt, flat_snoc]; exact hown2, own_below (hb.alloc hsz _) (hO.alloc _) hgrow2 (Nat.le_refl _) (by simp; omega)⟩
        case measure => have := HK.out; omega
      · have hkl : l.length = k := by omega
        go_wp2
        go_ret2
        have h2 : revTake l k = l.reverse := List.take_of_length_le (by simp; omega)
        exact RetP.own (flipSpec_ok HE.out) (by simpa using hkl) (by rw [← h2]; exact hO) hb
  · have e1 : (lagErr l != 0) = true := by simp [he]
    have HE := Lib.hid he
    clear he
    go_enter Try.func25, Try.ntmps25
    go_wp2_with fail
    refine (refCheck16_any _ _ _ _ hx hl).mono ?_
    rintro e w1 ⟨rfl, hb1⟩
    go_wp2_with fail
    refine (refCheck16_any _ _ _ _ (hx.keep hb1) hl).mono ?_
    rintro e w2 ⟨rfl, hb2⟩
    go_wp2
    go_ret2
    exact RetP.nil (flipSpec_no HE.out) (hb1.trans (hb2.mono hb1.size))
end Go.Proofs.Ytfmhliiljmcejaa
