/-
  Parts of the proof of TopCorrelate: TaQ.
-/
import Derived.Test.YtelkokcnedbmeaaGreatT19
namespace Go.Proofs.YtelkokcnedbmeaaGreat
open Go.RowKit
set_option maxRecDepth 20000
set_option linter.unusedVariables false
namespace Aln
theorem lo_le (l : List (Int × List Int)) (b : Int × List Int) : loOf l b ≤ l.length := by
 unfold loOf heads
 exact List.Sublist.length_le (List.takeWhile_sublist _)
theorem hi_le (l : List (Int × List Int)) (b : Int × List Int) : loOf l b ≤ hiOf l b ∧ hiOf l b ≤ l.length := by
 unfold hiOf
 have h1 := lo_le l b
 have h2 : heads (fun x => decide (x.1 ≤ endB b)) (l.drop (loOf l b)) ≤ (l.drop (loOf l b)).length := by unfold heads; exact List.Sublist.length_le (List.takeWhile_sublist _)
 rw [List.length_drop] at h2
 omega
theorem lo_is {l : List (Int × List Int)} {b : Int × List Int} {k : Nat} (hk : k ≤ l.length) (h : ∀ j (hj : j < l.length), j < k → endB l[j] < b.1) (h2 : ∀ hj : k < l.length, ¬ endB l[k] < b.1) : loOf l b = k :=
 heads_eq hk (fun j hj hjk => decide_eq_true (h j hj hjk)) (fun hj => decide_eq_false (h2 hj))
theorem hi_is {l : List (Int × List Int)} {b : Int × List Int} {lo k : Nat} (hlo : loOf l b = lo) (hk : lo ≤ k) (hk2 : k ≤ l.length) (h : ∀ j (hj : j < l.length), lo ≤ j → j < k → l[j].1 ≤ endB b) (h2 : ∀ hj : k < l.length, ¬ l[k].1 ≤ endB b) : hiOf l b = k := by
 unfold hiOf
 rw [hlo]
 have e : heads (fun x => decide (x.1 ≤ endB b)) (l.drop lo) = k - lo := by
  refine heads_eq (by simp; omega) (fun j hj hjk => ?_) (fun hj => ?_)
  ·simp only [List.getElem_drop]
   exact decide_eq_true (h _ (by simp at hj; omega) (by omega) (by omega))
  ·simp only [List.getElem_drop]
   have e2 : lo + (k - lo) = k := by omega
   simp only [e2]
   exact decide_eq_false (h2 _)
 omega
theorem mid_len (l : List (Int × List Int)) (b : Int × List Int) : (midOf l b).length = hiOf l b - loOf l b := by
 unfold midOf
 have := hi_le l b
 simp
 omega
theorem put_len (l : List (Int × List Int)) (b : Int × List Int) : (putL l b).length = l.length - (hiOf l b - loOf l b) + 1 := by
 unfold putL
 have := hi_le l b
 simp
 omega
theorem RetB.ok {w w' : World} {x : Int} {r : List (Int × List Int) × Int} {l : List (Int × List Int)} {n c : Nat} {A : Option Addr} (hr : r = (l, x)) (hn : l.length = n) (h : RBo w.heap.size w' A l) (hc : n ≤ c) (hb : Below w.heap.size w w') : RetB w r (.returned (.tuple #[.slice A n c, .int .i64 x])) w' := by
 subst hr; subst hn
 exact ⟨A, c, rfl, h, hc, hb⟩
theorem own_apart {g g' n c : Nat} (h : g ≠ g') : (Value.slice (some ⟨g, 0, none⟩) n c).ownBlock ≠ some g' := by
 intro h2
 have h3 : g = g' := by simpa [Value.ownBlock] using h2
 exact h h3
theorem join_no (A : Option Addr) (c : Nat) (m : List (Int × List Int)) (p : Int × List Int) (B : Option Addr) (d : Nat) (w : World) (hx : RB w A m) (hy : RI .i64 w B p.2) (hA : Apart m) (hl : m.length ≤ 64) (hp : okB p = true) (h : 256 < jTo m p - jFrom m p) (n : Nat) (hn : m.length = n) :
 Calls Tryz.prog 71 #[.slice A n c, .agg #[.int .i64 p.1, .slice B p.2.length d]] w fun e w' => e = .returned (.tuple #[.agg #[.int .i64 0, .slice none 0 0], .bool false]) ∧ Below w.heap.size w w' := by
 subst hn
 refine (join_any A c m p B d w hx hy hA hl hp).mono ?_
 rintro e w' (⟨_, h1, h2⟩ | ⟨h1, _⟩)
 ·exact ⟨h1, h2⟩
 ·omega
theorem join_yes (A : Option Addr) (c : Nat) (m : List (Int × List Int)) (p : Int × List Int) (B : Option Addr) (d : Nat) (w : World) (hx : RB w A m) (hy : RI .i64 w B p.2) (hA : Apart m) (hl : m.length ≤ 64) (hp : okB p = true) (h : jTo m p - jFrom m p ≤ 256) (n : Nat) (hn : m.length = n) :
 Calls Tryz.prog 71 #[.slice A n c, .agg #[.int .i64 p.1, .slice B p.2.length d]] w fun e w' => ∃ g, e = .returned (.tuple #[.agg #[.int .i64 (jFrom m p), .slice (some ⟨g, 0, none⟩) (jS m p).length (jS m p).length], .bool true]) ∧ w.heap.size ≤ g ∧ Blk w' g 3 ((jS m p).flatMap (encI .i64)).toArray ∧ Below w.heap.size w w' := by
 subst hn
 refine (join_any A c m p B d w hx hy hA hl hp).mono ?_
 rintro e w' (⟨h1, _⟩ | ⟨_, h1⟩)
 ·omega
 ·exact h1
theorem jS_len_le {m : List (Int × List Int)} {p : Int × List Int} (h : jTo m p - jFrom m p ≤ 256) : (jS m p).length ≤ 256 := by unfold jS; rw [fullL_len]; omega
set_option maxRecDepth 100000 in
set_option maxHeartbeats 16000000 in
theorem alignPut_any (A : Option Addr) (c : Nat) (l : List (Int × List Int)) (b : Int × List Int) (B : Option Addr) (d : Nat) (w : World) (hx : RB w A l) (hcap : l.length ≤ c) (hy : RI .i64 w B b.2) (hl : l.length ≤ 140737488355328) (hall : ∀ b ∈ l, b.2.length ≤ 140737488355328) (hlb : b.2.length ≤ 140737488355328) :
 Calls Tryz.prog 36 #[.slice A l.length c, .agg #[.int .i64 b.1, .slice B b.2.length d]] w (RetB w (putS l b)) := by
 have hb0 : Below w.heap.size w (w.alloc (.cells #[.int .i64 b.1, .slice B b.2.length d] 83)) := balloc (Below.refl _ _) _
 have hQ0 := Blk.new w 83 #[.int .i64 b.1, .slice B b.2.length d]
 rcases (Decidable.em (recErr l = 0)).symm with he | he
 ·have e1 : (recErr l != 0) = true := by simp [he]
  have HE := Lib.hid he
  clear he
  go_enter Tryz.func36, Tryz.ntmps36
  go_wp2_with fail
  refine (alignCheck_any _ _ _ _ (hx.keep hb0) hl hall).mono ?_
  rintro _ w1 ⟨rfl, hb1⟩
  have hB1 := bstep hb0 hb1
  have hQ1 := hQ0.keep hb1
  have a0 : World.cell? w1 ⟨w.heap.size, 0, none⟩ = some (.int .i64 b.1) := hQ1.cell 0
  have af0 := hQ1.frozen 0
  have a1 : World.cell? w1 ⟨w.heap.size, 1, none⟩ = some (.slice B b.2.length d) := hQ1.cell 1
  have af1 := hQ1.frozen 1
  have afl := hQ1.lt
  go_wp2
  go_ret2
  exact RetB.nil (put_err HE.out) hB1
 have e1 : (recErr l != 0) = false := by simp [he]
 have HE := Lib.hid he
 have hl5 := (recErr_zero he).1
 have HA := Lib.hid (rec_apart he)
 clear he
 by_cases hok : okB b = true
 ·obtain ⟨p1, p2, p3, p4, _⟩ := okB_bd hok
  have HOK := Lib.hid hok
  have hALL := fun c d w hx hy => all_any A c l b B d w hx hy HA.out hl5 HOK.out
  rw [ag_same HA.out] at hALL
  have eok : okB (b.1, b.2) = true := hok
  by_cases hag : refAg l b = true
  ·have HAG := Lib.hid hag
   rw [hag] at hALL
   have hV := fun w hx => valid_any b.1 B d b.2 w hx hlb
   rw [eok] at hV
   clear hok hag eok
   go_enter Tryz.func36, Tryz.ntmps36
   go_wp2_with fail
   refine (alignCheck_any _ _ _ _ (hx.keep hb0) hl hall).mono ?_
   rintro _ w1 ⟨rfl, hb1⟩
   have hB1 := bstep hb0 hb1
   have hQ1 := hQ0.keep hb1
   have a0 : World.cell? w1 ⟨w.heap.size, 0, none⟩ = some (.int .i64 b.1) := hQ1.cell 0
   have af0 := hQ1.frozen 0
   have a1 : World.cell? w1 ⟨w.heap.size, 1, none⟩ = some (.slice B b.2.length d) := hQ1.cell 1
   have af1 := hQ1.frozen 1
   have afl := hQ1.lt
   have hP1 := Blk.new w1 125 #[.int .i64 b.1, .slice B b.2.length d]
   have hB1' := balloc hB1 (.cells #[.int .i64 b.1, .slice B b.2.length d] 125)
   go_wp2_with fail
   refine (hV _ (hy.keep hB1')).mono ?_
   rintro _ w2 ⟨rfl, hb2⟩
   have hP2 := hP1.keep hb2
   have hB2 := bstep hB1' hb2
   clear a0 a1 af0 af1 afl hb1 hb2 hB1' hP1 hQ1 hV
   have a0 : World.cell? w2 ⟨w1.heap.size, 0, none⟩ = some (.int .i64 b.1) := hP2.cell 0
   have af0 := hP2.frozen 0
   have a1 : World.cell? w2 ⟨w1.heap.size, 1, none⟩ = some (.slice B b.2.length d) := hP2.cell 1
   have af1 := hP2.frozen 1
   have afl := hP2.lt
   go_wp2_with fail
   refine (hALL _ _ _ (hx.keep hB2) (hy.keep hB2)).mono ?_
   rintro _ w3 ⟨rfl, hb3⟩
   have hP3 := hP2.keep hb3
   have hB3 := bstep hB2 hb3
   clear a0 a1 af0 af1 afl hb3 hB2 hP2 hALL
   have hs1 := hB1.size
   have hpl := hP3.lt
   clear hB1
   have HSL : Hid (∀ lo hi : Nat, lo ≤ hi → hi ≤ c → ∀ W, (Instr.slice 84 (.slice A l.length c) (some (.int .i64 (lo : Int))) (some (.int .i64 (hi : Int))) (some (.int .i64 (hi : Int)))).run Tryz.prog W = .ok (.slice (subA A lo hi) (hi - lo) (hi - lo)) W) := Lib.hid (fun lo hi h1 h3 => sub_run A l.length c lo hi hi h1 (Nat.le_refl _) h3)
   have HSL0 : Hid (∀ hi : Nat, hi ≤ c → ∀ W, (Instr.slice 84 (.slice A l.length c) none (some (.int .i64 (hi : Int))) (some (.int .i64 (hi : Int)))).run Tryz.prog W = .ok (.slice (subA A 0 hi) hi hi) W) := Lib.hid (fun hi h3 => sub_run0 A l.length c hi hi (Nat.le_refl _) h3)
   have HRB : Hid (∀ W, Below w.heap.size w W → ∀ lo hi : Nat, lo ≤ hi → hi ≤ l.length → RB W (subA A lo hi) ((l.drop lo).take (hi - lo))) := Lib.hid (fun W hW lo hi h1 h2 => (hx.keep hW).sub h1 h2 (Nat.le_refl _))
   go_wp2
   go_loopg [8] l.length (fun gk i wr => ∃ k : Nat, k + gk = l.length ∧ i = .int .i64 k ∧ Below w3.heap.size w3 wr ∧ Hid (∀ j (hj : j < l.length), j < k → endB l[j] < b.1))
   case atStart => exact ⟨0, by omega, rfl, Below.refl _ _, Lib.hid (by intro j h h2; omega)⟩
   case round =>
    obtain ⟨k, hk, rfl, hb, hlo⟩ := hrel
    have hk' : k ≤ l.length := by omega
    have HK := Lib.hid hk
    clear hk
    have hP4 := hP3.keep hb
    have hBw := bstep hB3 hb
    by_cases hlt : k < l.length
    ·have d3 : decide (k < l.length) = true := decide_eq_true hlt
     have d4 : decide ((k : Int) < (l.length : Int)) = true := decide_eq_true (by omega)
     obtain ⟨b1, off1, A1, c1, rfl, hlw, hw1, hw2, hr, hcap1⟩ := hx.at_ hlt
     have g1 := (hBw.cell (p := ⟨b1, _, none⟩) hlw).trans hw1
     have g2 := (hBw.cell (p := ⟨b1, _, none⟩) hlw).trans hw2
     have a0 : World.cell? wr ⟨w1.heap.size, 0, none⟩ = some (.int .i64 b.1) := hP4.cell 0
     have af0 := hP4.frozen 0
     have a1 : World.cell? wr ⟨w1.heap.size, 1, none⟩ = some (.slice B b.2.length d) := hP4.cell 1
     have af1 := hP4.frozen 1
     have afl := hP4.lt
     obtain ⟨z1, z2, z3, z4, _⟩ := HA.out.bd k hlt
     have q1 : -1000000000 ≤ l[k].1 := by omega
     have q2 : l[k].1 ≤ 1000000000 := by omega
     have q3 : l[k].2.length ≤ 1000000000 := by omega
     go_wp2
     go_region_held3 (fun w' => w'.cell? ⟨w1.heap.size, 0, none⟩ = some (.int .i64 b.1) ∧ w'.cell? ⟨b1, off1 + k * 2, none⟩ = some (.int .i64 l[k].1) ∧ w'.cell? ⟨b1, off1 + k * 2 + 1, none⟩ = some (.slice A1 l[k].2.length c1))
      (first | go_keep | exact ⟨(hP3.keep hB6).cell 0, ((bstep hB3 hB6).cell (p := ⟨b1, _, none⟩) hlw).trans hw1, ((bstep hB3 hB6).cell (p := ⟨b1, _, none⟩) hlw).trans hw2⟩)
      ((go_at_call 70; refine (end_any _ _ _ _ _ q1 q2 q3).mono ?_; rintro e w6 ⟨rfl, hb6⟩; have hB6 : Below w3.heap.size w3 w6 := bstep hb.drew hb6))
     by_cases hov : l[k].1 + (l[k].2.length : Int) < b.1
     ·have HN : Hid (∀ j (hj : j < l.length), j < k + 1 → endB l[j] < b.1) := Lib.hid (by
       intro j hj h3
       rcases Nat.lt_or_ge j k with h4 | h4
       ·exact hlo.out j hj h4
       ·obtain rfl : j = k := by omega
        unfold endB; exact hov)
      go_wp2
      go_roundg (gk - 1)
      case rel => exact ⟨k + 1, by have := HK.out; omega, by go_num, hB6, HN⟩
      case measure => have := HK.out; omega
     ·clear a0 a1 af0 af1 afl
      have HLO : Hid (loOf l b = k) := Lib.hid (lo_is (by omega) hlo.out (by intro hj; first | (exfalso; omega) | (unfold endB; exact hov)))
      go_wp2
      go_loopg [9] (l.length - k) (fun gk i wr => ∃ k2 : Nat, k2 + gk = l.length ∧ k ≤ k2 ∧ i = .int .i64 k2 ∧ Below w3.heap.size w3 wr ∧ Hid (∀ j (hj : j < l.length), k ≤ j → j < k2 → l[j].1 ≤ endB b))
      case atStart => exact ⟨k, by omega, Nat.le_refl _, rfl, hB6, Lib.hid (by intro j h h2 h3; omega)⟩
      case round =>
       obtain ⟨k2, hk2, hlk, rfl, hb7, hhi⟩ := hrel
       have hk2' : k2 ≤ l.length := by omega
       have HK2 := Lib.hid hk2
       clear hk2
       have hP7 := hP3.keep hb7
       have hBw7 := bstep hB3 hb7
       by_cases hlt2 : k2 < l.length
       ·have d3 : decide (k2 < l.length) = true := decide_eq_true hlt2
        have d4 : decide ((k2 : Int) < (l.length : Int)) = true := decide_eq_true (by omega)
        obtain ⟨b2, off2, A2, c2, eA2, hlw2, hv1, hv2, hr2, hcap2⟩ := hx.at_ hlt2
        have g1 := (hBw7.cell (p := ⟨b2, _, none⟩) hlw2).trans hv1
        have a0 : World.cell? wr ⟨w1.heap.size, 0, none⟩ = some (.int .i64 b.1) := hP7.cell 0
        have af0 := hP7.frozen 0
        have a1 : World.cell? wr ⟨w1.heap.size, 1, none⟩ = some (.slice B b.2.length d) := hP7.cell 1
        have af1 := hP7.frozen 1
        have afl := hP7.lt
        have q1 : -1000000000 ≤ b.1 := by omega
        have q2 : b.1 ≤ 1000000000 := by omega
        have q3 : b.2.length ≤ 1000000000 := by omega
        obtain ⟨z1, z2, z3, z4, _⟩ := HA.out.bd k2 hlt2
        first | subst eA2 | (obtain ⟨rfl, rfl⟩ : b2 = b1 ∧ off2 = off1 := (by injection eA2 with eA2; injection eA2 with e1 e2; exact ⟨e1.symm, e2.symm⟩); clear eA2)
        go_wp2
        go_region_held3 (fun w' => (w'.cell? ⟨w1.heap.size, 0, none⟩ = some (.int .i64 b.1) ∧ w'.cell? ⟨w1.heap.size, 1, none⟩ = some (.slice B b.2.length d)) ∧ w'.cell? ⟨b2, off2 + k2 * 2, none⟩ = some (.int .i64 l[k2].1))
         (first | go_keep | exact ⟨⟨(hP3.keep hB8).cell 0, (hP3.keep hB8).cell 1⟩, ((bstep hB3 hB8).cell (p := ⟨b2, _, none⟩) hlw2).trans hv1⟩)
         ((go_at_call 70; refine (end_any _ _ _ _ _ q1 q2 q3).mono ?_; rintro e w8 ⟨rfl, hb8⟩; have hB8 : Below w3.heap.size w3 w8 := bstep hb7.drew hb8))
        by_cases hov2 : l[k2].1 ≤ b.1 + (b.2.length : Int)
        ·have HN2 : Hid (∀ j (hj : j < l.length), k ≤ j → j < k2 + 1 → l[j].1 ≤ endB b) := Lib.hid (by
          intro j hj h2 h3
          rcases Nat.lt_or_ge j k2 with h4 | h4
          ·exact hhi.out j hj h2 h4
          ·obtain rfl : j = k2 := by omega
           unfold endB; exact hov2)
         go_wp2
         go_roundg (gk - 1)
         case rel => exact ⟨k2 + 1, by have := HK2.out; omega, by omega, by go_num, hB8, HN2⟩
         case measure => have := HK2.out; omega
        ·have HHI : Hid (hiOf l b = k2) := Lib.hid (hi_is HLO.out hlk hk2' hhi.out (by intro hj; unfold endB; exact hov2))
         clear a0 a1 af0 af1 afl
         have hP8 := hP3.keep hB8
         have hBw8 := bstep hB3 hB8
         have hmid : midOf l b = (l.drop k).take (k2 - k) := by unfold midOf; rw [HLO.out, HHI.out]
         have hml : (midOf l b).length = k2 - k := by rw [mid_len, HLO.out, HHI.out]
         have hpl8 : (putL l b).length = l.length - (k2 - k) + 1 := by rw [put_len, HLO.out, HHI.out]
         have hAm : Apart (midOf l b) := by rw [hmid]; exact HA.out.sub _ _
         have hsl := HSL.out k k2 (by omega) (by omega)
         have hRm := fun W hW => HRB.out W hW k k2 (by omega) (by omega)
         rw [← hmid] at hRm
         have HM := Lib.hid (And.intro hml (And.intro hpl8 hAm))
         clear hmid hml hpl8 hAm
         have HRm := Lib.hid hRm
         clear hRm
         have hszX := (hB8).size
         have hneX : w1.heap.size ≠ w8.heap.size := by omega
         have hbx : w.heap.size ≤ w8.heap.size := hBw8.size
         have a0 : World.cell? w8 ⟨w1.heap.size, 0, none⟩ = some (.int .i64 b.1) := hP8.cell 0
         have af0 := hP8.frozen 0
         have a1 : World.cell? w8 ⟨w1.heap.size, 1, none⟩ = some (.slice B b.2.length d) := hP8.cell 1
         have af1 := hP8.frozen 1
         have afl := hP8.lt
         by_cases hbig : 256 < jTo (midOf l b) b - jFrom (midOf l b) b
         ·have HBIG := Lib.hid hbig
          clear hbig
          go_wp2
          go_region_held3 (fun w' => w'.cell? ⟨w1.heap.size, 0, none⟩ = some (.int .i64 b.1) ∧ w'.cell? ⟨w1.heap.size, 1, none⟩ = some (.slice B b.2.length d))
           (first | go_keep | exact ⟨hP9.cell 0, hP9.cell 1⟩ | exact ⟨(hP9.alloc _).cell 0, (hP9.alloc _).cell 1⟩ | exact ⟨((hP9.far (p := ⟨w8.heap.size, 0, none⟩) hneX _).far (p := ⟨w8.heap.size, 1, none⟩) hneX _).cell 0, ((hP9.far (p := ⟨w8.heap.size, 0, none⟩) hneX _).far (p := ⟨w8.heap.size, 1, none⟩) hneX _).cell 1⟩)
           ((first | (go_at_call 71; refine (join_no _ _ (midOf l b) b B d _ (HRm.out _ hBw8.drew) (hy.keep hBw8.drew) HM.out.2.2 (by have := HM.out.1; omega) HOK.out HBIG.out (k2 - k) HM.out.1).mono ?_; rintro e w9 ⟨rfl, hb9⟩; have hB9 : Below w3.heap.size w3 w9 := bstep (hB8).drew hb9; have hP9 := hP3.keep hB9; have hl9 := hP9.lt) | (go_at_call 71; refine (join_no _ _ (midOf l b) b B d _ (HRm.out _ (balloc hBw8 _).drew) (hy.keep (balloc hBw8 _).drew) HM.out.2.2 (by have := HM.out.1; omega) HOK.out HBIG.out (k2 - k) HM.out.1).mono ?_; rintro e w9 ⟨rfl, hb9⟩; have hB9 : Below w3.heap.size w3 w9 := bstep (balloc hB8 _).drew hb9; have hP9 := hP3.keep hB9; have hl9 := hP9.lt; have hZ := ((Blk.new w8 83 #[.int .i64 0, .slice none 0 0]).drew).keep hb9; have hy1 := hZ.frozen 0; have hy2 := hZ.frozen 1; have hy3 : w9.cell? ⟨w8.heap.size, 0, none⟩ = some (.int .i64 0) := hZ.cell 0; have hy4 : w9.cell? ⟨w8.heap.size, 1, none⟩ = some (.slice none 0 0) := hZ.cell 1; have hy5 := hZ.lt)))
          all_goals go_wp2
          all_goals go_ret2
          all_goals exact RetB.nil (put_range HE.out HOK.out HAG.out HBIG.out) (by first | exact balloc (bstep hB3 hB9) _ | exact bstep hB3 hB9 | exact ((bstep hB3 hB9).setCell (p := ⟨w8.heap.size, 0, none⟩) hbx _).setCell (p := ⟨w8.heap.size, 1, none⟩) hbx _)
         ·have HBIG : Hid (jTo (midOf l b) b - jFrom (midOf l b) b ≤ 256) := Lib.hid (by omega)
          have hjl := jS_len_le HBIG.out
          clear hbig
          by_cases hmany : 64 < l.length - (k2 - k) + 1
          ·have dm : decide (64 < (l.length : Int) - ((k2 : Int) - (k : Int)) + 1) = true := decide_eq_true (by omega)
           have HMANY : Hid (64 < (putL l b).length) := Lib.hid (by rw [HM.out.2.1]; exact hmany)
           clear hmany
           go_wp2
           go_region_held3 (fun w' => w'.cell? ⟨w1.heap.size, 0, none⟩ = some (.int .i64 b.1) ∧ w'.cell? ⟨w1.heap.size, 1, none⟩ = some (.slice B b.2.length d))
            (first | go_keep | exact ⟨hP9.cell 0, hP9.cell 1⟩ | exact ⟨(hP9.alloc _).cell 0, (hP9.alloc _).cell 1⟩ | exact ⟨((hP9.far (p := ⟨w8.heap.size, 0, none⟩) hneX _).far (p := ⟨w8.heap.size, 1, none⟩) hneX _).cell 0, ((hP9.far (p := ⟨w8.heap.size, 0, none⟩) hneX _).far (p := ⟨w8.heap.size, 1, none⟩) hneX _).cell 1⟩)
            ((first | (go_at_call 71; refine (join_yes _ _ (midOf l b) b B d _ (HRm.out _ hBw8.drew) (hy.keep hBw8.drew) HM.out.2.2 (by have := HM.out.1; omega) HOK.out HBIG.out (k2 - k) HM.out.1).mono ?_; rintro e w9 ⟨g9, rfl, hg9, hJ9, hb9⟩; have hB9 : Below w3.heap.size w3 w9 := bstep (hB8).drew hb9; have hP9 := hP3.keep hB9; have hl9 := hP9.lt) | (go_at_call 71; refine (join_yes _ _ (midOf l b) b B d _ (HRm.out _ (balloc hBw8 _).drew) (hy.keep (balloc hBw8 _).drew) HM.out.2.2 (by have := HM.out.1; omega) HOK.out HBIG.out (k2 - k) HM.out.1).mono ?_; rintro e w9 ⟨g9, rfl, hg9, hJ9, hb9⟩; have hB9 : Below w3.heap.size w3 w9 := bstep (balloc hB8 _).drew hb9; have hP9 := hP3.keep hB9; have hl9 := hP9.lt; have hZ := ((Blk.new w8 83 #[.int .i64 0, .slice none 0 0]).drew).keep hb9; have hy1 := hZ.frozen 0; have hy2 := hZ.frozen 1; have hy3 : w9.cell? ⟨w8.heap.size, 0, none⟩ = some (.int .i64 0) := hZ.cell 0; have hy4 : w9.cell? ⟨w8.heap.size, 1, none⟩ = some (.slice none 0 0) := hZ.cell 1; have hy5 := hZ.lt)))
           all_goals go_wp2
           all_goals go_ret2
           all_goals exact RetB.nil (put_many HE.out HOK.out HAG.out HBIG.out HMANY.out) (by first | exact balloc (bstep hB3 hB9) _ | exact bstep hB3 hB9 | exact ((bstep hB3 hB9).setCell (p := ⟨w8.heap.size, 0, none⟩) hbx _).setCell (p := ⟨w8.heap.size, 1, none⟩) hbx _)
          ·have dm : decide (64 < (l.length : Int) - ((k2 : Int) - (k : Int)) + 1) = false := decide_eq_false (by omega)
           have HMANY : Hid ((putL l b).length ≤ 64) := Lib.hid (by rw [HM.out.2.1]; omega)
           go_wp2
           go_region_held3 (fun w' => w'.cell? ⟨w1.heap.size, 0, none⟩ = some (.int .i64 b.1) ∧ w'.cell? ⟨w1.heap.size, 1, none⟩ = some (.slice B b.2.length d))
            (first | go_keep | exact ⟨hP9.cell 0, hP9.cell 1⟩ | exact ⟨(hP9.alloc _).cell 0, (hP9.alloc _).cell 1⟩ | exact ⟨((hP9.far (p := ⟨w8.heap.size, 0, none⟩) hneX _).far (p := ⟨w8.heap.size, 1, none⟩) hneX _).cell 0, ((hP9.far (p := ⟨w8.heap.size, 0, none⟩) hneX _).far (p := ⟨w8.heap.size, 1, none⟩) hneX _).cell 1⟩)
            ((first | (go_at_call 71; refine (join_yes _ _ (midOf l b) b B d _ (HRm.out _ hBw8.drew) (hy.keep hBw8.drew) HM.out.2.2 (by have := HM.out.1; omega) HOK.out HBIG.out (k2 - k) HM.out.1).mono ?_; rintro e w9 ⟨g9, rfl, hg9, hJ9, hb9⟩; have hB9 : Below w3.heap.size w3 w9 := bstep (hB8).drew hb9; have hP9 := hP3.keep hB9; have hl9 := hP9.lt) | (go_at_call 71; refine (join_yes _ _ (midOf l b) b B d _ (HRm.out _ (balloc hBw8 _).drew) (hy.keep (balloc hBw8 _).drew) HM.out.2.2 (by have := HM.out.1; omega) HOK.out HBIG.out (k2 - k) HM.out.1).mono ?_; rintro e w9 ⟨g9, rfl, hg9, hJ9, hb9⟩; have hB9 : Below w3.heap.size w3 w9 := bstep (balloc hB8 _).drew hb9; have hP9 := hP3.keep hB9; have hl9 := hP9.lt; have hZ := ((Blk.new w8 83 #[.int .i64 0, .slice none 0 0]).drew).keep hb9; have hy1 := hZ.frozen 0; have hy2 := hZ.frozen 1; have hy3 : w9.cell? ⟨w8.heap.size, 0, none⟩ = some (.int .i64 0) := hZ.cell 0; have hy4 : w9.cell? ⟨w8.heap.size, 1, none⟩ = some (.slice none 0 0) := hZ.cell 1; have hy5 := hZ.lt)))
           ·have hBE := balloc hB9 (.cells #[.int .i64 (jFrom (midOf l b) b), .slice (some ⟨g9, 0, none⟩) (jS (midOf l b) b).length (jS (midOf l b) b).length] 83)
            have hJE := Blk.new w9 83 #[.int .i64 (jFrom (midOf l b) b), .slice (some ⟨g9, 0, none⟩) (jS (midOf l b) b).length (jS (midOf l b) b).length]
            have hSE := hJ9.alloc (.cells #[.int .i64 (jFrom (midOf l b) b), .slice (some ⟨g9, 0, none⟩) (jS (midOf l b) b).length (jS (midOf l b) b).length] 83)
            obtain ⟨wE, hwE⟩ : ∃ wE, wE = w9.alloc (.cells #[.int .i64 (jFrom (midOf l b) b), .slice (some ⟨g9, 0, none⟩) (jS (midOf l b) b).length (jS (midOf l b) b).length] 83) := ⟨_, rfl⟩
            rw [← hwE] at hBE hJE hSE ⊢
            have hg9' : w.heap.size ≤ g9 := by have h1 := hBw8.size; have h2 : w8.heap.size ≤ g9 := hg9; omega
            clear hwE hJ9 hb9 hg9
            have hBwE := bstep hB3 hBE
            obtain ⟨j0, hj0, hy0, hy1', hy2'⟩ := info_parts info_block
            obtain ⟨wM, hmk, hmo, hmg⟩ := run_make_own (P := Tryz.prog) wE w.heap.size 84 83 j0 _ 2 Tryz.underlying84 hj0 hy0 hy1' .i64 .i64 (l.length - (k2 - k) + 1) (by rw [hy2']; omega) (by unfold maxLen; omega) hBwE.size
            rw [show ((l.length - (k2 - k) + 1 : Nat) : Int) = (l.length : Int) - ((k2 : Int) - (k : Int)) + 1 by omega] at hmk
            have hsl0 := HSL0.out k (by omega)
            have hsl9 := HSL.out k2 l.length (by omega) (by omega)
            have hbM := below_none hmg
            have hBwM := bstep hBwE hbM
            have hJM := hJE.keep hbM
            have hSM := hSE.keep hbM
            have hsE := hBwE.size
            have hsM := hbM.size
            have hrb0 := HRB.out w (Below.refl _ _) 0 k (by omega) (by omega)
            have hrb9 := HRB.out w (Below.refl _ _) k2 l.length (by omega) (Nat.le_refl _)
            rw [List.drop_zero, Nat.sub_zero] at hrb0
            rw [List.take_of_length_le (by simp)] at hrb9
            have hal0 : ∀ x ∈ l.take k, x.2.length ≤ 1000000 := fun x hx2 => by obtain ⟨i, hi2, rfl⟩ := List.mem_iff_getElem.1 (List.mem_of_mem_take hx2); have := (HA.out.bd i hi2).2.2.2.1; omega
            have hal9 : ∀ x ∈ l.drop k2, x.2.length ≤ 1000000 := fun x hx2 => by obtain ⟨i, hi2, rfl⟩ := List.mem_iff_getElem.1 (List.mem_of_mem_drop hx2); have := (HA.out.bd i hi2).2.2.2.1; omega
            have HAL := Lib.hid (And.intro (And.intro hal0 hal9) (And.intro hrb0 hrb9))
            clear hal0 hal9 hrb0 hrb9
            have hjlt := hJE.lt
            have hglt := hSE.lt
            go_wp2_with fail
            refine (appendCopies_at w _ 0 [] [] _ _ (l.take k) _ k (by simp; omega) hmo Elems.nil rfl (by omega) HAL.out.2.1 (by omega) HAL.out.1.1 hBwM).mono ?_
            rintro _ w10 ⟨v10, raws10, rfl, hO10, hE10, hrl10, hkp10, how10, hss10, hB10⟩
            rw [Nat.zero_add] at hO10 hrl10
            have hJ10 := hkp10 _ _ _ hJM (own_apart (by omega))
            have hS10 := hkp10 _ _ _ hSM (own_apart (by omega))
            have hne10 : v10.ownBlock ≠ some g9 := by
             rcases how10 with h | ⟨H, h, hH⟩
             ·rw [h]; exact own_apart (by omega)
             ·rw [h]; intro h2; injection h2 with h2; omega
            have HKP := Lib.hid hkp10
            have HOW := Lib.hid how10
            have HRL := Lib.hid hrl10
            clear hkp10 how10 hrl10 hmk hmo hmg hJM hSM hbM hJE hSE
            have x0 : World.cell? w10 ⟨w9.heap.size, 0, none⟩ = some (.int .i64 (jFrom (midOf l b) b)) := hJ10.cell 0
            have xf0 := hJ10.frozen 0
            have x1 : World.cell? w10 ⟨w9.heap.size, 1, none⟩ = some (.slice (some ⟨g9, 0, none⟩) (jS (midOf l b) b).length (jS (midOf l b) b).length) := hJ10.cell 1
            have xf1 := hJ10.frozen 1
            have xfl := hJ10.lt
            have hs10 := hB10.size
            have hgl10 := hS10.lt
            have hjl10 := hJ10.lt
            go_wp2_with (at_builtin; refine wpList_append_lies _ rfl (.tmp 93) (.tmp 95) 84 rfl w.heap.size 83 j0 _ 2 32 Tryz.underlying84 hj0 hy0 hy1' hy2' rfl (by decide) _ k _ rfl (hO10.alloc _) ⟨w10.heap.size, 0, none⟩ 1 1 (encK (jFrom (midOf l b) b, .slice (some ⟨g9, 0, none⟩) (jS (midOf l b) b).length (jS (midOf l b) b).length)) rfl rfl (enc_news _ rfl) encK_one (by omega) (by unfold maxLen; omega) (by omega) (by simp; omega) (w10.heap.size + 1) (by simp) ?_; intro g11 c11 w11 hown11 hgrow11 hat11 hlt11)
            have hE11 := (hE10.keep (balloc (Below.refl _ _) (.cells #[.int .i64 (jFrom (midOf l b) b), .slice (some ⟨g9, 0, none⟩) (jS (midOf l b) b).length (jS (midOf l b) b).length] 83))).push (a := jFrom (midOf l b) b) (blk_RIo (hS10.alloc _) (by omega)) (Nat.le_refl _) (by intro _ b' off' e'; injection e' with e'; injection e' with e' _; subst e'; exact hne10) hgrow11 hat11 (by simp)
            have hB11 := own_below (balloc hB10 (.cells #[.int .i64 (jFrom (midOf l b) b), .slice (some ⟨g9, 0, none⟩) (jS (midOf l b) b).length (jS (midOf l b) b).length] 83)) (hO10.alloc _) hgrow11 (Nat.le_refl _) (by simp; omega)
            rw [← flat_snoc] at hown11
            clear x0 x1 xf0 xf1 xfl
            have hAC := appendCopies_at w (.slice (some ⟨g11, 0, none⟩) (k + 1) c11) (k + 1) _ _ _ (l.length - k2) (l.drop k2) w11 (l.length - k2) (by simp) hown11 hE11 (by have := HRL.out; simp; omega) (by omega) HAL.out.2.2 (by omega) HAL.out.1.2 hB11
            with_reducible refine hAC.mono ?_
            rintro _ w12 ⟨v12, raws12, rfl, hO12, hE12, hrl12, _, _, _, hB12⟩
            obtain ⟨A12, c12, rfl, hc12⟩ := own_shape' hO12
            have hpe : [] ++ l.take k ++ [(jFrom (midOf l b) b, jS (midOf l b) b)] ++ l.drop k2 = putL l b := by
             unfold putL
             rw [List.nil_append, HLO.out, HHI.out]
            rw [hpe] at hE12
            have hR12 := own_RBo hO12 hE12 hrl12
            have hlen12 : (putL l b).length = k + 1 + (l.length - k2) := by rw [HM.out.2.1]; omega
            clear hpe hO12 hE12 hrl12
            go_wp2
            go_ret2
            exact RetB.ok (put_ok HE.out HOK.out HAG.out HBIG.out HMANY.out) hlen12 hR12 hc12 hB12
           ·have hg9a : w8.heap.size + 1 ≤ g9 := by have h2 : (w8.alloc (.cells #[.int .i64 0, .slice none 0 0] 83)).heap.size ≤ g9 := hg9; simpa using h2
            have hg9' : w.heap.size ≤ g9 := by have h1 := hBw8.size; omega
            have hg9n : g9 ≠ w8.heap.size := by omega
            have hBE := (hB9.setCell (p := ⟨w8.heap.size, 0, none⟩) hszX (.int .i64 (jFrom (midOf l b) b))).setCell (p := ⟨w8.heap.size, 1, none⟩) hszX (.slice (some ⟨g9, 0, none⟩) (jS (midOf l b) b).length (jS (midOf l b) b).length)
            have hJE := (hZ.put 0 (.int .i64 (jFrom (midOf l b) b))).put 1 (.slice (some ⟨g9, 0, none⟩) (jS (midOf l b) b).length (jS (midOf l b) b).length)
            have hSE := (hJ9.far (p := ⟨w8.heap.size, 0, none⟩) hg9n (.int .i64 (jFrom (midOf l b) b))).far (p := ⟨w8.heap.size, 1, none⟩) hg9n (.slice (some ⟨g9, 0, none⟩) (jS (midOf l b) b).length (jS (midOf l b) b).length)
            obtain ⟨wE, hwE⟩ : ∃ wE, wE = (w9.setCell ⟨w8.heap.size, 0, none⟩ (.int .i64 (jFrom (midOf l b) b))).setCell ⟨w8.heap.size, 1, none⟩ (.slice (some ⟨g9, 0, none⟩) (jS (midOf l b) b).length (jS (midOf l b) b).length) := ⟨_, rfl⟩
            rw [← hwE] at hBE hJE hSE ⊢
            clear hwE hJ9 hb9 hg9 hy1 hy2 hy3 hy4
            have hBwE := bstep hB3 hBE
            obtain ⟨j0, hj0, hy0, hy1', hy2'⟩ := info_parts info_block
            obtain ⟨wM, hmk, hmo, hmg⟩ := run_make_own (P := Tryz.prog) wE w.heap.size 84 83 j0 _ 2 Tryz.underlying84 hj0 hy0 hy1' .i64 .i64 (l.length - (k2 - k) + 1) (by rw [hy2']; omega) (by unfold maxLen; omega) hBwE.size
            rw [show ((l.length - (k2 - k) + 1 : Nat) : Int) = (l.length : Int) - ((k2 : Int) - (k : Int)) + 1 by omega] at hmk
            have hsl0 := HSL0.out k (by omega)
            have hsl9 := HSL.out k2 l.length (by omega) (by omega)
            have hbM := below_none hmg
            have hBwM := bstep hBwE hbM
            have hJM := hJE.keep hbM
            have hSM := hSE.keep hbM
            have hsE := hBwE.size
            have hsM := hbM.size
            have hrb0 := HRB.out w (Below.refl _ _) 0 k (by omega) (by omega)
            have hrb9 := HRB.out w (Below.refl _ _) k2 l.length (by omega) (Nat.le_refl _)
            rw [List.drop_zero, Nat.sub_zero] at hrb0
            rw [List.take_of_length_le (by simp)] at hrb9
            have hal0 : ∀ x ∈ l.take k, x.2.length ≤ 1000000 := fun x hx2 => by obtain ⟨i, hi2, rfl⟩ := List.mem_iff_getElem.1 (List.mem_of_mem_take hx2); have := (HA.out.bd i hi2).2.2.2.1; omega
            have hal9 : ∀ x ∈ l.drop k2, x.2.length ≤ 1000000 := fun x hx2 => by obtain ⟨i, hi2, rfl⟩ := List.mem_iff_getElem.1 (List.mem_of_mem_drop hx2); have := (HA.out.bd i hi2).2.2.2.1; omega
            have HAL := Lib.hid (And.intro (And.intro hal0 hal9) (And.intro hrb0 hrb9))
            clear hal0 hal9 hrb0 hrb9
            have hjlt := hJE.lt
            have hglt := hSE.lt
            go_wp2_with fail
            refine (appendCopies_at w _ 0 [] [] _ _ (l.take k) _ k (by simp; omega) hmo Elems.nil rfl (by omega) HAL.out.2.1 (by omega) HAL.out.1.1 hBwM).mono ?_
            rintro _ w10 ⟨v10, raws10, rfl, hO10, hE10, hrl10, hkp10, how10, hss10, hB10⟩
            rw [Nat.zero_add] at hO10 hrl10
            have hJ10 := hkp10 _ _ _ hJM (own_apart (by omega))
            have hS10 := hkp10 _ _ _ hSM (own_apart (by omega))
            have hne10 : v10.ownBlock ≠ some g9 := by
             rcases how10 with h | ⟨H, h, hH⟩
             ·rw [h]; exact own_apart (by omega)
             ·rw [h]; intro h2; injection h2 with h2; omega
            have HKP := Lib.hid hkp10
            have HOW := Lib.hid how10
            have HRL := Lib.hid hrl10
            clear hkp10 how10 hrl10 hmk hmo hmg hJM hSM hbM hJE hSE
            have x0 : World.cell? w10 ⟨w8.heap.size, 0, none⟩ = some (.int .i64 (jFrom (midOf l b) b)) := hJ10.cell 0
            have xf0 := hJ10.frozen 0
            have x1 : World.cell? w10 ⟨w8.heap.size, 1, none⟩ = some (.slice (some ⟨g9, 0, none⟩) (jS (midOf l b) b).length (jS (midOf l b) b).length) := hJ10.cell 1
            have xf1 := hJ10.frozen 1
            have xfl := hJ10.lt
            have hs10 := hB10.size
            have hgl10 := hS10.lt
            have hjl10 := hJ10.lt
            go_wp2_with (at_builtin; refine wpList_append_lies _ rfl (.tmp 93) (.tmp 95) 84 rfl w.heap.size 83 j0 _ 2 32 Tryz.underlying84 hj0 hy0 hy1' hy2' rfl (by decide) _ k _ rfl (hO10.alloc _) ⟨w10.heap.size, 0, none⟩ 1 1 (encK (jFrom (midOf l b) b, .slice (some ⟨g9, 0, none⟩) (jS (midOf l b) b).length (jS (midOf l b) b).length)) rfl rfl (enc_news _ rfl) encK_one (by omega) (by unfold maxLen; omega) (by omega) (by simp; omega) (w10.heap.size + 1) (by simp) ?_; intro g11 c11 w11 hown11 hgrow11 hat11 hlt11)
            have hE11 := (hE10.keep (balloc (Below.refl _ _) (.cells #[.int .i64 (jFrom (midOf l b) b), .slice (some ⟨g9, 0, none⟩) (jS (midOf l b) b).length (jS (midOf l b) b).length] 83))).push (a := jFrom (midOf l b) b) (blk_RIo (hS10.alloc _) (by omega)) (Nat.le_refl _) (by intro _ b' off' e'; injection e' with e'; injection e' with e' _; subst e'; exact hne10) hgrow11 hat11 (by simp)
            have hB11 := own_below (balloc hB10 (.cells #[.int .i64 (jFrom (midOf l b) b), .slice (some ⟨g9, 0, none⟩) (jS (midOf l b) b).length (jS (midOf l b) b).length] 83)) (hO10.alloc _) hgrow11 (Nat.le_refl _) (by simp; omega)
            rw [← flat_snoc] at hown11
            clear x0 x1 xf0 xf1 xfl
            have hAC := appendCopies_at w (.slice (some ⟨g11, 0, none⟩) (k + 1) c11) (k + 1) _ _ _ (l.length - k2) (l.drop k2) w11 (l.length - k2) (by simp) hown11 hE11 (by have := HRL.out; simp; omega) (by omega) HAL.out.2.2 (by omega) HAL.out.1.2 hB11
            with_reducible refine hAC.mono ?_
            rintro _ w12 ⟨v12, raws12, rfl, hO12, hE12, hrl12, _, _, _, hB12⟩
            obtain ⟨A12, c12, rfl, hc12⟩ := own_shape' hO12
            have hpe : [] ++ l.take k ++ [(jFrom (midOf l b) b, jS (midOf l b) b)] ++ l.drop k2 = putL l b := by
             unfold putL
             rw [List.nil_append, HLO.out, HHI.out]
            rw [hpe] at hE12
            have hR12 := own_RBo hO12 hE12 hrl12
            have hlen12 : (putL l b).length = k + 1 + (l.length - k2) := by rw [HM.out.2.1]; omega
            clear hpe hO12 hE12 hrl12
            go_wp2
            go_ret2
            exact RetB.ok (put_ok HE.out HOK.out HAG.out HBIG.out HMANY.out) hlen12 hR12 hc12 hB12
       ·have d3 : decide (k2 < l.length) = false := decide_eq_false hlt2
        have d4 : decide ((k2 : Int) < (l.length : Int)) = false := decide_eq_false (by omega)
        have HHI : Hid (hiOf l b = k2) := Lib.hid (hi_is HLO.out hlk hk2' hhi.out (by intro hj; omega))
        go_wp2
        go_quiet (fail)
        have hBq := below_drewN hb7 nq
        obtain ⟨wq, hwq⟩ : ∃ wq, wq = wr.drewN nq := ⟨_, rfl⟩
        rw [← hwq] at hBq ⊢
        clear hwq
        have hP8 := hP3.keep hBq
        have hBw8 := bstep hB3 hBq
        have hmid : midOf l b = (l.drop k).take (k2 - k) := by unfold midOf; rw [HLO.out, HHI.out]
        have hml : (midOf l b).length = k2 - k := by rw [mid_len, HLO.out, HHI.out]
        have hpl8 : (putL l b).length = l.length - (k2 - k) + 1 := by rw [put_len, HLO.out, HHI.out]
        have hAm : Apart (midOf l b) := by rw [hmid]; exact HA.out.sub _ _
        have hsl := HSL.out k k2 (by omega) (by omega)
        have hRm := fun W hW => HRB.out W hW k k2 (by omega) (by omega)
        rw [← hmid] at hRm
        have HM := Lib.hid (And.intro hml (And.intro hpl8 hAm))
        clear hmid hml hpl8 hAm
        have HRm := Lib.hid hRm
        clear hRm
        have hszX := (hBq).size
        have hneX : w1.heap.size ≠ wq.heap.size := by omega
        have hbx : w.heap.size ≤ wq.heap.size := hBw8.size
        have a0 : World.cell? wq ⟨w1.heap.size, 0, none⟩ = some (.int .i64 b.1) := hP8.cell 0
        have af0 := hP8.frozen 0
        have a1 : World.cell? wq ⟨w1.heap.size, 1, none⟩ = some (.slice B b.2.length d) := hP8.cell 1
        have af1 := hP8.frozen 1
        have afl := hP8.lt
        by_cases hbig : 256 < jTo (midOf l b) b - jFrom (midOf l b) b
        ·have HBIG := Lib.hid hbig
         clear hbig
         go_wp2
         go_region_held3 (fun w' => w'.cell? ⟨w1.heap.size, 0, none⟩ = some (.int .i64 b.1) ∧ w'.cell? ⟨w1.heap.size, 1, none⟩ = some (.slice B b.2.length d))
          (first | go_keep | exact ⟨hP9.cell 0, hP9.cell 1⟩ | exact ⟨(hP9.alloc _).cell 0, (hP9.alloc _).cell 1⟩ | exact ⟨((hP9.far (p := ⟨wq.heap.size, 0, none⟩) hneX _).far (p := ⟨wq.heap.size, 1, none⟩) hneX _).cell 0, ((hP9.far (p := ⟨wq.heap.size, 0, none⟩) hneX _).far (p := ⟨wq.heap.size, 1, none⟩) hneX _).cell 1⟩)
          ((first | (go_at_call 71; refine (join_no _ _ (midOf l b) b B d _ (HRm.out _ hBw8.drew) (hy.keep hBw8.drew) HM.out.2.2 (by have := HM.out.1; omega) HOK.out HBIG.out (k2 - k) HM.out.1).mono ?_; rintro e w9 ⟨rfl, hb9⟩; have hB9 : Below w3.heap.size w3 w9 := bstep (hBq).drew hb9; have hP9 := hP3.keep hB9; have hl9 := hP9.lt) | (go_at_call 71; refine (join_no _ _ (midOf l b) b B d _ (HRm.out _ (balloc hBw8 _).drew) (hy.keep (balloc hBw8 _).drew) HM.out.2.2 (by have := HM.out.1; omega) HOK.out HBIG.out (k2 - k) HM.out.1).mono ?_; rintro e w9 ⟨rfl, hb9⟩; have hB9 : Below w3.heap.size w3 w9 := bstep (balloc hBq _).drew hb9; have hP9 := hP3.keep hB9; have hl9 := hP9.lt; have hZ := ((Blk.new wq 83 #[.int .i64 0, .slice none 0 0]).drew).keep hb9; have hy1 := hZ.frozen 0; have hy2 := hZ.frozen 1; have hy3 : w9.cell? ⟨wq.heap.size, 0, none⟩ = some (.int .i64 0) := hZ.cell 0; have hy4 : w9.cell? ⟨wq.heap.size, 1, none⟩ = some (.slice none 0 0) := hZ.cell 1; have hy5 := hZ.lt)))
         all_goals go_wp2
         all_goals go_ret2
         all_goals exact RetB.nil (put_range HE.out HOK.out HAG.out HBIG.out) (by first | exact balloc (bstep hB3 hB9) _ | exact bstep hB3 hB9 | exact ((bstep hB3 hB9).setCell (p := ⟨wq.heap.size, 0, none⟩) hbx _).setCell (p := ⟨wq.heap.size, 1, none⟩) hbx _)
        ·have HBIG : Hid (jTo (midOf l b) b - jFrom (midOf l b) b ≤ 256) := Lib.hid (by omega)
         have hjl := jS_len_le HBIG.out
         clear hbig
         by_cases hmany : 64 < l.length - (k2 - k) + 1
         ·have dm : decide (64 < (l.length : Int) - ((k2 : Int) - (k : Int)) + 1) = true := decide_eq_true (by omega)
          have HMANY : Hid (64 < (putL l b).length) := Lib.hid (by rw [HM.out.2.1]; exact hmany)
          clear hmany
          go_wp2
          go_region_held3 (fun w' => w'.cell? ⟨w1.heap.size, 0, none⟩ = some (.int .i64 b.1) ∧ w'.cell? ⟨w1.heap.size, 1, none⟩ = some (.slice B b.2.length d))
           (first | go_keep | exact ⟨hP9.cell 0, hP9.cell 1⟩ | exact ⟨(hP9.alloc _).cell 0, (hP9.alloc _).cell 1⟩ | exact ⟨((hP9.far (p := ⟨wq.heap.size, 0, none⟩) hneX _).far (p := ⟨wq.heap.size, 1, none⟩) hneX _).cell 0, ((hP9.far (p := ⟨wq.heap.size, 0, none⟩) hneX _).far (p := ⟨wq.heap.size, 1, none⟩) hneX _).cell 1⟩)
           ((first | (go_at_call 71; refine (join_yes _ _ (midOf l b) b B d _ (HRm.out _ hBw8.drew) (hy.keep hBw8.drew) HM.out.2.2 (by have := HM.out.1; omega) HOK.out HBIG.out (k2 - k) HM.out.1).mono ?_; rintro e w9 ⟨g9, rfl, hg9, hJ9, hb9⟩; have hB9 : Below w3.heap.size w3 w9 := bstep (hBq).drew hb9; have hP9 := hP3.keep hB9; have hl9 := hP9.lt) | (go_at_call 71; refine (join_yes _ _ (midOf l b) b B d _ (HRm.out _ (balloc hBw8 _).drew) (hy.keep (balloc hBw8 _).drew) HM.out.2.2 (by have := HM.out.1; omega) HOK.out HBIG.out (k2 - k) HM.out.1).mono ?_; rintro e w9 ⟨g9, rfl, hg9, hJ9, hb9⟩; have hB9 : Below w3.heap.size w3 w9 := bstep (balloc hBq _).drew hb9; have hP9 := hP3.keep hB9; have hl9 := hP9.lt; have hZ := ((Blk.new wq 83 #[.int .i64 0, .slice none 0 0]).drew).keep hb9; have hy1 := hZ.frozen 0; have hy2 := hZ.frozen 1; have hy3 : w9.cell? ⟨wq.heap.size, 0, none⟩ = some (.int .i64 0) := hZ.cell 0; have hy4 : w9.cell? ⟨wq.heap.size, 1, none⟩ = some (.slice none 0 0) := hZ.cell 1; have hy5 := hZ.lt)))
          all_goals go_wp2
          all_goals go_ret2
          all_goals exact RetB.nil (put_many HE.out HOK.out HAG.out HBIG.out HMANY.out) (by first | exact balloc (bstep hB3 hB9) _ | exact bstep hB3 hB9 | exact ((bstep hB3 hB9).setCell (p := ⟨wq.heap.size, 0, none⟩) hbx _).setCell (p := ⟨wq.heap.size, 1, none⟩) hbx _)
         ·have dm : decide (64 < (l.length : Int) - ((k2 : Int) - (k : Int)) + 1) = false := decide_eq_false (by omega)
          have HMANY : Hid ((putL l b).length ≤ 64) := Lib.hid (by rw [HM.out.2.1]; omega)
          go_wp2
          go_region_held3 (fun w' => w'.cell? ⟨w1.heap.size, 0, none⟩ = some (.int .i64 b.1) ∧ w'.cell? ⟨w1.heap.size, 1, none⟩ = some (.slice B b.2.length d))
           (first | go_keep | exact ⟨hP9.cell 0, hP9.cell 1⟩ | exact ⟨(hP9.alloc _).cell 0, (hP9.alloc _).cell 1⟩ | exact ⟨((hP9.far (p := ⟨wq.heap.size, 0, none⟩) hneX _).far (p := ⟨wq.heap.size, 1, none⟩) hneX _).cell 0, ((hP9.far (p := ⟨wq.heap.size, 0, none⟩) hneX _).far (p := ⟨wq.heap.size, 1, none⟩) hneX _).cell 1⟩)
           ((first | (go_at_call 71; refine (join_yes _ _ (midOf l b) b B d _ (HRm.out _ hBw8.drew) (hy.keep hBw8.drew) HM.out.2.2 (by have := HM.out.1; omega) HOK.out HBIG.out (k2 - k) HM.out.1).mono ?_; rintro e w9 ⟨g9, rfl, hg9, hJ9, hb9⟩; have hB9 : Below w3.heap.size w3 w9 := bstep (hBq).drew hb9; have hP9 := hP3.keep hB9; have hl9 := hP9.lt) | (go_at_call 71; refine (join_yes _ _ (midOf l b) b B d _ (HRm.out _ (balloc hBw8 _).drew) (hy.keep (balloc hBw8 _).drew) HM.out.2.2 (by have := HM.out.1; omega) HOK.out HBIG.out (k2 - k) HM.out.1).mono ?_; rintro e w9 ⟨g9, rfl, hg9, hJ9, hb9⟩; have hB9 : Below w3.heap.size w3 w9 := bstep (balloc hBq _).drew hb9; have hP9 := hP3.keep hB9; have hl9 := hP9.lt; have hZ := ((Blk.new wq 83 #[.int .i64 0, .slice none 0 0]).drew).keep hb9; have hy1 := hZ.frozen 0; have hy2 := hZ.frozen 1; have hy3 : w9.cell? ⟨wq.heap.size, 0, none⟩ = some (.int .i64 0) := hZ.cell 0; have hy4 : w9.cell? ⟨wq.heap.size, 1, none⟩ = some (.slice none 0 0) := hZ.cell 1; have hy5 := hZ.lt)))
          ·have hBE := balloc hB9 (.cells #[.int .i64 (jFrom (midOf l b) b), .slice (some ⟨g9, 0, none⟩) (jS (midOf l b) b).length (jS (midOf l b) b).length] 83)
           have hJE := Blk.new w9 83 #[.int .i64 (jFrom (midOf l b) b), .slice (some ⟨g9, 0, none⟩) (jS (midOf l b) b).length (jS (midOf l b) b).length]
           have hSE := hJ9.alloc (.cells #[.int .i64 (jFrom (midOf l b) b), .slice (some ⟨g9, 0, none⟩) (jS (midOf l b) b).length (jS (midOf l b) b).length] 83)
           obtain ⟨wE, hwE⟩ : ∃ wE, wE = w9.alloc (.cells #[.int .i64 (jFrom (midOf l b) b), .slice (some ⟨g9, 0, none⟩) (jS (midOf l b) b).length (jS (midOf l b) b).length] 83) := ⟨_, rfl⟩
           rw [← hwE] at hBE hJE hSE ⊢
           have hg9' : w.heap.size ≤ g9 := by have h1 := hBw8.size; have h2 : wq.heap.size ≤ g9 := hg9; omega
           clear hwE hJ9 hb9 hg9
           have hBwE := bstep hB3 hBE
           obtain ⟨j0, hj0, hy0, hy1', hy2'⟩ := info_parts info_block
           obtain ⟨wM, hmk, hmo, hmg⟩ := run_make_own (P := Tryz.prog) wE w.heap.size 84 83 j0 _ 2 Tryz.underlying84 hj0 hy0 hy1' .i64 .i64 (l.length - (k2 - k) + 1) (by rw [hy2']; omega) (by unfold maxLen; omega) hBwE.size
           rw [show ((l.length - (k2 - k) + 1 : Nat) : Int) = (l.length : Int) - ((k2 : Int) - (k : Int)) + 1 by omega] at hmk
           have hsl0 := HSL0.out k (by omega)
           have hsl9 := HSL.out k2 l.length (by omega) (by omega)
           have hbM := below_none hmg
           have hBwM := bstep hBwE hbM
           have hJM := hJE.keep hbM
           have hSM := hSE.keep hbM
           have hsE := hBwE.size
           have hsM := hbM.size
           have hrb0 := HRB.out w (Below.refl _ _) 0 k (by omega) (by omega)
           have hrb9 := HRB.out w (Below.refl _ _) k2 l.length (by omega) (Nat.le_refl _)
           rw [List.drop_zero, Nat.sub_zero] at hrb0
           rw [List.take_of_length_le (by simp)] at hrb9
           have hal0 : ∀ x ∈ l.take k, x.2.length ≤ 1000000 := fun x hx2 => by obtain ⟨i, hi2, rfl⟩ := List.mem_iff_getElem.1 (List.mem_of_mem_take hx2); have := (HA.out.bd i hi2).2.2.2.1; omega
           have hal9 : ∀ x ∈ l.drop k2, x.2.length ≤ 1000000 := fun x hx2 => by obtain ⟨i, hi2, rfl⟩ := List.mem_iff_getElem.1 (List.mem_of_mem_drop hx2); have := (HA.out.bd i hi2).2.2.2.1; omega
           have HAL := Lib.hid (And.intro (And.intro hal0 hal9) (And.intro hrb0 hrb9))
           clear hal0 hal9 hrb0 hrb9
           have hjlt := hJE.lt
           have hglt := hSE.lt
           go_wp2_with fail
           refine (appendCopies_at w _ 0 [] [] _ _ (l.take k) _ k (by simp; omega) hmo Elems.nil rfl (by omega) HAL.out.2.1 (by omega) HAL.out.1.1 hBwM).mono ?_
           rintro _ w10 ⟨v10, raws10, rfl, hO10, hE10, hrl10, hkp10, how10, hss10, hB10⟩
           rw [Nat.zero_add] at hO10 hrl10
           have hJ10 := hkp10 _ _ _ hJM (own_apart (by omega))
           have hS10 := hkp10 _ _ _ hSM (own_apart (by omega))
           have hne10 : v10.ownBlock ≠ some g9 := by
            rcases how10 with h | ⟨H, h, hH⟩
            ·rw [h]; exact own_apart (by omega)
            ·rw [h]; intro h2; injection h2 with h2; omega
           have HKP := Lib.hid hkp10
           have HOW := Lib.hid how10
           have HRL := Lib.hid hrl10
           clear hkp10 how10 hrl10 hmk hmo hmg hJM hSM hbM hJE hSE
           have x0 : World.cell? w10 ⟨w9.heap.size, 0, none⟩ = some (.int .i64 (jFrom (midOf l b) b)) := hJ10.cell 0
           have xf0 := hJ10.frozen 0
           have x1 : World.cell? w10 ⟨w9.heap.size, 1, none⟩ = some (.slice (some ⟨g9, 0, none⟩) (jS (midOf l b) b).length (jS (midOf l b) b).length) := hJ10.cell 1
           have xf1 := hJ10.frozen 1
           have xfl := hJ10.lt
           have hs10 := hB10.size
           have hgl10 := hS10.lt
           have hjl10 := hJ10.lt
           go_wp2_with (at_builtin; refine wpList_append_lies _ rfl (.tmp 93) (.tmp 95) 84 rfl w.heap.size 83 j0 _ 2 32 Tryz.underlying84 hj0 hy0 hy1' hy2' rfl (by decide) _ k _ rfl (hO10.alloc _) ⟨w10.heap.size, 0, none⟩ 1 1 (encK (jFrom (midOf l b) b, .slice (some ⟨g9, 0, none⟩) (jS (midOf l b) b).length (jS (midOf l b) b).length)) rfl rfl (enc_news _ rfl) encK_one (by omega) (by unfold maxLen; omega) (by omega) (by simp; omega) (w10.heap.size + 1) (by simp) ?_; intro g11 c11 w11 hown11 hgrow11 hat11 hlt11)
           have hE11 := (hE10.keep (balloc (Below.refl _ _) (.cells #[.int .i64 (jFrom (midOf l b) b), .slice (some ⟨g9, 0, none⟩) (jS (midOf l b) b).length (jS (midOf l b) b).length] 83))).push (a := jFrom (midOf l b) b) (blk_RIo (hS10.alloc _) (by omega)) (Nat.le_refl _) (by intro _ b' off' e'; injection e' with e'; injection e' with e' _; subst e'; exact hne10) hgrow11 hat11 (by simp)
           have hB11 := own_below (balloc hB10 (.cells #[.int .i64 (jFrom (midOf l b) b), .slice (some ⟨g9, 0, none⟩) (jS (midOf l b) b).length (jS (midOf l b) b).length] 83)) (hO10.alloc _) hgrow11 (Nat.le_refl _) (by simp; omega)
           rw [← flat_snoc] at hown11
           clear x0 x1 xf0 xf1 xfl
           have hAC := appendCopies_at w (.slice (some ⟨g11, 0, none⟩) (k + 1) c11) (k + 1) _ _ _ (l.length - k2) (l.drop k2) w11 (l.length - k2) (by simp) hown11 hE11 (by have := HRL.out; simp; omega) (by omega) HAL.out.2.2 (by omega) HAL.out.1.2 hB11
           with_reducible refine hAC.mono ?_
           rintro _ w12 ⟨v12, raws12, rfl, hO12, hE12, hrl12, _, _, _, hB12⟩
           obtain ⟨A12, c12, rfl, hc12⟩ := own_shape' hO12
           have hpe : [] ++ l.take k ++ [(jFrom (midOf l b) b, jS (midOf l b) b)] ++ l.drop k2 = putL l b := by
            unfold putL
            rw [List.nil_append, HLO.out, HHI.out]
           rw [hpe] at hE12
           have hR12 := own_RBo hO12 hE12 hrl12
           have hlen12 : (putL l b).length = k + 1 + (l.length - k2) := by rw [HM.out.2.1]; omega
           clear hpe hO12 hE12 hrl12
           go_wp2
           go_ret2
           exact RetB.ok (put_ok HE.out HOK.out HAG.out HBIG.out HMANY.out) hlen12 hR12 hc12 hB12
          ·have hg9a : wq.heap.size + 1 ≤ g9 := by have h2 : (wq.alloc (.cells #[.int .i64 0, .slice none 0 0] 83)).heap.size ≤ g9 := hg9; simpa using h2
           have hg9' : w.heap.size ≤ g9 := by have h1 := hBw8.size; omega
           have hg9n : g9 ≠ wq.heap.size := by omega
           have hBE := (hB9.setCell (p := ⟨wq.heap.size, 0, none⟩) hszX (.int .i64 (jFrom (midOf l b) b))).setCell (p := ⟨wq.heap.size, 1, none⟩) hszX (.slice (some ⟨g9, 0, none⟩) (jS (midOf l b) b).length (jS (midOf l b) b).length)
           have hJE := (hZ.put 0 (.int .i64 (jFrom (midOf l b) b))).put 1 (.slice (some ⟨g9, 0, none⟩) (jS (midOf l b) b).length (jS (midOf l b) b).length)
           have hSE := (hJ9.far (p := ⟨wq.heap.size, 0, none⟩) hg9n (.int .i64 (jFrom (midOf l b) b))).far (p := ⟨wq.heap.size, 1, none⟩) hg9n (.slice (some ⟨g9, 0, none⟩) (jS (midOf l b) b).length (jS (midOf l b) b).length)
           obtain ⟨wE, hwE⟩ : ∃ wE, wE = (w9.setCell ⟨wq.heap.size, 0, none⟩ (.int .i64 (jFrom (midOf l b) b))).setCell ⟨wq.heap.size, 1, none⟩ (.slice (some ⟨g9, 0, none⟩) (jS (midOf l b) b).length (jS (midOf l b) b).length) := ⟨_, rfl⟩
           rw [← hwE] at hBE hJE hSE ⊢
           clear hwE hJ9 hb9 hg9 hy1 hy2 hy3 hy4
           have hBwE := bstep hB3 hBE
           obtain ⟨j0, hj0, hy0, hy1', hy2'⟩ := info_parts info_block
           obtain ⟨wM, hmk, hmo, hmg⟩ := run_make_own (P := Tryz.prog) wE w.heap.size 84 83 j0 _ 2 Tryz.underlying84 hj0 hy0 hy1' .i64 .i64 (l.length - (k2 - k) + 1) (by rw [hy2']; omega) (by unfold maxLen; omega) hBwE.size
           rw [show ((l.length - (k2 - k) + 1 : Nat) : Int) = (l.length : Int) - ((k2 : Int) - (k : Int)) + 1 by omega] at hmk
           have hsl0 := HSL0.out k (by omega)
           have hsl9 := HSL.out k2 l.length (by omega) (by omega)
           have hbM := below_none hmg
           have hBwM := bstep hBwE hbM
           have hJM := hJE.keep hbM
           have hSM := hSE.keep hbM
           have hsE := hBwE.size
           have hsM := hbM.size
           have hrb0 := HRB.out w (Below.refl _ _) 0 k (by omega) (by omega)
           have hrb9 := HRB.out w (Below.refl _ _) k2 l.length (by omega) (Nat.le_refl _)
           rw [List.drop_zero, Nat.sub_zero] at hrb0
           rw [List.take_of_length_le (by simp)] at hrb9
           have hal0 : ∀ x ∈ l.take k, x.2.length ≤ 1000000 := fun x hx2 => by obtain ⟨i, hi2, rfl⟩ := List.mem_iff_getElem.1 (List.mem_of_mem_take hx2); have := (HA.out.bd i hi2).2.2.2.1; omega
           have hal9 : ∀ x ∈ l.drop k2, x.2.length ≤ 1000000 := fun x hx2 => by obtain ⟨i, hi2, rfl⟩ := List.mem_iff_getElem.1 (List.mem_of_mem_drop hx2); have := (HA.out.bd i hi2).2.2.2.1; omega
           have HAL := Lib.hid (And.intro (And.intro hal0 hal9) (And.intro hrb0 hrb9))
           clear hal0 hal9 hrb0 hrb9
           have hjlt := hJE.lt
           have hglt := hSE.lt
           go_wp2_with fail
           refine (appendCopies_at w _ 0 [] [] _ _ (l.take k) _ k (by simp; omega) hmo Elems.nil rfl (by omega) HAL.out.2.1 (by omega) HAL.out.1.1 hBwM).mono ?_
           rintro _ w10 ⟨v10, raws10, rfl, hO10, hE10, hrl10, hkp10, how10, hss10, hB10⟩
           rw [Nat.zero_add] at hO10 hrl10
           have hJ10 := hkp10 _ _ _ hJM (own_apart (by omega))
           have hS10 := hkp10 _ _ _ hSM (own_apart (by omega))
           have hne10 : v10.ownBlock ≠ some g9 := by
            rcases how10 with h | ⟨H, h, hH⟩
            ·rw [h]; exact own_apart (by omega)
            ·rw [h]; intro h2; injection h2 with h2; omega
           have HKP := Lib.hid hkp10
           have HOW := Lib.hid how10
           have HRL := Lib.hid hrl10
           clear hkp10 how10 hrl10 hmk hmo hmg hJM hSM hbM hJE hSE
           have x0 : World.cell? w10 ⟨wq.heap.size, 0, none⟩ = some (.int .i64 (jFrom (midOf l b) b)) := hJ10.cell 0
           have xf0 := hJ10.frozen 0
           have x1 : World.cell? w10 ⟨wq.heap.size, 1, none⟩ = some (.slice (some ⟨g9, 0, none⟩) (jS (midOf l b) b).length (jS (midOf l b) b).length) := hJ10.cell 1
           have xf1 := hJ10.frozen 1
           have xfl := hJ10.lt
           have hs10 := hB10.size
           have hgl10 := hS10.lt
           have hjl10 := hJ10.lt
           go_wp2_with (at_builtin; refine wpList_append_lies _ rfl (.tmp 93) (.tmp 95) 84 rfl w.heap.size 83 j0 _ 2 32 Tryz.underlying84 hj0 hy0 hy1' hy2' rfl (by decide) _ k _ rfl (hO10.alloc _) ⟨w10.heap.size, 0, none⟩ 1 1 (encK (jFrom (midOf l b) b, .slice (some ⟨g9, 0, none⟩) (jS (midOf l b) b).length (jS (midOf l b) b).length)) rfl rfl (enc_news _ rfl) encK_one (by omega) (by unfold maxLen; omega) (by omega) (by simp; omega) (w10.heap.size + 1) (by simp) ?_; intro g11 c11 w11 hown11 hgrow11 hat11 hlt11)
           have hE11 := (hE10.keep (balloc (Below.refl _ _) (.cells #[.int .i64 (jFrom (midOf l b) b), .slice (some ⟨g9, 0, none⟩) (jS (midOf l b) b).length (jS (midOf l b) b).length] 83))).push (a := jFrom (midOf l b) b) (blk_RIo (hS10.alloc _) (by omega)) (Nat.le_refl _) (by intro _ b' off' e'; injection e' with e'; injection e' with e' _; subst e'; exact hne10) hgrow11 hat11 (by simp)
           have hB11 := own_below (balloc hB10 (.cells #[.int .i64 (jFrom (midOf l b) b), .slice (some ⟨g9, 0, none⟩) (jS (midOf l b) b).length (jS (midOf l b) b).length] 83)) (hO10.alloc _) hgrow11 (Nat.le_refl _) (by simp; omega)
           rw [← flat_snoc] at hown11
           clear x0 x1 xf0 xf1 xfl
           have hAC := appendCopies_at w (.slice (some ⟨g11, 0, none⟩) (k + 1) c11) (k + 1) _ _ _ (l.length - k2) (l.drop k2) w11 (l.length - k2) (by simp) hown11 hE11 (by have := HRL.out; simp; omega) (by omega) HAL.out.2.2 (by omega) HAL.out.1.2 hB11
           with_reducible refine hAC.mono ?_
           rintro _ w12 ⟨v12, raws12, rfl, hO12, hE12, hrl12, _, _, _, hB12⟩
           obtain ⟨A12, c12, rfl, hc12⟩ := own_shape' hO12
           have hpe : [] ++ l.take k ++ [(jFrom (midOf l b) b, jS (midOf l b) b)] ++ l.drop k2 = putL l b := by
            unfold putL
            rw [List.nil_append, HLO.out, HHI.out]
           rw [hpe] at hE12
           have hR12 := own_RBo hO12 hE12 hrl12
           have hlen12 : (putL l b).length = k + 1 + (l.length - k2) := by rw [HM.out.2.1]; omega
           clear hpe hO12 hE12 hrl12
           go_wp2
           go_ret2
           exact RetB.ok (put_ok HE.out HOK.out HAG.out HBIG.out HMANY.out) hlen12 hR12 hc12 hB12
    ·have d3 : decide (k < l.length) = false := decide_eq_false hlt
     have d4 : decide ((k : Int) < (l.length : Int)) = false := decide_eq_false (by omega)
     go_wp2
     go_quiet (fail)
     have hBq := below_drewN hb nq
     obtain ⟨wp, hwp⟩ : ∃ wp, wp = wr.drewN nq := ⟨_, rfl⟩
     rw [← hwp] at hBq ⊢
     clear hwp
     have HLO : Hid (loOf l b = k) := Lib.hid (lo_is (by omega) hlo.out (by intro hj; first | (exfalso; omega) | (unfold endB; exact hov)))
     go_wp2
     go_loopg [9] (l.length - k) (fun gk i wr => ∃ k2 : Nat, k2 + gk = l.length ∧ k ≤ k2 ∧ i = .int .i64 k2 ∧ Below w3.heap.size w3 wr ∧ Hid (∀ j (hj : j < l.length), k ≤ j → j < k2 → l[j].1 ≤ endB b))
     case atStart => exact ⟨k, by omega, Nat.le_refl _, rfl, hBq, Lib.hid (by intro j h h2 h3; omega)⟩
     case round =>
      obtain ⟨k2, hk2, hlk, rfl, hb7, hhi⟩ := hrel
      have hk2' : k2 ≤ l.length := by omega
      have HK2 := Lib.hid hk2
      clear hk2
      have hP7 := hP3.keep hb7
      have hBw7 := bstep hB3 hb7
      by_cases hlt2 : k2 < l.length
      ·exfalso; omega
      ·have d3 : decide (k2 < l.length) = false := decide_eq_false hlt2
       have d4 : decide ((k2 : Int) < (l.length : Int)) = false := decide_eq_false (by omega)
       have HHI : Hid (hiOf l b = k2) := Lib.hid (hi_is HLO.out hlk hk2' hhi.out (by intro hj; omega))
       go_wp2
       go_quiet (fail)
       have hBq := below_drewN hb7 nq
       obtain ⟨wq, hwq⟩ : ∃ wq, wq = wr.drewN nq := ⟨_, rfl⟩
       rw [← hwq] at hBq ⊢
       clear hwq
       have hP8 := hP3.keep hBq
       have hBw8 := bstep hB3 hBq
       have hmid : midOf l b = (l.drop k).take (k2 - k) := by unfold midOf; rw [HLO.out, HHI.out]
       have hml : (midOf l b).length = k2 - k := by rw [mid_len, HLO.out, HHI.out]
       have hpl8 : (putL l b).length = l.length - (k2 - k) + 1 := by rw [put_len, HLO.out, HHI.out]
       have hAm : Apart (midOf l b) := by rw [hmid]; exact HA.out.sub _ _
       have hsl := HSL.out k k2 (by omega) (by omega)
       have hRm := fun W hW => HRB.out W hW k k2 (by omega) (by omega)
       rw [← hmid] at hRm
       have HM := Lib.hid (And.intro hml (And.intro hpl8 hAm))
       clear hmid hml hpl8 hAm
       have HRm := Lib.hid hRm
       clear hRm
       have hszX := (hBq).size
       have hneX : w1.heap.size ≠ wq.heap.size := by omega
       have hbx : w.heap.size ≤ wq.heap.size := hBw8.size
       have a0 : World.cell? wq ⟨w1.heap.size, 0, none⟩ = some (.int .i64 b.1) := hP8.cell 0
       have af0 := hP8.frozen 0
       have a1 : World.cell? wq ⟨w1.heap.size, 1, none⟩ = some (.slice B b.2.length d) := hP8.cell 1
       have af1 := hP8.frozen 1
       have afl := hP8.lt
       by_cases hbig : 256 < jTo (midOf l b) b - jFrom (midOf l b) b
       ·have HBIG := Lib.hid hbig
        clear hbig
        go_wp2
        go_region_held3 (fun w' => w'.cell? ⟨w1.heap.size, 0, none⟩ = some (.int .i64 b.1) ∧ w'.cell? ⟨w1.heap.size, 1, none⟩ = some (.slice B b.2.length d))
         (first | go_keep | exact ⟨hP9.cell 0, hP9.cell 1⟩ | exact ⟨(hP9.alloc _).cell 0, (hP9.alloc _).cell 1⟩ | exact ⟨((hP9.far (p := ⟨wq.heap.size, 0, none⟩) hneX _).far (p := ⟨wq.heap.size, 1, none⟩) hneX _).cell 0, ((hP9.far (p := ⟨wq.heap.size, 0, none⟩) hneX _).far (p := ⟨wq.heap.size, 1, none⟩) hneX _).cell 1⟩)
         ((first | (go_at_call 71; refine (join_no _ _ (midOf l b) b B d _ (HRm.out _ hBw8.drew) (hy.keep hBw8.drew) HM.out.2.2 (by have := HM.out.1; omega) HOK.out HBIG.out (k2 - k) HM.out.1).mono ?_; rintro e w9 ⟨rfl, hb9⟩; have hB9 : Below w3.heap.size w3 w9 := bstep (hBq).drew hb9; have hP9 := hP3.keep hB9; have hl9 := hP9.lt) | (go_at_call 71; refine (join_no _ _ (midOf l b) b B d _ (HRm.out _ (balloc hBw8 _).drew) (hy.keep (balloc hBw8 _).drew) HM.out.2.2 (by have := HM.out.1; omega) HOK.out HBIG.out (k2 - k) HM.out.1).mono ?_; rintro e w9 ⟨rfl, hb9⟩; have hB9 : Below w3.heap.size w3 w9 := bstep (balloc hBq _).drew hb9; have hP9 := hP3.keep hB9; have hl9 := hP9.lt; have hZ := ((Blk.new wq 83 #[.int .i64 0, .slice none 0 0]).drew).keep hb9; have hy1 := hZ.frozen 0; have hy2 := hZ.frozen 1; have hy3 : w9.cell? ⟨wq.heap.size, 0, none⟩ = some (.int .i64 0) := hZ.cell 0; have hy4 : w9.cell? ⟨wq.heap.size, 1, none⟩ = some (.slice none 0 0) := hZ.cell 1; have hy5 := hZ.lt)))
        all_goals go_wp2
        all_goals go_ret2
        all_goals exact RetB.nil (put_range HE.out HOK.out HAG.out HBIG.out) (by first | exact balloc (bstep hB3 hB9) _ | exact bstep hB3 hB9 | exact ((bstep hB3 hB9).setCell (p := ⟨wq.heap.size, 0, none⟩) hbx _).setCell (p := ⟨wq.heap.size, 1, none⟩) hbx _)
       ·have HBIG : Hid (jTo (midOf l b) b - jFrom (midOf l b) b ≤ 256) := Lib.hid (by omega)
        have hjl := jS_len_le HBIG.out
        clear hbig
        by_cases hmany : 64 < l.length - (k2 - k) + 1
        ·have dm : decide (64 < (l.length : Int) - ((k2 : Int) - (k : Int)) + 1) = true := decide_eq_true (by omega)
         have HMANY : Hid (64 < (putL l b).length) := Lib.hid (by rw [HM.out.2.1]; exact hmany)
         clear hmany
         go_wp2
         go_region_held3 (fun w' => w'.cell? ⟨w1.heap.size, 0, none⟩ = some (.int .i64 b.1) ∧ w'.cell? ⟨w1.heap.size, 1, none⟩ = some (.slice B b.2.length d))
          (first | go_keep | exact ⟨hP9.cell 0, hP9.cell 1⟩ | exact ⟨(hP9.alloc _).cell 0, (hP9.alloc _).cell 1⟩ | exact ⟨((hP9.far (p := ⟨wq.heap.size, 0, none⟩) hneX _).far (p := ⟨wq.heap.size, 1, none⟩) hneX _).cell 0, ((hP9.far (p := ⟨wq.heap.size, 0, none⟩) hneX _).far (p := ⟨wq.heap.size, 1, none⟩) hneX _).cell 1⟩)
          ((first | (go_at_call 71; refine (join_yes _ _ (midOf l b) b B d _ (HRm.out _ hBw8.drew) (hy.keep hBw8.drew) HM.out.2.2 (by have := HM.out.1; omega) HOK.out HBIG.out (k2 - k) HM.out.1).mono ?_; rintro e w9 ⟨g9, rfl, hg9, hJ9, hb9⟩; have hB9 : Below w3.heap.size w3 w9 := bstep (hBq).drew hb9; have hP9 := hP3.keep hB9; have hl9 := hP9.lt) | (go_at_call 71; refine (join_yes _ _ (midOf l b) b B d _ (HRm.out _ (balloc hBw8 _).drew) (hy.keep (balloc hBw8 _).drew) HM.out.2.2 (by have := HM.out.1; omega) HOK.out HBIG.out (k2 - k) HM.out.1).mono ?_; rintro e w9 ⟨g9, rfl, hg9, hJ9, hb9⟩; have hB9 : Below w3.heap.size w3 w9 := bstep (balloc hBq _).drew hb9; have hP9 := hP3.keep hB9; have hl9 := hP9.lt; have hZ := ((Blk.new wq 83 #[.int .i64 0, .slice none 0 0]).drew).keep hb9; have hy1 := hZ.frozen 0; have hy2 := hZ.frozen 1; have hy3 : w9.cell? ⟨wq.heap.size, 0, none⟩ = some (.int .i64 0) := hZ.cell 0; have hy4 : w9.cell? ⟨wq.heap.size, 1, none⟩ = some (.slice none 0 0) := hZ.cell 1; have hy5 := hZ.lt)))
         all_goals go_wp2
         all_goals go_ret2
         all_goals exact RetB.nil (put_many HE.out HOK.out HAG.out HBIG.out HMANY.out) (by first | exact balloc (bstep hB3 hB9) _ | exact bstep hB3 hB9 | exact ((bstep hB3 hB9).setCell (p := ⟨wq.heap.size, 0, none⟩) hbx _).setCell (p := ⟨wq.heap.size, 1, none⟩) hbx _)
        ·have dm : decide (64 < (l.length : Int) - ((k2 : Int) - (k : Int)) + 1) = false := decide_eq_false (by omega)
         have HMANY : Hid ((putL l b).length ≤ 64) := Lib.hid (by rw [HM.out.2.1]; omega)
         go_wp2
         go_region_held3 (fun w' => w'.cell? ⟨w1.heap.size, 0, none⟩ = some (.int .i64 b.1) ∧ w'.cell? ⟨w1.heap.size, 1, none⟩ = some (.slice B b.2.length d))
          (first | go_keep | exact ⟨hP9.cell 0, hP9.cell 1⟩ | exact ⟨(hP9.alloc _).cell 0, (hP9.alloc _).cell 1⟩ | exact ⟨((hP9.far (p := ⟨wq.heap.size, 0, none⟩) hneX _).far (p := ⟨wq.heap.size, 1, none⟩) hneX _).cell 0, ((hP9.far (p := ⟨wq.heap.size, 0, none⟩) hneX _).far (p := ⟨wq.heap.size, 1, none⟩) hneX _).cell 1⟩)
          ((first | (go_at_call 71; refine (join_yes _ _ (midOf l b) b B d _ (HRm.out _ hBw8.drew) (hy.keep hBw8.drew) HM.out.2.2 (by have := HM.out.1; omega) HOK.out HBIG.out (k2 - k) HM.out.1).mono ?_; rintro e w9 ⟨g9, rfl, hg9, hJ9, hb9⟩; have hB9 : Below w3.heap.size w3 w9 := bstep (hBq).drew hb9; have hP9 := hP3.keep hB9; have hl9 := hP9.lt) | (go_at_call 71; refine (join_yes _ _ (midOf l b) b B d _ (HRm.out _ (balloc hBw8 _).drew) (hy.keep (balloc hBw8 _).drew) HM.out.2.2 (by have := HM.out.1; omega) HOK.out HBIG.out (k2 - k) HM.out.1).mono ?_; rintro e w9 ⟨g9, rfl, hg9, hJ9, hb9⟩; have hB9 : Below w3.heap.size w3 w9 := bstep (balloc hBq _).drew hb9; have hP9 := hP3.keep hB9; have hl9 := hP9.lt; have hZ := ((Blk.new wq 83 #[.int .i64 0, .slice none 0 0]).drew).keep hb9; have hy1 := hZ.frozen 0; have hy2 := hZ.frozen 1; have hy3 : w9.cell? ⟨wq.heap.size, 0, none⟩ = some (.int .i64 0) := hZ.cell 0; have hy4 : w9.cell? ⟨wq.heap.size, 1, none⟩ = some (.slice none 0 0) := hZ.cell 1; have hy5 := hZ.lt)))
         ·have hBE := balloc hB9 (.cells #[.int .i64 (jFrom (midOf l b) b), .slice (some ⟨g9, 0, none⟩) (jS (midOf l b) b).length (jS (midOf l b) b).length] 83)
          have hJE := Blk.new w9 83 #[.int .i64 (jFrom (midOf l b) b), .slice (some ⟨g9, 0, none⟩) (jS (midOf l b) b).length (jS (midOf l b) b).length]
          have hSE := hJ9.alloc (.cells #[.int .i64 (jFrom (midOf l b) b), .slice (some ⟨g9, 0, none⟩) (jS (midOf l b) b).length (jS (midOf l b) b).length] 83)
          obtain ⟨wE, hwE⟩ : ∃ wE, wE = w9.alloc (.cells #[.int .i64 (jFrom (midOf l b) b), .slice (some ⟨g9, 0, none⟩) (jS (midOf l b) b).length (jS (midOf l b) b).length] 83) := ⟨_, rfl⟩
          rw [← hwE] at hBE hJE hSE ⊢
          have hg9' : w.heap.size ≤ g9 := by have h1 := hBw8.size; have h2 : wq.heap.size ≤ g9 := hg9; omega
          clear hwE hJ9 hb9 hg9
          have hBwE := bstep hB3 hBE
          obtain ⟨j0, hj0, hy0, hy1', hy2'⟩ := info_parts info_block
          obtain ⟨wM, hmk, hmo, hmg⟩ := run_make_own (P := Tryz.prog) wE w.heap.size 84 83 j0 _ 2 Tryz.underlying84 hj0 hy0 hy1' .i64 .i64 (l.length - (k2 - k) + 1) (by rw [hy2']; omega) (by unfold maxLen; omega) hBwE.size
          rw [show ((l.length - (k2 - k) + 1 : Nat) : Int) = (l.length : Int) - ((k2 : Int) - (k : Int)) + 1 by omega] at hmk
          have hsl0 := HSL0.out k (by omega)
          have hsl9 := HSL.out k2 l.length (by omega) (by omega)
          have hbM := below_none hmg
          have hBwM := bstep hBwE hbM
          have hJM := hJE.keep hbM
          have hSM := hSE.keep hbM
          have hsE := hBwE.size
          have hsM := hbM.size
          have hrb0 := HRB.out w (Below.refl _ _) 0 k (by omega) (by omega)
          have hrb9 := HRB.out w (Below.refl _ _) k2 l.length (by omega) (Nat.le_refl _)
          rw [List.drop_zero, Nat.sub_zero] at hrb0
          rw [List.take_of_length_le (by simp)] at hrb9
          have hal0 : ∀ x ∈ l.take k, x.2.length ≤ 1000000 := fun x hx2 => by obtain ⟨i, hi2, rfl⟩ := List.mem_iff_getElem.1 (List.mem_of_mem_take hx2); have := (HA.out.bd i hi2).2.2.2.1; omega
          have hal9 : ∀ x ∈ l.drop k2, x.2.length ≤ 1000000 := fun x hx2 => by obtain ⟨i, hi2, rfl⟩ := List.mem_iff_getElem.1 (List.mem_of_mem_drop hx2); have := (HA.out.bd i hi2).2.2.2.1; omega
          have HAL := Lib.hid (And.intro (And.intro hal0 hal9) (And.intro hrb0 hrb9))
          clear hal0 hal9 hrb0 hrb9
          have hjlt := hJE.lt
          have hglt := hSE.lt
          go_wp2_with fail
          refine (appendCopies_at w _ 0 [] [] _ _ (l.take k) _ k (by simp; omega) hmo Elems.nil rfl (by omega) HAL.out.2.1 (by omega) HAL.out.1.1 hBwM).mono ?_
          rintro _ w10 ⟨v10, raws10, rfl, hO10, hE10, hrl10, hkp10, how10, hss10, hB10⟩
          rw [Nat.zero_add] at hO10 hrl10
          have hJ10 := hkp10 _ _ _ hJM (own_apart (by omega))
          have hS10 := hkp10 _ _ _ hSM (own_apart (by omega))
          have hne10 : v10.ownBlock ≠ some g9 := by
           rcases how10 with h | ⟨H, h, hH⟩
           ·rw [h]; exact own_apart (by omega)
           ·rw [h]; intro h2; injection h2 with h2; omega
          have HKP := Lib.hid hkp10
          have HOW := Lib.hid how10
          have HRL := Lib.hid hrl10
          clear hkp10 how10 hrl10 hmk hmo hmg hJM hSM hbM hJE hSE
          have x0 : World.cell? w10 ⟨w9.heap.size, 0, none⟩ = some (.int .i64 (jFrom (midOf l b) b)) := hJ10.cell 0
          have xf0 := hJ10.frozen 0
          have x1 : World.cell? w10 ⟨w9.heap.size, 1, none⟩ = some (.slice (some ⟨g9, 0, none⟩) (jS (midOf l b) b).length (jS (midOf l b) b).length) := hJ10.cell 1
          have xf1 := hJ10.frozen 1
          have xfl := hJ10.lt
          have hs10 := hB10.size
          have hgl10 := hS10.lt
          have hjl10 := hJ10.lt
          go_wp2_with (at_builtin; refine wpList_append_lies _ rfl (.tmp 93) (.tmp 95) 84 rfl w.heap.size 83 j0 _ 2 32 Tryz.underlying84 hj0 hy0 hy1' hy2' rfl (by decide) _ k _ rfl (hO10.alloc _) ⟨w10.heap.size, 0, none⟩ 1 1 (encK (jFrom (midOf l b) b, .slice (some ⟨g9, 0, none⟩) (jS (midOf l b) b).length (jS (midOf l b) b).length)) rfl rfl (enc_news _ rfl) encK_one (by omega) (by unfold maxLen; omega) (by omega) (by simp; omega) (w10.heap.size + 1) (by simp) ?_; intro g11 c11 w11 hown11 hgrow11 hat11 hlt11)
          have hE11 := (hE10.keep (balloc (Below.refl _ _) (.cells #[.int .i64 (jFrom (midOf l b) b), .slice (some ⟨g9, 0, none⟩) (jS (midOf l b) b).length (jS (midOf l b) b).length] 83))).push (a := jFrom (midOf l b) b) (blk_RIo (hS10.alloc _) (by omega)) (Nat.le_refl _) (by intro _ b' off' e'; injection e' with e'; injection e' with e' _; subst e'; exact hne10) hgrow11 hat11 (by simp)
          have hB11 := own_below (balloc hB10 (.cells #[.int .i64 (jFrom (midOf l b) b), .slice (some ⟨g9, 0, none⟩) (jS (midOf l b) b).length (jS (midOf l b) b).length] 83)) (hO10.alloc _) hgrow11 (Nat.le_refl _) (by simp; omega)
          rw [← flat_snoc] at hown11
          clear x0 x1 xf0 xf1 xfl
          have hAC := appendCopies_at w (.slice (some ⟨g11, 0, none⟩) (k + 1) c11) (k + 1) _ _ _ (l.length - k2) (l.drop k2) w11 (l.length - k2) (by simp) hown11 hE11 (by have := HRL.out; simp; omega) (by omega) HAL.out.2.2 (by omega) HAL.out.1.2 hB11
          with_reducible refine hAC.mono ?_
          rintro _ w12 ⟨v12, raws12, rfl, hO12, hE12, hrl12, _, _, _, hB12⟩
          obtain ⟨A12, c12, rfl, hc12⟩ := own_shape' hO12
          have hpe : [] ++ l.take k ++ [(jFrom (midOf l b) b, jS (midOf l b) b)] ++ l.drop k2 = putL l b := by
           unfold putL
           rw [List.nil_append, HLO.out, HHI.out]
          rw [hpe] at hE12
          have hR12 := own_RBo hO12 hE12 hrl12
          have hlen12 : (putL l b).length = k + 1 + (l.length - k2) := by rw [HM.out.2.1]; omega
          clear hpe hO12 hE12 hrl12
          go_wp2
          go_ret2
          exact RetB.ok (put_ok HE.out HOK.out HAG.out HBIG.out HMANY.out) hlen12 hR12 hc12 hB12
         ·have hg9a : wq.heap.size + 1 ≤ g9 := by have h2 : (wq.alloc (.cells #[.int .i64 0, .slice none 0 0] 83)).heap.size ≤ g9 := hg9; simpa using h2
          have hg9' : w.heap.size ≤ g9 := by have h1 := hBw8.size; omega
          have hg9n : g9 ≠ wq.heap.size := by omega
          have hBE := (hB9.setCell (p := ⟨wq.heap.size, 0, none⟩) hszX (.int .i64 (jFrom (midOf l b) b))).setCell (p := ⟨wq.heap.size, 1, none⟩) hszX (.slice (some ⟨g9, 0, none⟩) (jS (midOf l b) b).length (jS (midOf l b) b).length)
          have hJE := (hZ.put 0 (.int .i64 (jFrom (midOf l b) b))).put 1 (.slice (some ⟨g9, 0, none⟩) (jS (midOf l b) b).length (jS (midOf l b) b).length)
          have hSE := (hJ9.far (p := ⟨wq.heap.size, 0, none⟩) hg9n (.int .i64 (jFrom (midOf l b) b))).far (p := ⟨wq.heap.size, 1, none⟩) hg9n (.slice (some ⟨g9, 0, none⟩) (jS (midOf l b) b).length (jS (midOf l b) b).length)
          obtain ⟨wE, hwE⟩ : ∃ wE, wE = (w9.setCell ⟨wq.heap.size, 0, none⟩ (.int .i64 (jFrom (midOf l b) b))).setCell ⟨wq.heap.size, 1, none⟩ (.slice (some ⟨g9, 0, none⟩) (jS (midOf l b) b).length (jS (midOf l b) b).length) := ⟨_, rfl⟩
          rw [← hwE] at hBE hJE hSE ⊢
          clear hwE hJ9 hb9 hg9 hy1 hy2 hy3 hy4
          have hBwE := bstep hB3 hBE
          obtain ⟨j0, hj0, hy0, hy1', hy2'⟩ := info_parts info_block
          obtain ⟨wM, hmk, hmo, hmg⟩ := run_make_own (P := Tryz.prog) wE w.heap.size 84 83 j0 _ 2 Tryz.underlying84 hj0 hy0 hy1' .i64 .i64 (l.length - (k2 - k) + 1) (by rw [hy2']; omega) (by unfold maxLen; omega) hBwE.size
          rw [show ((l.length - (k2 - k) + 1 : Nat) : Int) = (l.length : Int) - ((k2 : Int) - (k : Int)) + 1 by omega] at hmk
          have hsl0 := HSL0.out k (by omega)
          have hsl9 := HSL.out k2 l.length (by omega) (by omega)
          have hbM := below_none hmg
          have hBwM := bstep hBwE hbM
          have hJM := hJE.keep hbM
          have hSM := hSE.keep hbM
          have hsE := hBwE.size
          have hsM := hbM.size
          have hrb0 := HRB.out w (Below.refl _ _) 0 k (by omega) (by omega)
          have hrb9 := HRB.out w (Below.refl _ _) k2 l.length (by omega) (Nat.le_refl _)
          rw [List.drop_zero, Nat.sub_zero] at hrb0
          rw [List.take_of_length_le (by simp)] at hrb9
          have hal0 : ∀ x ∈ l.take k, x.2.length ≤ 1000000 := fun x hx2 => by obtain ⟨i, hi2, rfl⟩ := List.mem_iff_getElem.1 (List.mem_of_mem_take hx2); have := (HA.out.bd i hi2).2.2.2.1; omega
          have hal9 : ∀ x ∈ l.drop k2, x.2.length ≤ 1000000 := fun x hx2 => by obtain ⟨i, hi2, rfl⟩ := List.mem_iff_getElem.1 (List.mem_of_mem_drop hx2); have := (HA.out.bd i hi2).2.2.2.1; omega
          have HAL := Lib.hid (And.intro (And.intro hal0 hal9) (And.intro hrb0 hrb9))
          clear hal0 hal9 hrb0 hrb9
          have hjlt := hJE.lt
          have hglt := hSE.lt
          go_wp2_with fail
          refine (appendCopies_at w _ 0 [] [] _ _ (l.take k) _ k (by simp; omega) hmo Elems.nil rfl (by omega) HAL.out.2.1 (by omega) HAL.out.1.1 hBwM).mono ?_
          rintro _ w10 ⟨v10, raws10, rfl, hO10, hE10, hrl10, hkp10, how10, hss10, hB10⟩
          rw [Nat.zero_add] at hO10 hrl10
          have hJ10 := hkp10 _ _ _ hJM (own_apart (by omega))
          have hS10 := hkp10 _ _ _ hSM (own_apart (by omega))
          have hne10 : v10.ownBlock ≠ some g9 := by
           rcases how10 with h | ⟨H, h, hH⟩
           ·rw [h]; exact own_apart (by omega)
           ·rw [h]; intro h2; injection h2 with h2; omega
          have HKP := Lib.hid hkp10
          have HOW := Lib.hid how10
          have HRL := Lib.hid hrl10
          clear hkp10 how10 hrl10 hmk hmo hmg hJM hSM hbM hJE hSE
          have x0 : World.cell? w10 ⟨wq.heap.size, 0, none⟩ = some (.int .i64 (jFrom (midOf l b) b)) := hJ10.cell 0
          have xf0 := hJ10.frozen 0
          have x1 : World.cell? w10 ⟨wq.heap.size, 1, none⟩ = some (.slice (some ⟨g9, 0, none⟩) (jS (midOf l b) b).length (jS (midOf l b) b).length) := hJ10.cell 1
          have xf1 := hJ10.frozen 1
          have xfl := hJ10.lt
          have hs10 := hB10.size
          have hgl10 := hS10.lt
          have hjl10 := hJ10.lt
          go_wp2_with (at_builtin; refine wpList_append_lies _ rfl (.tmp 93) (.tmp 95) 84 rfl w.heap.size 83 j0 _ 2 32 Tryz.underlying84 hj0 hy0 hy1' hy2' rfl (by decide) _ k _ rfl (hO10.alloc _) ⟨w10.heap.size, 0, none⟩ 1 1 (encK (jFrom (midOf l b) b, .slice (some ⟨g9, 0, none⟩) (jS (midOf l b) b).length (jS (midOf l b) b).length)) rfl rfl (enc_news _ rfl) encK_one (by omega) (by unfold maxLen; omega) (by omega) (by simp; omega) (w10.heap.size + 1) (by simp) ?_; intro g11 c11 w11 hown11 hgrow11 hat11 hlt11)
          have hE11 := (hE10.keep (balloc (Below.refl _ _) (.cells #[.int .i64 (jFrom (midOf l b) b), .slice (some ⟨g9, 0, none⟩) (jS (midOf l b) b).length (jS (midOf l b) b).length] 83))).push (a := jFrom (midOf l b) b) (blk_RIo (hS10.alloc _) (by omega)) (Nat.le_refl _) (by intro _ b' off' e'; injection e' with e'; injection e' with e' _; subst e'; exact hne10) hgrow11 hat11 (by simp)
          have hB11 := own_below (balloc hB10 (.cells #[.int .i64 (jFrom (midOf l b) b), .slice (some ⟨g9, 0, none⟩) (jS (midOf l b) b).length (jS (midOf l b) b).length] 83)) (hO10.alloc _) hgrow11 (Nat.le_refl _) (by simp; omega)
          rw [← flat_snoc] at hown11
          clear x0 x1 xf0 xf1 xfl
          have hAC := appendCopies_at w (.slice (some ⟨g11, 0, none⟩) (k + 1) c11) (k + 1) _ _ _ (l.length - k2) (l.drop k2) w11 (l.length - k2) (by simp) hown11 hE11 (by have := HRL.out; simp; omega) (by omega) HAL.out.2.2 (by omega) HAL.out.1.2 hB11
          with_reducible refine hAC.mono ?_
          rintro _ w12 ⟨v12, raws12, rfl, hO12, hE12, hrl12, _, _, _, hB12⟩
          obtain ⟨A12, c12, rfl, hc12⟩ := own_shape' hO12
          have hpe : [] ++ l.take k ++ [(jFrom (midOf l b) b, jS (midOf l b) b)] ++ l.drop k2 = putL l b := by
           unfold putL
           rw [List.nil_append, HLO.out, HHI.out]
          rw [hpe] at hE12
          have hR12 := own_RBo hO12 hE12 hrl12
          have hlen12 : (putL l b).length = k + 1 + (l.length - k2) := by rw [HM.out.2.1]; omega
          clear hpe hO12 hE12 hrl12
          go_wp2
          go_ret2
          exact RetB.ok (put_ok HE.out HOK.out HAG.out HBIG.out HMANY.out) hlen12 hR12 hc12 hB12
  ·have hag' : refAg l b = false := by simpa using hag
   have HAG := Lib.hid hag'
   rw [hag'] at hALL
   have hV := fun w hx => valid_any b.1 B d b.2 w hx hlb
   rw [eok] at hV
   clear hok hag hag' eok
   go_enter Tryz.func36, Tryz.ntmps36
   go_wp2_with fail
   refine (alignCheck_any _ _ _ _ (hx.keep hb0) hl hall).mono ?_
   rintro _ w1 ⟨rfl, hb1⟩
   have hB1 := bstep hb0 hb1
   have hQ1 := hQ0.keep hb1
   have a0 : World.cell? w1 ⟨w.heap.size, 0, none⟩ = some (.int .i64 b.1) := hQ1.cell 0
   have af0 := hQ1.frozen 0
   have a1 : World.cell? w1 ⟨w.heap.size, 1, none⟩ = some (.slice B b.2.length d) := hQ1.cell 1
   have af1 := hQ1.frozen 1
   have afl := hQ1.lt
   have hP1 := Blk.new w1 125 #[.int .i64 b.1, .slice B b.2.length d]
   have hB1' := balloc hB1 (.cells #[.int .i64 b.1, .slice B b.2.length d] 125)
   go_wp2_with fail
   refine (hV _ (hy.keep hB1')).mono ?_
   rintro _ w2 ⟨rfl, hb2⟩
   have hP2 := hP1.keep hb2
   have hB2 := bstep hB1' hb2
   clear a0 a1 af0 af1 afl hb1 hb2 hB1' hP1 hQ1 hV
   have a0 : World.cell? w2 ⟨w1.heap.size, 0, none⟩ = some (.int .i64 b.1) := hP2.cell 0
   have af0 := hP2.frozen 0
   have a1 : World.cell? w2 ⟨w1.heap.size, 1, none⟩ = some (.slice B b.2.length d) := hP2.cell 1
   have af1 := hP2.frozen 1
   have afl := hP2.lt
   go_wp2_with fail
   refine (hALL _ _ _ (hx.keep hB2) (hy.keep hB2)).mono ?_
   rintro _ w3 ⟨rfl, hb3⟩
   go_wp2
   go_ret2
   exact RetB.nil (put_twice HE.out HOK.out HAG.out) (bstep hB2 hb3)
 ·have hok' : okB b = false := by simpa using hok
  have HOK := Lib.hid hok'
  have hV := fun w hx => valid_any b.1 B d b.2 w hx hlb
  have eok : okB (b.1, b.2) = okB b := rfl
  rw [eok, hok'] at hV
  clear hok hok' eok
  go_enter Tryz.func36, Tryz.ntmps36
  go_wp2_with fail
  refine (alignCheck_any _ _ _ _ (hx.keep hb0) hl hall).mono ?_
  rintro _ w1 ⟨rfl, hb1⟩
  have hB1 := bstep hb0 hb1
  have hQ1 := hQ0.keep hb1
  have a0 : World.cell? w1 ⟨w.heap.size, 0, none⟩ = some (.int .i64 b.1) := hQ1.cell 0
  have af0 := hQ1.frozen 0
  have a1 : World.cell? w1 ⟨w.heap.size, 1, none⟩ = some (.slice B b.2.length d) := hQ1.cell 1
  have af1 := hQ1.frozen 1
  have afl := hQ1.lt
  have hB1' := balloc hB1 (.cells #[.int .i64 b.1, .slice B b.2.length d] 125)
  go_wp2_with fail
  refine (hV _ (hy.keep hB1')).mono ?_
  rintro _ w2 ⟨rfl, hb2⟩
  go_wp2
  go_ret2
  exact RetB.nil (put_bad HE.out HOK.out) (bstep hB1' hb2)
end Aln
end Go.Proofs.YtelkokcnedbmeaaGreat
