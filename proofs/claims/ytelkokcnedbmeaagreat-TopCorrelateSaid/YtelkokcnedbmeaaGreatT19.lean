/-
  Parts of the proof of TopCorrelate: TaO TaP.
-/
import Derived.Test.YtelkokcnedbmeaaGreatT18
namespace Go.Proofs.YtelkokcnedbmeaaGreat
open Go.RowKit
set_option maxRecDepth 20000
set_option linter.unusedVariables false
namespace Aln
theorem below_none {W w1 : World} (hg : W.grownBy w1 none) : Below W.heap.size W w1 := (Below.refl _ _).grown hg (Nat.le_refl _) (fun k hk => by cases hk)
theorem own_drew {w : World} {base : Nat} {e : TypeId} {s n : Nat} {v : Value} {xs : List Value} (h : w.ownsRow base e s v n xs) : w.drew.ownsRow base e s v n xs := World.ownsRow.drew h
theorem Elems.drew {base : Nat} {w : World} {own : Option Nat} {raws : List (Int × Value)} {l : List (Int × List Int)} (h : Elems base w own raws l) : Elems base w.drew own raws l := h
set_option maxHeartbeats 8000000 in
theorem appendCopies_any (w0 : World) (va : Value) (n : Nat) (raws : List (Int × Value)) (l : List (Int × List Int)) (A : Option Addr) (c : Nat) (m : List (Int × List Int)) (w : World) (hO : w.ownsRow w0.heap.size 83 2 va n (raws.flatMap encK)) (hE : Elems w0.heap.size w va.ownBlock raws l) (hn : raws.length = n) (hn2 : n ≤ 100) (hx : RB w0 A m) (hl : m.length ≤ 64) (hall : ∀ b ∈ m, b.2.length ≤ 1000000) (hb : Below w0.heap.size w0 w) :
 Calls Tryz.prog 72 #[va, .slice A m.length c] w fun e w' => ∃ v' raws', e = .returned v' ∧ w'.ownsRow w0.heap.size 83 2 v' (n + m.length) (raws'.flatMap encK) ∧ Elems w0.heap.size w' v'.ownBlock raws' (l ++ m) ∧ raws'.length = n + m.length ∧ (∀ g t cs, Blk w g t cs → va.ownBlock ≠ some g → Blk w' g t cs) ∧ (v'.ownBlock = va.ownBlock ∨ ∃ H, v'.ownBlock = some H ∧ w.heap.size ≤ H) ∧ w.heap.size ≤ w'.heap.size ∧ Below w0.heap.size w0 w' := by
 have HALL := Lib.hid hall
 have HN := Lib.hid hn
 clear hall hn
 obtain ⟨i0, hi0, hz0, hz1, hz2⟩ := info_parts info_int
 obtain ⟨j0, hj0, hy0, hy1, hy2⟩ := info_parts info_block
 go_enter Tryz.func72, Tryz.ntmps72
 go_wp2
 go_loopg [0, 6, 9] m.length (fun gk v _ i wr => ∃ (k : Nat) (raws : List (Int × Value)), k + gk = m.length ∧ i = .int .i64 k ∧ wr.ownsRow w0.heap.size 83 2 v (n + k) (raws.flatMap encK) ∧ Elems w0.heap.size wr v.ownBlock raws (l ++ m.take k) ∧ Hid (raws.length = n + k) ∧ Hid ((∀ g t cs, Blk w g t cs → va.ownBlock ≠ some g → Blk wr g t cs) ∧ (v.ownBlock = va.ownBlock ∨ ∃ H, v.ownBlock = some H ∧ w.heap.size ≤ H)) ∧ w.heap.size ≤ wr.heap.size ∧ Below w0.heap.size w0 wr)
 case atStart => exact ⟨0, raws, by omega, rfl, hO, by simpa using hE, HN, Lib.hid ⟨fun g t cs h _ => h, .inl rfl⟩, Nat.le_refl _, hb⟩
 case round =>
  clear hO hE hb HN
  obtain ⟨k, raws, hk, rfl, hO, hE, HRL, HKP, hww, hb⟩ := hrel
  have hk' : k ≤ m.length := by omega
  have HK := Lib.hid hk
  clear hk
  have hsz := hb.size
  by_cases hlt : k < m.length
  ·obtain ⟨b1, off1, A1, c1, rfl, hlw, hw1, hw2, hr, hcap⟩ := hx.at_ hlt
   have hc1 := (hb.cell (p := ⟨b1, _, none⟩) hlw).trans hw1
   have hc2 := (hb.cell (p := ⟨b1, _, none⟩) hlw).trans hw2
   have hln := HALL.out _ (List.getElem_mem hlt)
   have hV := Blk.new wr 83 #[.int .i64 m[k].1, .slice A1 m[k].2.length c1]
   have hb' := balloc hb (.cells #[.int .i64 m[k].1, .slice A1 m[k].2.length c1] 83)
   have hO' := hO.alloc (.cells #[.int .i64 m[k].1, .slice A1 m[k].2.length c1] 83)
   have hE' := hE.keep (balloc (Below.refl _ _) (.cells #[.int .i64 m[k].1, .slice A1 m[k].2.length c1] 83))
   have HT : Hid (l ++ m.take (k + 1) = (l ++ m.take k) ++ [(m[k].1, m[k].2)]) := Lib.hid (by rw [List.take_succ_eq_append_getElem hlt, List.append_assoc])
   go_wp2
   go_region_held3 (fun w' => w'.cell? ⟨wr.heap.size, 0, none⟩ = some (.int .i64 m[k].1) ∧ w'.cell? ⟨wr.heap.size, 1, none⟩ = some (.slice A1 m[k].2.length c1))
    (first | go_keep | exact ⟨hV1.cell 0, hV1.cell 1⟩ | exact ⟨hV2.cell 0, hV2.cell 1⟩ | exact ⟨hV4.cell 0, hV4.cell 1⟩)
    ((first
      |(refine step_clone_RI _ (by rfl) (.const (.slice none 0 0)) (.tmp 17) 22 (by rfl) (wr.heap.size + 1) 3 8 Tryz.underlying22 hi0 hz0 hz1 hz2 rfl .i64 (.slice none 0 0) (by rfl) (World.ownsRow_nil _ _ _ _) A1 c1 m[k].2 (by rfl) (hr.keep hb'.drew) (by unfold maxLen; omega) (by omega) (by simp [World.drew]) ?_; intro A3 c3 w3 hc3 hown3 hgrow3; have hbn := below_none hgrow3; have hV1 := hV.drew.keep hbn; have hO3 := own_keep (own_drew hO') hbn; have hE3 := (Elems.drew hE').keep hbn; have r3 := own_RIo hown3; have hB3 : Below w0.heap.size w0 w3 := bstep hb'.drew hbn; have hV2 := hV1.alloc (.cells #[.int .i64 m[k].1, .slice A3 m[k].2.length c3] 83); have hs3 := hB3.size; have hVl := hV1.lt)
      |(refine step_append_lies _ (by rfl) (.tmp 13) (.tmp 20) _ (by rfl) w0.heap.size 83 j0 _ 2 32 Tryz.underlying84 hj0 hy0 hy1 hy2 rfl (by omega) _ (n + k) (raws.flatMap encK) (by rfl) (hO3.alloc _) ⟨w3.heap.size, 0, none⟩ 1 1 (encK (m[k].1, .slice A3 m[k].2.length c3)) (by rfl) (by rfl) (enc_news _ rfl) encK_one (by omega) (by unfold maxLen; omega) (by omega) (by simp; omega) (w3.heap.size + 1) (by simp) ?_; intro g4 c4 w4 hown4 hgrow4 hat4 hlt4; have hV4 := hV2.grown hgrow4 (fun h2 => by have := (hO.lt _ h2.symm).2; omega))))
   have hne := r3.apart hO (by omega)
   have hE4 := (hE3.keep (balloc (Below.refl _ _) (.cells #[.int .i64 m[k].1, .slice A3 m[k].2.length c3] 83))).push (a := m[k].1) ((r3.mono (by omega)).keep (balloc (Below.refl _ _) (.cells #[.int .i64 m[k].1, .slice A3 m[k].2.length c3] 83))) hc3 hne hgrow4 hat4 (by simp)
   have hB4 := own_below (balloc hB3 (.cells #[.int .i64 m[k].1, .slice A3 m[k].2.length c3] 83)) (hO3.alloc _) hgrow4 (Nat.le_refl _) (by simp; omega)
   have hww4 : w.heap.size ≤ w4.heap.size := by have := hgrow4.size; have := hbn.size; simp [World.drew] at *; omega
   have HKP4 : Hid ((∀ g t cs, Blk w g t cs → va.ownBlock ≠ some g → Blk w4 g t cs) ∧ ((Value.slice (some ⟨g4, 0, none⟩) (n + k + 1) c4).ownBlock = va.ownBlock ∨ ∃ H, (Value.slice (some ⟨g4, 0, none⟩) (n + k + 1) c4).ownBlock = some H ∧ w.heap.size ≤ H)) := Lib.hid (by
    obtain ⟨kp, ow⟩ := HKP.out
    constructor
    ·intro g t cs h hne2
     have h1 := (((kp g t cs h hne2).alloc (.cells #[.int .i64 m[k].1, .slice A1 m[k].2.length c1] 83)).drew).keep hbn
     refine (h1.alloc (.cells #[.int .i64 m[k].1, .slice A3 m[k].2.length c3] 83)).grown hgrow4 (fun h3 => ?_)
     rcases ow with ow | ⟨H, ow, hH⟩
     ·exact hne2 (by rw [← ow]; exact h3.symm)
     ·rw [ow] at h3
      injection h3 with h3
      have := h.lt
      omega
    ·rcases hat4 with h4 | h4
     ·rcases ow with ow | ⟨H, ow, hH⟩
      ·exact .inl (by rw [← ow, h4]; rfl)
      ·exact .inr ⟨H, by rw [← ow, h4]; rfl, hH⟩
     ·exact .inr ⟨g4, rfl, by omega⟩)
   go_wp2
   go_roundg (gk - 1)
   case rel => exact ⟨k + 1, raws ++ [(m[k].1, .slice A3 m[k].2.length c3)], by have := HK.out; omega, by go_num, by rw [flat_snoc]; exact hown4, by rw [HT.out]; exact hE4, Lib.hid (by have := HRL.out; simp; omega), HKP4, hww4, hB4⟩
   case measure => have := HK.out; omega
  ·obtain rfl : k = m.length := by omega
   rw [List.take_length] at hE
   go_wp2
   go_ret
   exact ⟨_, raws, rfl, hO, hE, HRL.out, HKP.out.1, HKP.out.2, hww, hb⟩
theorem appendCopies_at (w0 : World) (va : Value) (n : Nat) (raws : List (Int × Value)) (l : List (Int × List Int)) (A : Option Addr) (c : Nat) (m : List (Int × List Int)) (w : World) (k : Nat) (hk : m.length = k) (hO : w.ownsRow w0.heap.size 83 2 va n (raws.flatMap encK)) (hE : Elems w0.heap.size w va.ownBlock raws l) (hn : raws.length = n) (hn2 : n ≤ 100) (hx : RB w0 A m) (hl : k ≤ 64) (hall : ∀ b ∈ m, b.2.length ≤ 1000000) (hb : Below w0.heap.size w0 w) :
 Calls Tryz.prog 72 #[va, .slice A k c] w fun e w' => ∃ v' raws', e = .returned v' ∧ w'.ownsRow w0.heap.size 83 2 v' (n + k) (raws'.flatMap encK) ∧ Elems w0.heap.size w' v'.ownBlock raws' (l ++ m) ∧ raws'.length = n + k ∧ (∀ g t cs, Blk w g t cs → va.ownBlock ≠ some g → Blk w' g t cs) ∧ (v'.ownBlock = va.ownBlock ∨ ∃ H, v'.ownBlock = some H ∧ w.heap.size ≤ H) ∧ w.heap.size ≤ w'.heap.size ∧ Below w0.heap.size w0 w' := by
 subst hk
 exact appendCopies_any w0 va n raws l A c m w hO hE hn hn2 hx hl hall hb
end Aln
end Go.Proofs.YtelkokcnedbmeaaGreat
namespace Go.Proofs.YtelkokcnedbmeaaGreat
open Go.RowKit
set_option maxRecDepth 20000
set_option linter.unusedVariables false
namespace Aln
def subA (A : Option Addr) (lo m : Nat) : Option Addr := if m = lo then A else A.map (fun a => a.add (lo * 2))
theorem size_block : (sizeOf (Tryz.prog.elem 84)).run Tryz.prog = fun w => .ok 2 w := by
 funext w
 have h : Tryz.prog.elem 84 = 83 := by kernel_rfl
 obtain ⟨j0, hj0, hy0, hy1, hy2⟩ := info_parts info_block
 rw [h]
 simp [sizeOf, typeInfo, hj0, hy1]
theorem und_blocks : Tryz.prog.underlying 84 = some (.slice (Tryz.prog.elem 84)) := by kernel_rfl
theorem sub_run (A : Option Addr) (len cap lo hi mx : Nat) (h1 : lo ≤ hi) (h2 : hi ≤ mx) (h3 : mx ≤ cap) (w : World) :
 (Instr.slice 84 (.slice A len cap) (some (.int .i64 (lo : Int))) (some (.int .i64 (hi : Int))) (some (.int .i64 (mx : Int)))).run Tryz.prog w = .ok (.slice (subA A lo mx) (hi - lo) (mx - lo)) w := by
 rw [run_slice_lhm w _ _ _ _ und_blocks .i64 .i64 .i64 lo hi mx (by omega) (by omega) (by omega) (by omega), size_block]
 simp [sliced, subA, Result.andThen]
theorem sub_run0 (A : Option Addr) (len cap hi mx : Nat) (h2 : hi ≤ mx) (h3 : mx ≤ cap) (w : World) :
 (Instr.slice 84 (.slice A len cap) none (some (.int .i64 (hi : Int))) (some (.int .i64 (mx : Int)))).run Tryz.prog w = .ok (.slice (subA A 0 mx) hi mx) w := by
 rw [run_slice_hm w _ _ _ _ und_blocks .i64 .i64 hi mx (by omega) (by omega) (by omega), size_block]
 simp [sliced, subA, Result.andThen]
theorem RB.sub {w : World} {A : Option Addr} {l : List (Int × List Int)} (h : RB w A l) {lo hi mx : Nat} (h1 : lo ≤ hi) (h2 : hi ≤ l.length) (h3 : hi ≤ mx) : RB w (subA A lo mx) ((l.drop lo).take (hi - lo)) := by
 intro h0
 have hlen : ((l.drop lo).take (hi - lo)).length = hi - lo := by simp; omega
 rw [hlen] at h0
 obtain ⟨b, off, rfl, hlt, hc⟩ := h (by omega)
 refine ⟨b, off + lo * 2, ?_, hlt, fun j hj => ?_⟩
 ·unfold subA
  rw [if_neg (by omega)]
  simp [Addr.add]
 ·rw [hlen] at hj
  obtain ⟨k1, A', c', k2, k3, k4⟩ := hc (lo + j) (by omega)
  have e : ((l.drop lo).take (hi - lo))[j]'(by rw [hlen]; exact hj) = l[lo + j]'(by omega) := by simp
  rw [e]
  have e1 : off + lo * 2 + j * 2 = off + (lo + j) * 2 := by omega
  rw [e1]
  exact ⟨k1, A', c', k2, k3, k4⟩
def heads {α : Type} (p : α → Bool) (l : List α) : Nat := (l.takeWhile p).length
theorem heads_eq {α : Type} {p : α → Bool} {l : List α} {k : Nat} (hk : k ≤ l.length) (h : ∀ j (hj : j < l.length), j < k → p l[j] = true) (h2 : ∀ hj : k < l.length, p l[k] = false) : heads p l = k := by
 unfold heads
 induction l generalizing k with
 | nil => simp at hk; subst hk; rfl
 | cons a l ih =>
  cases k with
  | zero =>
   have := h2 (by simp)
   simp only [List.getElem_cons_zero] at this
   rw [List.takeWhile_cons, this]
   rfl
  | succ k =>
   have h3 := h 0 (by simp) (by omega)
   simp only [List.getElem_cons_zero] at h3
   rw [List.takeWhile_cons, h3]
   simp only [if_true, List.length_cons]
   rw [ih (by simpa using hk) (fun j hj hjk => h (j + 1) (Nat.succ_lt_succ hj) (by omega)) (fun hj => h2 (Nat.succ_lt_succ hj))]
def loOf (l : List (Int × List Int)) (b : Int × List Int) : Nat := heads (fun x => decide (endB x < b.1)) l
def hiOf (l : List (Int × List Int)) (b : Int × List Int) : Nat := loOf l b + heads (fun x => decide (x.1 ≤ endB b)) (l.drop (loOf l b))
def midOf (l : List (Int × List Int)) (b : Int × List Int) : List (Int × List Int) := (l.drop (loOf l b)).take (hiOf l b - loOf l b)
def putL (l : List (Int × List Int)) (b : Int × List Int) : List (Int × List Int) := l.take (loOf l b) ++ [(jFrom (midOf l b) b, jS (midOf l b) b)] ++ l.drop (hiOf l b)
def putS (l : List (Int × List Int)) (b : Int × List Int) : List (Int × List Int) × Int :=
 if recErr l ≠ 0 then ([], recErr l) else if okB b = false then ([], 8) else if refAg l b = false then ([], 14)
 else if 256 < jTo (midOf l b) b - jFrom (midOf l b) b then ([], 16) else if 64 < (putL l b).length then ([], 4) else (putL l b, 0)
theorem put_err {l : List (Int × List Int)} {b : Int × List Int} (h : ¬ recErr l = 0) : putS l b = ([], recErr l) := by simp [putS, h]
theorem put_bad {l : List (Int × List Int)} {b : Int × List Int} (h : recErr l = 0) (h2 : okB b = false) : putS l b = ([], 8) := by simp [putS, h, h2]
theorem put_twice {l : List (Int × List Int)} {b : Int × List Int} (h : recErr l = 0) (h2 : okB b = true) (h3 : refAg l b = false) : putS l b = ([], 14) := by simp [putS, h, h2, h3]
theorem put_range {l : List (Int × List Int)} {b : Int × List Int} (h : recErr l = 0) (h2 : okB b = true) (h3 : refAg l b = true) (h4 : 256 < jTo (midOf l b) b - jFrom (midOf l b) b) : putS l b = ([], 16) := by simp [putS, h, h2, h3, h4]
theorem put_many {l : List (Int × List Int)} {b : Int × List Int} (h : recErr l = 0) (h2 : okB b = true) (h3 : refAg l b = true) (h4 : jTo (midOf l b) b - jFrom (midOf l b) b ≤ 256) (h5 : 64 < (putL l b).length) : putS l b = ([], 4) := by
 have : ¬ 256 < jTo (midOf l b) b - jFrom (midOf l b) b := by omega
 simp [putS, h, h2, h3, this, h5]
theorem put_ok {l : List (Int × List Int)} {b : Int × List Int} (h : recErr l = 0) (h2 : okB b = true) (h3 : refAg l b = true) (h4 : jTo (midOf l b) b - jFrom (midOf l b) b ≤ 256) (h5 : (putL l b).length ≤ 64) : putS l b = (putL l b, 0) := by
 have h6 : ¬ 256 < jTo (midOf l b) b - jFrom (midOf l b) b := by omega
 have h7 : ¬ 64 < (putL l b).length := by omega
 simp [putS, h, h2, h3, h6, h7]
def RetB (w : World) (r : List (Int × List Int) × Int) (e : Ending) (w' : World) : Prop :=
 ∃ A c, e = .returned (.tuple #[.slice A r.1.length c, .int .i64 r.2]) ∧ RBo w.heap.size w' A r.1 ∧ r.1.length ≤ c ∧ Below w.heap.size w w'
theorem RetB.nil {w w' : World} {x : Int} {r : List (Int × List Int) × Int} (hr : r = ([], x)) (hb : Below w.heap.size w w') : RetB w r (.returned (.tuple #[.slice none 0 0, .int .i64 x])) w' := by
 subst hr
 exact ⟨none, 0, rfl, fun h => absurd h (by simp), by simp, hb⟩
theorem Apart.sub {l : List (Int × List Int)} (h : Apart l) (lo n : Nat) : Apart ((l.drop lo).take n) := by
 constructor
 ·intro j hj
  have hj' : lo + j < l.length := by simp at hj; omega
  have e : ((l.drop lo).take n)[j] = l[lo + j] := by simp
  rw [e]
  exact h.1 _ hj'
 ·intro j hj
  have hj' : lo + j + 1 < l.length := by simp at hj; omega
  have e : ((l.drop lo).take n)[j]'(by omega) = l[lo + j] := by simp
  have e2 : ((l.drop lo).take n)[j + 1] = l[lo + j + 1] := by simp [Nat.add_assoc]
  rw [e, e2]
  exact h.2 _ hj'
end Aln
end Go.Proofs.YtelkokcnedbmeaaGreat
