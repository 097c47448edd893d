/-
  Contract of the reference's Merge.
-/
import Derived.Test.YtdekbncpodjgnaaAccY
import Derived.Deep.DeepCutAuto
namespace Go.Proofs.Ytdekbncpodjgnaa
open Go.RowKit Runs Lagc Reg
set_option linter.unusedVariables false
set_option linter.unusedSimpArgs false

/-- The address lies not in block g. -/
def Off (g : Nat) (A : Option Addr) : Prop := ∀ x : Addr, A = some x → x.block ≠ g
theorem RL.off {w : World} {A : Option Addr} {l : List (Int × Int)} (h : RL w A l) {g : Nat} (hf : 0 < l.length → Off g A) (i : Nat) (u : Value) : RL (w.setCell ⟨g, i, none⟩ u) A l := by
  intro h0
  obtain ⟨b, off, e, hlt, hc⟩ := h h0
  have hb := hf h0 _ e
  simp only at hb
  have hne : ∀ k, (w.setCell ⟨g, i, none⟩ u).cell? ⟨b, k, none⟩ = w.cell? ⟨b, k, none⟩ := fun k => by
    have h1 := Below.heap_setCell w ⟨g, i, none⟩ u b hb
    simp [World.cell?, h1]
  refine ⟨b, off, e, by simpa [World.setCell] using hlt, fun j hj => ?_⟩
  rw [hne, hne]
  exact hc j hj
theorem RL.new_off {w : World} {A : Option Addr} {l : List (Int × Int)} (h : RL w A l) {g : Nat} (hg : w.heap.size ≤ g) : 0 < l.length → Off g A := by
  intro h0 x hx
  obtain ⟨b, off, e, hlt, _⟩ := h h0
  rw [hx] at e
  cases e
  simp only
  omega
theorem Fresh.off {B g : Nat} {A : Option Addr} (h : Fresh B A) (hg : g < B) : Off g A := fun x hx => by have := h x hx; omega
theorem fine_rg2 {a : Acc} (h : Fine a) : ∀ x ∈ a.g, -9223372036854775808 ≤ x.1 ∧ x.1 ≤ 9223372036854775807 := fun x hx => by
  have := h.rn.1 x hx
  unfold okG at this
  omega
theorem val_bd2 {c : Int × Int} (h : okC c) : -1000000000000000000 ≤ val c ∧ val c ≤ 1000000000000000000 := by
  obtain ⟨⟨h1, h2⟩, h3, h4⟩ := h
  unfold val
  omega
theorem valid_inR (v : Int) : validB (cnt v) = inR (cnt v) := by
  unfold validB inR
  have := cnt_fit v
  cases e : wrongB (-1000000000) (cnt v)
  · have h := wrongB_no.1 e
    simp only [Bool.not_false]
    symm
    rw [decide_eq_true_eq]
    omega
  · simp only [Bool.not_true]
    symm
    rw [decide_eq_false_iff_not]
    intro h
    rw [wrongB_no.2 ⟨this.1, this.2, h.1, h.2⟩] at e
    cases e
/-- The spans while those of the second are taken. -/
structure SpanR (w w3 wr : World) (g : Nat) (A : Option Addr) (c : Nat) (l : List (Int × Int)) : Prop where
  blk : Blk wr g 39 #[.slice .none 0 0, .slice .none 0 0, .slice A l.length c]
  rl : RL wr A l
  o1 : 0 < l.length → Off g A
  o2 : Off (w.heap.size + 2) A
  fr : Fresh w.heap.size A
  bel : Below g w3 wr
theorem good_nil {a : List G} (h : Rn a) : Runs.Good a [] a := ⟨h, fun t => by simp [mem_nil], fun t h => mem_nil t h.2, by simp, by simp [tot_nil]⟩
theorem meet_false {a b l : List G} {k : Nat} (hg : Runs.Good a (b.take k) l) (hb : Rn b) (hk : k < b.length) (h : (uni l [b[k]]).2 = false) : (uni a b).2 = false := by
  have hx := hb.1 _ (List.getElem_mem hk)
  obtain ⟨t, h1, h2⟩ := uni_false hg.rn (Rn_one hx) h
  rw [mem_one] at h2
  rcases (hg.all t).1 h1 with h3 | h3
  · rw [uni_no h3 ⟨b[k], List.getElem_mem _, h2⟩]
  · exfalso
    obtain ⟨y, hy, hi⟩ := h3
    have hR : Rn (b.take k ++ [b[k]]) := by
      rw [← List.take_succ_eq_append_getElem hk]
      exact (Rn_split.1 (show Rn (b.take (k + 1) ++ b.drop (k + 1)) by rw [List.take_append_drop]; exact hb)).1
    have := (Rn_split.1 hR).2.2 y hy b[k] (by simp)
    unfold inG at hi h2
    omega
theorem good_next {a b l : List G} {k : Nat} (hg : Runs.Good a (b.take k) l) (hb : Rn b) (hk : k < b.length) (h : (uni l [b[k]]).2 = true) : Runs.Good a (b.take (k + 1)) (uni l [b[k]]).1 := by
  have hR : Rn (b.take k ++ [b[k]]) := by
    rw [← List.take_succ_eq_append_getElem hk]
    exact (Rn_split.1 (show Rn (b.take (k + 1) ++ b.drop (k + 1)) by rw [List.take_append_drop]; exact hb)).1
  rw [List.take_succ_eq_append_getElem hk]
  exact good_snoc hg (uni_good h) hR
set_option maxRecDepth 30000 in
set_option maxHeartbeats 4000000 in
theorem refMerge_no (S N G S' N' G' : Option Addr) (c1 c2 c3 d1 d2 d3 : Nat) (a b : Acc) (w : World) (hx : RA w S N G a) (hy : RA w S' N' G' b) (l1 : a.s.length ≤ 140737488355328) (l2 : a.n.length ≤ 140737488355328) (l3 : a.g.length ≤ 140737488355328) (k1 : b.s.length ≤ 140737488355328) (k2 : b.n.length ≤ 140737488355328) (k3 : b.g.length ≤ 140737488355328) (ga : ∀ x ∈ a.g, -9223372036854775808 ≤ x.1 ∧ x.1 ≤ 9223372036854775807) (gb : ∀ x ∈ b.g, -9223372036854775808 ≤ x.1 ∧ x.1 ≤ 9223372036854775807)
    (hno : ¬ (accErr a = 0 ∧ accErr b = 0 ∧ a.s.length = b.s.length)) :
    Calls Try.prog 72 #[.agg #[.slice S a.s.length c1, .slice N a.n.length c2, .slice G a.g.length c3], .agg #[.slice S' b.s.length d1, .slice N' b.n.length d2, .slice G' b.g.length d3]] w (RetA w (mergeS a b)) := by
  have hbX : Below w.heap.size w (((w.alloc (.cells #[.slice S a.s.length c1, .slice N a.n.length c2, .slice G a.g.length c3] 39)).alloc (.cells #[.slice S' b.s.length d1, .slice N' b.n.length d2, .slice G' b.g.length d3] 39)).alloc (.cells #[.slice .none 0 0, .slice .none 0 0, .slice .none 0 0] 39)) := balloc (balloc (balloc (Below.refl _ _) _) _) _
  have hk1 := ((Blk.new w 39 #[.slice S a.s.length c1, .slice N a.n.length c2, .slice G a.g.length c3]).alloc (.cells #[.slice S' b.s.length d1, .slice N' b.n.length d2, .slice G' b.g.length d3] 39)).alloc (.cells #[.slice .none 0 0, .slice .none 0 0, .slice .none 0 0] 39)
  have hk2 := (Blk.newAt (w := w.alloc (.cells #[.slice S a.s.length c1, .slice N a.n.length c2, .slice G a.g.length c3] 39)) (g := w.heap.size + 1) 39 #[.slice S' b.s.length d1, .slice N' b.n.length d2, .slice G' b.g.length d3] (by simp)).alloc (.cells #[.slice .none 0 0, .slice .none 0 0, .slice .none 0 0] 39)
  have hk3 := Blk.newAt (w := (w.alloc (.cells #[.slice S a.s.length c1, .slice N a.n.length c2, .slice G a.g.length c3] 39)).alloc (.cells #[.slice S' b.s.length d1, .slice N' b.n.length d2, .slice G' b.g.length d3] 39)) (g := w.heap.size + 2) 39 #[.slice .none 0 0, .slice .none 0 0, .slice .none 0 0] (by simp)
  have HCA := fun w hx => refCheck_any S N G c1 c2 c3 a w hx l1 l2 l3 ga
  have HCB := fun w hx => refCheck_any S' N' G' d1 d2 d3 b w hx k1 k2 k3 gb
  by_cases ea : accErr a = 0
  · by_cases eb : accErr b = 0
    · have hl : a.s.length ≠ b.s.length := fun h => hno ⟨ea, eb, h⟩
      have e1 : ((a.s.length : Int) != b.s.length) = true := by rw [bne_iff_ne]; omega
      have HR := Lib.hid (mergeS_len (acc_fine.1 ea) (acc_fine.1 eb) hl)
      rw [ea] at HCA
      rw [eb] at HCB
      clear ea eb hl hno
      go_enter Try.func72, Try.ntmps72
      go_wp2_with fail
      refine (HCA _ (hx.keep hbX)).mono ?_
      rintro _ w1 ⟨rfl, hb1⟩
      have hB1 := bstep hbX hb1
      replace hk1 := hk1.keep hb1
      replace hk2 := hk2.keep hb1
      replace hk3 := hk3.keep hb1
      have qa0 : World.cell? w1 ⟨w.heap.size, 0, none⟩ = some (.slice S a.s.length c1) := hk1.cell 0
      have fa0 := hk1.frozen 0
      have qa1 : World.cell? w1 ⟨w.heap.size, 1, none⟩ = some (.slice N a.n.length c2) := hk1.cell 1
      have fa1 := hk1.frozen 1
      have qa2 : World.cell? w1 ⟨w.heap.size, 2, none⟩ = some (.slice G a.g.length c3) := hk1.cell 2
      have fa2 := hk1.frozen 2
      have fal := hk1.lt
      have qb0 : World.cell? w1 ⟨(w.heap.size + 1), 0, none⟩ = some (.slice S' b.s.length d1) := hk2.cell 0
      have fb0 := hk2.frozen 0
      have qb1 : World.cell? w1 ⟨(w.heap.size + 1), 1, none⟩ = some (.slice N' b.n.length d2) := hk2.cell 1
      have fb1 := hk2.frozen 1
      have qb2 : World.cell? w1 ⟨(w.heap.size + 1), 2, none⟩ = some (.slice G' b.g.length d3) := hk2.cell 2
      have fb2 := hk2.frozen 2
      have fbl := hk2.lt
      have q0 : World.cell? w1 ⟨(w.heap.size + 2), 0, none⟩ = some (.slice .none 0 0) := hk3.cell 0
      have f0 := hk3.frozen 0
      have q1 : World.cell? w1 ⟨(w.heap.size + 2), 1, none⟩ = some (.slice .none 0 0) := hk3.cell 1
      have f1 := hk3.frozen 1
      have q2 : World.cell? w1 ⟨(w.heap.size + 2), 2, none⟩ = some (.slice .none 0 0) := hk3.cell 2
      have f2 := hk3.frozen 2
      have fl := hk3.lt
      go_wp2_with fail
      refine (HCB _ (hy.keep hB1)).mono ?_
      rintro _ w2 ⟨rfl, hb2⟩
      have hB2 := bstep hB1 hb2
      clear qa0 qa1 qa2 qb0 qb1 qb2 q0 q1 q2 fa0 fa1 fa2 fb0 fb1 fb2 f0 f1 f2 fal fbl fl
      replace hk1 := hk1.keep hb2
      replace hk2 := hk2.keep hb2
      replace hk3 := hk3.keep hb2
      have qa0 : World.cell? w2 ⟨w.heap.size, 0, none⟩ = some (.slice S a.s.length c1) := hk1.cell 0
      have fa0 := hk1.frozen 0
      have qa1 : World.cell? w2 ⟨w.heap.size, 1, none⟩ = some (.slice N a.n.length c2) := hk1.cell 1
      have fa1 := hk1.frozen 1
      have qa2 : World.cell? w2 ⟨w.heap.size, 2, none⟩ = some (.slice G a.g.length c3) := hk1.cell 2
      have fa2 := hk1.frozen 2
      have fal := hk1.lt
      have qb0 : World.cell? w2 ⟨(w.heap.size + 1), 0, none⟩ = some (.slice S' b.s.length d1) := hk2.cell 0
      have fb0 := hk2.frozen 0
      have qb1 : World.cell? w2 ⟨(w.heap.size + 1), 1, none⟩ = some (.slice N' b.n.length d2) := hk2.cell 1
      have fb1 := hk2.frozen 1
      have qb2 : World.cell? w2 ⟨(w.heap.size + 1), 2, none⟩ = some (.slice G' b.g.length d3) := hk2.cell 2
      have fb2 := hk2.frozen 2
      have fbl := hk2.lt
      have q0 : World.cell? w2 ⟨(w.heap.size + 2), 0, none⟩ = some (.slice .none 0 0) := hk3.cell 0
      have f0 := hk3.frozen 0
      have q1 : World.cell? w2 ⟨(w.heap.size + 2), 1, none⟩ = some (.slice .none 0 0) := hk3.cell 1
      have f1 := hk3.frozen 1
      have q2 : World.cell? w2 ⟨(w.heap.size + 2), 2, none⟩ = some (.slice .none 0 0) := hk3.cell 2
      have f2 := hk3.frozen 2
      have fl := hk3.lt
      go_wp2
      exact bodyPost_ret (v := .tuple #[.agg #[.slice .none 0 0, .slice .none 0 0, .slice .none 0 0], .int .i64 2]) (by simp [results, Try.results72, go_sem, q0, q1, q2, f0, f1, f2, fl]) rfl (RetA.no HR.out (by (repeat (first | with_reducible exact Below.refl _ _ | assumption | with_reducible refine below_drewN ?_ _ | with_reducible refine Below.drew ?_ | with_reducible refine balloc ?_ _ | (with_reducible refine Below.setCell ?_ ?_ _; rotate_left; focus (first | (simp; done) | (simp; omega) | omega))))))
    · have HR := Lib.hid (mergeS_e2 ea eb)
      have e2 : (accErr b != 0) = true := by rw [bne_iff_ne]; exact eb
      rw [ea] at HCA
      clear ea eb hno
      generalize accErr b = E at *
      go_enter Try.func72, Try.ntmps72
      go_wp2_with fail
      refine (HCA _ (hx.keep hbX)).mono ?_
      rintro _ w1 ⟨rfl, hb1⟩
      have hB1 := bstep hbX hb1
      replace hk1 := hk1.keep hb1
      replace hk2 := hk2.keep hb1
      replace hk3 := hk3.keep hb1
      have qa0 : World.cell? w1 ⟨w.heap.size, 0, none⟩ = some (.slice S a.s.length c1) := hk1.cell 0
      have fa0 := hk1.frozen 0
      have qa1 : World.cell? w1 ⟨w.heap.size, 1, none⟩ = some (.slice N a.n.length c2) := hk1.cell 1
      have fa1 := hk1.frozen 1
      have qa2 : World.cell? w1 ⟨w.heap.size, 2, none⟩ = some (.slice G a.g.length c3) := hk1.cell 2
      have fa2 := hk1.frozen 2
      have fal := hk1.lt
      have qb0 : World.cell? w1 ⟨(w.heap.size + 1), 0, none⟩ = some (.slice S' b.s.length d1) := hk2.cell 0
      have fb0 := hk2.frozen 0
      have qb1 : World.cell? w1 ⟨(w.heap.size + 1), 1, none⟩ = some (.slice N' b.n.length d2) := hk2.cell 1
      have fb1 := hk2.frozen 1
      have qb2 : World.cell? w1 ⟨(w.heap.size + 1), 2, none⟩ = some (.slice G' b.g.length d3) := hk2.cell 2
      have fb2 := hk2.frozen 2
      have fbl := hk2.lt
      have q0 : World.cell? w1 ⟨(w.heap.size + 2), 0, none⟩ = some (.slice .none 0 0) := hk3.cell 0
      have f0 := hk3.frozen 0
      have q1 : World.cell? w1 ⟨(w.heap.size + 2), 1, none⟩ = some (.slice .none 0 0) := hk3.cell 1
      have f1 := hk3.frozen 1
      have q2 : World.cell? w1 ⟨(w.heap.size + 2), 2, none⟩ = some (.slice .none 0 0) := hk3.cell 2
      have f2 := hk3.frozen 2
      have fl := hk3.lt
      go_wp2_with fail
      refine (HCB _ (hy.keep hB1)).mono ?_
      rintro _ w2 ⟨rfl, hb2⟩
      have hB2 := bstep hB1 hb2
      clear qa0 qa1 qa2 qb0 qb1 qb2 q0 q1 q2 fa0 fa1 fa2 fb0 fb1 fb2 f0 f1 f2 fal fbl fl
      replace hk1 := hk1.keep hb2
      replace hk2 := hk2.keep hb2
      replace hk3 := hk3.keep hb2
      have qa0 : World.cell? w2 ⟨w.heap.size, 0, none⟩ = some (.slice S a.s.length c1) := hk1.cell 0
      have fa0 := hk1.frozen 0
      have qa1 : World.cell? w2 ⟨w.heap.size, 1, none⟩ = some (.slice N a.n.length c2) := hk1.cell 1
      have fa1 := hk1.frozen 1
      have qa2 : World.cell? w2 ⟨w.heap.size, 2, none⟩ = some (.slice G a.g.length c3) := hk1.cell 2
      have fa2 := hk1.frozen 2
      have fal := hk1.lt
      have qb0 : World.cell? w2 ⟨(w.heap.size + 1), 0, none⟩ = some (.slice S' b.s.length d1) := hk2.cell 0
      have fb0 := hk2.frozen 0
      have qb1 : World.cell? w2 ⟨(w.heap.size + 1), 1, none⟩ = some (.slice N' b.n.length d2) := hk2.cell 1
      have fb1 := hk2.frozen 1
      have qb2 : World.cell? w2 ⟨(w.heap.size + 1), 2, none⟩ = some (.slice G' b.g.length d3) := hk2.cell 2
      have fb2 := hk2.frozen 2
      have fbl := hk2.lt
      have q0 : World.cell? w2 ⟨(w.heap.size + 2), 0, none⟩ = some (.slice .none 0 0) := hk3.cell 0
      have f0 := hk3.frozen 0
      have q1 : World.cell? w2 ⟨(w.heap.size + 2), 1, none⟩ = some (.slice .none 0 0) := hk3.cell 1
      have f1 := hk3.frozen 1
      have q2 : World.cell? w2 ⟨(w.heap.size + 2), 2, none⟩ = some (.slice .none 0 0) := hk3.cell 2
      have f2 := hk3.frozen 2
      have fl := hk3.lt
      go_wp2_with fail
      refine (HCB _ (hy.keep hB2)).mono ?_
      rintro _ w3 ⟨rfl, hb3⟩
      have hB3 := bstep hB2 hb3
      clear qa0 qa1 qa2 qb0 qb1 qb2 q0 q1 q2 fa0 fa1 fa2 fb0 fb1 fb2 f0 f1 f2 fal fbl fl
      replace hk1 := hk1.keep hb3
      replace hk2 := hk2.keep hb3
      replace hk3 := hk3.keep hb3
      have qa0 : World.cell? w3 ⟨w.heap.size, 0, none⟩ = some (.slice S a.s.length c1) := hk1.cell 0
      have fa0 := hk1.frozen 0
      have qa1 : World.cell? w3 ⟨w.heap.size, 1, none⟩ = some (.slice N a.n.length c2) := hk1.cell 1
      have fa1 := hk1.frozen 1
      have qa2 : World.cell? w3 ⟨w.heap.size, 2, none⟩ = some (.slice G a.g.length c3) := hk1.cell 2
      have fa2 := hk1.frozen 2
      have fal := hk1.lt
      have qb0 : World.cell? w3 ⟨(w.heap.size + 1), 0, none⟩ = some (.slice S' b.s.length d1) := hk2.cell 0
      have fb0 := hk2.frozen 0
      have qb1 : World.cell? w3 ⟨(w.heap.size + 1), 1, none⟩ = some (.slice N' b.n.length d2) := hk2.cell 1
      have fb1 := hk2.frozen 1
      have qb2 : World.cell? w3 ⟨(w.heap.size + 1), 2, none⟩ = some (.slice G' b.g.length d3) := hk2.cell 2
      have fb2 := hk2.frozen 2
      have fbl := hk2.lt
      have q0 : World.cell? w3 ⟨(w.heap.size + 2), 0, none⟩ = some (.slice .none 0 0) := hk3.cell 0
      have f0 := hk3.frozen 0
      have q1 : World.cell? w3 ⟨(w.heap.size + 2), 1, none⟩ = some (.slice .none 0 0) := hk3.cell 1
      have f1 := hk3.frozen 1
      have q2 : World.cell? w3 ⟨(w.heap.size + 2), 2, none⟩ = some (.slice .none 0 0) := hk3.cell 2
      have f2 := hk3.frozen 2
      have fl := hk3.lt
      go_wp2
      exact bodyPost_ret (v := .tuple #[.agg #[.slice .none 0 0, .slice .none 0 0, .slice .none 0 0], .int .i64 E]) (by simp [results, Try.results72, go_sem, q0, q1, q2, f0, f1, f2, fl]) rfl (RetA.no HR.out (by (repeat (first | with_reducible exact Below.refl _ _ | assumption | with_reducible refine below_drewN ?_ _ | with_reducible refine Below.drew ?_ | with_reducible refine balloc ?_ _ | (with_reducible refine Below.setCell ?_ ?_ _; rotate_left; focus (first | (simp; done) | (simp; omega) | omega))))))
  · have HR := Lib.hid (mergeS_e1 (b := b) ea)
    have e2 : (accErr a != 0) = true := by rw [bne_iff_ne]; exact ea
    clear ea hno
    generalize accErr a = E at *
    go_enter Try.func72, Try.ntmps72
    go_wp2_with fail
    refine (HCA _ (hx.keep hbX)).mono ?_
    rintro _ w1 ⟨rfl, hb1⟩
    have hB1 := bstep hbX hb1
    replace hk1 := hk1.keep hb1
    replace hk2 := hk2.keep hb1
    replace hk3 := hk3.keep hb1
    have qa0 : World.cell? w1 ⟨w.heap.size, 0, none⟩ = some (.slice S a.s.length c1) := hk1.cell 0
    have fa0 := hk1.frozen 0
    have qa1 : World.cell? w1 ⟨w.heap.size, 1, none⟩ = some (.slice N a.n.length c2) := hk1.cell 1
    have fa1 := hk1.frozen 1
    have qa2 : World.cell? w1 ⟨w.heap.size, 2, none⟩ = some (.slice G a.g.length c3) := hk1.cell 2
    have fa2 := hk1.frozen 2
    have fal := hk1.lt
    have qb0 : World.cell? w1 ⟨(w.heap.size + 1), 0, none⟩ = some (.slice S' b.s.length d1) := hk2.cell 0
    have fb0 := hk2.frozen 0
    have qb1 : World.cell? w1 ⟨(w.heap.size + 1), 1, none⟩ = some (.slice N' b.n.length d2) := hk2.cell 1
    have fb1 := hk2.frozen 1
    have qb2 : World.cell? w1 ⟨(w.heap.size + 1), 2, none⟩ = some (.slice G' b.g.length d3) := hk2.cell 2
    have fb2 := hk2.frozen 2
    have fbl := hk2.lt
    have q0 : World.cell? w1 ⟨(w.heap.size + 2), 0, none⟩ = some (.slice .none 0 0) := hk3.cell 0
    have f0 := hk3.frozen 0
    have q1 : World.cell? w1 ⟨(w.heap.size + 2), 1, none⟩ = some (.slice .none 0 0) := hk3.cell 1
    have f1 := hk3.frozen 1
    have q2 : World.cell? w1 ⟨(w.heap.size + 2), 2, none⟩ = some (.slice .none 0 0) := hk3.cell 2
    have f2 := hk3.frozen 2
    have fl := hk3.lt
    go_wp2_with fail
    refine (HCA _ (hx.keep hB1)).mono ?_
    rintro _ w2 ⟨rfl, hb2⟩
    have hB2 := bstep hB1 hb2
    clear qa0 qa1 qa2 qb0 qb1 qb2 q0 q1 q2 fa0 fa1 fa2 fb0 fb1 fb2 f0 f1 f2 fal fbl fl
    replace hk1 := hk1.keep hb2
    replace hk2 := hk2.keep hb2
    replace hk3 := hk3.keep hb2
    have qa0 : World.cell? w2 ⟨w.heap.size, 0, none⟩ = some (.slice S a.s.length c1) := hk1.cell 0
    have fa0 := hk1.frozen 0
    have qa1 : World.cell? w2 ⟨w.heap.size, 1, none⟩ = some (.slice N a.n.length c2) := hk1.cell 1
    have fa1 := hk1.frozen 1
    have qa2 : World.cell? w2 ⟨w.heap.size, 2, none⟩ = some (.slice G a.g.length c3) := hk1.cell 2
    have fa2 := hk1.frozen 2
    have fal := hk1.lt
    have qb0 : World.cell? w2 ⟨(w.heap.size + 1), 0, none⟩ = some (.slice S' b.s.length d1) := hk2.cell 0
    have fb0 := hk2.frozen 0
    have qb1 : World.cell? w2 ⟨(w.heap.size + 1), 1, none⟩ = some (.slice N' b.n.length d2) := hk2.cell 1
    have fb1 := hk2.frozen 1
    have qb2 : World.cell? w2 ⟨(w.heap.size + 1), 2, none⟩ = some (.slice G' b.g.length d3) := hk2.cell 2
    have fb2 := hk2.frozen 2
    have fbl := hk2.lt
    have q0 : World.cell? w2 ⟨(w.heap.size + 2), 0, none⟩ = some (.slice .none 0 0) := hk3.cell 0
    have f0 := hk3.frozen 0
    have q1 : World.cell? w2 ⟨(w.heap.size + 2), 1, none⟩ = some (.slice .none 0 0) := hk3.cell 1
    have f1 := hk3.frozen 1
    have q2 : World.cell? w2 ⟨(w.heap.size + 2), 2, none⟩ = some (.slice .none 0 0) := hk3.cell 2
    have f2 := hk3.frozen 2
    have fl := hk3.lt
    go_wp2
    exact bodyPost_ret (v := .tuple #[.agg #[.slice .none 0 0, .slice .none 0 0, .slice .none 0 0], .int .i64 E]) (by simp [results, Try.results72, go_sem, q0, q1, q2, f0, f1, f2, fl]) rfl (RetA.no HR.out (by (repeat (first | with_reducible exact Below.refl _ _ | assumption | with_reducible refine below_drewN ?_ _ | with_reducible refine Below.drew ?_ | with_reducible refine balloc ?_ _ | (with_reducible refine Below.setCell ?_ ?_ _; rotate_left; focus (first | (simp; done) | (simp; omega) | omega))))))
end Go.Proofs.Ytdekbncpodjgnaa
