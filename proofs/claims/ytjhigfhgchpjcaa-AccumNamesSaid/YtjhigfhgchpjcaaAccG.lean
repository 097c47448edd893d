/-
  Contracts: accum.merge, Merge, New, Times.
-/
import Derived.Test.YtjhigfhgchpjcaaAccF
import Derived.Test.YtjhigfhgchpjcaaAccL
namespace Go.Proofs.Ytjhigfhgchpjcaa
open Go.RowKit Runs Lagc
set_option linter.unusedVariables false
set_option linter.unusedSimpArgs false

/-- The value of an accumulator. -/
def accV (S N G : Option Addr) (c1 c2 c3 : Nat) (a : Acc) : Value := .agg #[.slice S a.s.length c1, .slice N a.n.length c2, .slice G a.g.length c3]
def zeroA : Value := .agg #[.slice none 0 0, .slice none 0 0, .slice none 0 0]
structure FA (base : Nat) (S N G : Option Addr) : Prop where
  s : Fresh base S
  n : Fresh base N
  g : Fresh base G
theorem FA.mono {base base' : Nat} {S N G : Option Addr} (h : FA base S N G) (hb : base' ≤ base) : FA base' S N G := ⟨h.s.mono hb, h.n.mono hb, h.g.mono hb⟩
theorem RA.far {w : World} {S N G : Option Addr} {a : Acc} (h : RA w S N G a) {base : Nat} (hf : FA base S N G) {p : Addr} (hp : p.block < base) (u : Value) : RA (w.setCell p u) S N G a := ⟨h.s.far hf.s hp u, h.n.far hf.n hp u, h.g.far hf.g hp u⟩
/-- A new accumulator and an error code. -/
def RetA (w : World) (r : Acc × Int) (e : Ending) (w' : World) : Prop :=
  ∃ S N G c1 c2 c3, e = .returned (.tuple #[.agg #[.slice S r.1.s.length c1, .slice N r.1.n.length c2, .slice G r.1.g.length c3], .int .i64 r.2]) ∧ RA w' S N G r.1 ∧ FA w.heap.size S N G ∧ Below w.heap.size w w'
theorem RA.none {w : World} {S N G : Option Addr} : RA w S N G .none := ⟨RL.nil, RL.nil, RL.nil⟩
theorem RetA.no {w w' : World} {r : Acc × Int} {x : Int} (hr : r = (.none, x)) (hb : Below w.heap.size w w') : RetA w r (.returned (.tuple #[.agg #[.slice .none 0 0, .slice .none 0 0, .slice .none 0 0], .int .i64 x])) w' := by
  subst hr; exact ⟨.none, .none, .none, 0, 0, 0, rfl, RA.none, ⟨Fresh.none, Fresh.none, Fresh.none⟩, hb⟩
theorem RetA.yes {w w' : World} {r : Acc × Int} {S N G : Option Addr} {n1 n2 n3 c1 c2 c3 : Nat} {s n g : List (Int × Int)} {x : Int} (hr : r = (⟨s, n, g⟩, x)) (h1 : s.length = n1) (h2 : n.length = n2) (h3 : g.length = n3) (hs : RL w' S s ∧ Fresh w.heap.size S) (hn : RL w' N n ∧ Fresh w.heap.size N) (hg : RL w' G g ∧ Fresh w.heap.size G) (hb : Below w.heap.size w w') : RetA w r (.returned (.tuple #[.agg #[.slice S n1 c1, .slice N n2 c2, .slice G n3 c3], .int .i64 x])) w' := by
  subst hr; subst h1; subst h2; subst h3; exact ⟨S, N, G, c1, c2, c3, rfl, ⟨hs.1, hn.1, hg.1⟩, ⟨hs.2, hn.2, hg.2⟩, hb⟩
theorem fine_okS {a : Acc} (h : Fine a) : ∀ x ∈ a.s, okC x := fun x hx => ⟨⟨(h.s x hx).2.2.1, (h.s x hx).2.2.2⟩, (h.s x hx).1, (h.s x hx).2.1⟩
theorem fine_okN {a : Acc} (h : Fine a) : ∀ x ∈ a.n, okC x := fun x hx => by
  have := h.n x hx
  exact ⟨⟨by omega, by omega⟩, by omega, by omega⟩
theorem mrg_e14 {a b : Acc} (h : (uni a.g b.g).2 = false) : mrg a b = (.none, 14) := by unfold mrg; rw [if_pos h]
theorem mrg_e16 {a b : Acc} (h : (uni a.g b.g).2 = true) (h2 : rngB a.s b.s = false ∨ rngB a.n b.n = false) : mrg a b = (.none, 16) := by unfold mrg; rw [if_neg (by rw [h]; simp), if_pos h2]
theorem mrg_e4 {a b : Acc} (h : (uni a.g b.g).2 = true) (h2 : rngB a.s b.s = true) (h3 : rngB a.n b.n = true) (h4 : 64 < (uni a.g b.g).1.length) : mrg a b = (.none, 4) := by unfold mrg; rw [if_neg (by rw [h]; simp), if_neg (by rw [h2, h3]; simp), if_pos h4]
theorem mrg_e0 {a b : Acc} (h : (uni a.g b.g).2 = true) (h2 : rngB a.s b.s = true) (h3 : rngB a.n b.n = true) (h4 : ¬ 64 < (uni a.g b.g).1.length) : mrg a b = (⟨addL a.s b.s, addL a.n b.n, (uni a.g b.g).1⟩, 0) := by unfold mrg; rw [if_neg (by rw [h]; simp), if_neg (by rw [h2, h3]; simp), if_neg h4]

set_option maxRecDepth 20000 in
set_option maxHeartbeats 1000000 in
theorem merge_any (S N G S' N' G' : Option Addr) (c1 c2 c3 d1 d2 d3 : Nat) (a b : Acc) (w : World) (hx : RA w S N G a) (hy : RA w S' N' G' b) (ha : Fine a) (hb : Fine b) (hl : a.s.length = b.s.length) :
    Calls Try.prog 35 #[.agg #[.slice S a.s.length c1, .slice N a.n.length c2, .slice G a.g.length c3], .agg #[.slice S' b.s.length d1, .slice N' b.n.length d2, .slice G' b.g.length d3]] w (RetA w (mrg a b)) := by
  have la := ha.lg
  have lb := hb.lg
  have ls := ha.ls
  have hbX : Below w.heap.size w (((w.alloc (.cells #[.slice S a.s.length c1, .slice N a.n.length c2, .slice G a.g.length c3] 25)).alloc (.cells #[.slice S' b.s.length d1, .slice N' b.n.length d2, .slice G' b.g.length d3] 25)).alloc (.cells #[.slice .none 0 0, .slice .none 0 0, .slice .none 0 0] 25)) := balloc (balloc (balloc (Below.refl _ _) _) _) _
  have hk1 := ((Blk.new w 25 #[.slice S a.s.length c1, .slice N a.n.length c2, .slice G a.g.length c3]).alloc (.cells #[.slice S' b.s.length d1, .slice N' b.n.length d2, .slice G' b.g.length d3] 25)).alloc (.cells #[.slice .none 0 0, .slice .none 0 0, .slice .none 0 0] 25)
  have hk2 := (Blk.newAt (w := w.alloc (.cells #[.slice S a.s.length c1, .slice N a.n.length c2, .slice G a.g.length c3] 25)) (g := w.heap.size + 1) 25 #[.slice S' b.s.length d1, .slice N' b.n.length d2, .slice G' b.g.length d3] (by simp)).alloc (.cells #[.slice .none 0 0, .slice .none 0 0, .slice .none 0 0] 25)
  have hk3 := Blk.newAt (w := (w.alloc (.cells #[.slice S a.s.length c1, .slice N a.n.length c2, .slice G a.g.length c3] 25)).alloc (.cells #[.slice S' b.s.length d1, .slice N' b.n.length d2, .slice G' b.g.length d3] 25)) (g := w.heap.size + 2) 25 #[.slice .none 0 0, .slice .none 0 0, .slice .none 0 0] (by simp)
  have HU := fun w hx hy => union_any G G' c3 d3 a.g b.g w hx hy (by omega) (by omega) ha.rn hb.rn
  have HS := fun w hx hy => addAll_any S S' c1 d1 a.s b.s w hx hy ls hl.symm (fine_okS ha) (fine_okS hb)
  have HN := fun w hx hy => addAll_any N N' c2 d2 a.n b.n w hx hy (by rw [ha.ln]; exact ls) (by rw [ha.ln, hb.ln, hl]) (fine_okN ha) (fine_okN hb)
  have HFA := Lib.hid ha
  have HFB := Lib.hid hb
  have HL := Lib.hid hl
  clear ha hb hl
  by_cases hu : (uni a.g b.g).2 = true
  · obtain ⟨U, hU⟩ : ∃ U, uni a.g b.g = (U, true) := ⟨(uni a.g b.g).1, Prod.ext rfl hu⟩
    rw [hU] at HU
    have hUl := (uni_good hu).len
    have HUE := Lib.hid hU
    have HUT := Lib.hid hu
    rw [hU] at hUl
    clear hu hU
    by_cases hs : rngB a.s b.s = true
    · rw [addS_yes hs] at HS
      have HRS := Lib.hid hs
      clear hs
      by_cases hn : rngB a.n b.n = true
      · rw [addS_yes hn] at HN
        have HRN := Lib.hid hn
        clear hn
        by_cases hm : 64 < U.length
        · have HR := Lib.hid (mrg_e4 HUT.out HRS.out HRN.out (by rw [HUE.out]; exact hm))
          go_enter Try.func35, Try.ntmps35
          go_wp2_with fail
          refine (HU _ (hx.g.keep hbX) (hy.g.keep hbX)).mono ?_
          rintro _ w1 ⟨A1, e1, rfl, r1, g1, hb1⟩
          have hB1 := bstep hbX hb1
          replace hk1 := hk1.keep hb1
          replace hk2 := hk2.keep hb1
          replace hk3 := hk3.keep hb1
          have qa0 : World.cell? w1 ⟨w.heap.size, 0, none⟩ = some (.slice S a.s.length c1) := hk1.cell 0
          have fa0 := hk1.frozen 0
          have qa1 : World.cell? w1 ⟨w.heap.size, 1, none⟩ = some (.slice N a.n.length c2) := hk1.cell 1
          have fa1 := hk1.frozen 1
          have qa2 : World.cell? w1 ⟨w.heap.size, 2, none⟩ = some (.slice G a.g.length c3) := hk1.cell 2
          have fa2 := hk1.frozen 2
          have fal := hk1.lt
          have qb0 : World.cell? w1 ⟨(w.heap.size + 1), 0, none⟩ = some (.slice S' b.s.length d1) := hk2.cell 0
          have fb0 := hk2.frozen 0
          have qb1 : World.cell? w1 ⟨(w.heap.size + 1), 1, none⟩ = some (.slice N' b.n.length d2) := hk2.cell 1
          have fb1 := hk2.frozen 1
          have qb2 : World.cell? w1 ⟨(w.heap.size + 1), 2, none⟩ = some (.slice G' b.g.length d3) := hk2.cell 2
          have fb2 := hk2.frozen 2
          have fbl := hk2.lt
          have q0 : World.cell? w1 ⟨(w.heap.size + 2), 0, none⟩ = some (.slice .none 0 0) := hk3.cell 0
          have f0 := hk3.frozen 0
          have q1 : World.cell? w1 ⟨(w.heap.size + 2), 1, none⟩ = some (.slice .none 0 0) := hk3.cell 1
          have f1 := hk3.frozen 1
          have q2 : World.cell? w1 ⟨(w.heap.size + 2), 2, none⟩ = some (.slice .none 0 0) := hk3.cell 2
          have f2 := hk3.frozen 2
          have fl := hk3.lt
          go_wp2_with fail
          refine (HS _ (hx.s.keep hB1) (hy.s.keep hB1)).mono ?_
          rintro _ w2 ⟨A2, e2, rfl, r2, g2, hb2⟩
          have hB2 := bstep hB1 hb2
          clear qa0 qa1 qa2 qb0 qb1 qb2 q0 q1 q2 fa0 fa1 fa2 fb0 fb1 fb2 f0 f1 f2 fal fbl fl
          replace hk1 := hk1.keep hb2
          replace hk2 := hk2.keep hb2
          replace hk3 := hk3.keep hb2
          have qa0 : World.cell? w2 ⟨w.heap.size, 0, none⟩ = some (.slice S a.s.length c1) := hk1.cell 0
          have fa0 := hk1.frozen 0
          have qa1 : World.cell? w2 ⟨w.heap.size, 1, none⟩ = some (.slice N a.n.length c2) := hk1.cell 1
          have fa1 := hk1.frozen 1
          have qa2 : World.cell? w2 ⟨w.heap.size, 2, none⟩ = some (.slice G a.g.length c3) := hk1.cell 2
          have fa2 := hk1.frozen 2
          have fal := hk1.lt
          have qb0 : World.cell? w2 ⟨(w.heap.size + 1), 0, none⟩ = some (.slice S' b.s.length d1) := hk2.cell 0
          have fb0 := hk2.frozen 0
          have qb1 : World.cell? w2 ⟨(w.heap.size + 1), 1, none⟩ = some (.slice N' b.n.length d2) := hk2.cell 1
          have fb1 := hk2.frozen 1
          have qb2 : World.cell? w2 ⟨(w.heap.size + 1), 2, none⟩ = some (.slice G' b.g.length d3) := hk2.cell 2
          have fb2 := hk2.frozen 2
          have fbl := hk2.lt
          have q0 : World.cell? w2 ⟨(w.heap.size + 2), 0, none⟩ = some (.slice .none 0 0) := hk3.cell 0
          have f0 := hk3.frozen 0
          have q1 : World.cell? w2 ⟨(w.heap.size + 2), 1, none⟩ = some (.slice .none 0 0) := hk3.cell 1
          have f1 := hk3.frozen 1
          have q2 : World.cell? w2 ⟨(w.heap.size + 2), 2, none⟩ = some (.slice .none 0 0) := hk3.cell 2
          have f2 := hk3.frozen 2
          have fl := hk3.lt
          go_wp2_with fail
          refine (HN _ (hx.n.keep hB2) (hy.n.keep hB2)).mono ?_
          rintro _ w3 ⟨A3, e3, rfl, r3, g3, hb3⟩
          have hB3 := bstep hB2 hb3
          clear qa0 qa1 qa2 qb0 qb1 qb2 q0 q1 q2 fa0 fa1 fa2 fb0 fb1 fb2 f0 f1 f2 fal fbl fl
          replace hk1 := hk1.keep hb3
          replace hk2 := hk2.keep hb3
          replace hk3 := hk3.keep hb3
          have qa0 : World.cell? w3 ⟨w.heap.size, 0, none⟩ = some (.slice S a.s.length c1) := hk1.cell 0
          have fa0 := hk1.frozen 0
          have qa1 : World.cell? w3 ⟨w.heap.size, 1, none⟩ = some (.slice N a.n.length c2) := hk1.cell 1
          have fa1 := hk1.frozen 1
          have qa2 : World.cell? w3 ⟨w.heap.size, 2, none⟩ = some (.slice G a.g.length c3) := hk1.cell 2
          have fa2 := hk1.frozen 2
          have fal := hk1.lt
          have qb0 : World.cell? w3 ⟨(w.heap.size + 1), 0, none⟩ = some (.slice S' b.s.length d1) := hk2.cell 0
          have fb0 := hk2.frozen 0
          have qb1 : World.cell? w3 ⟨(w.heap.size + 1), 1, none⟩ = some (.slice N' b.n.length d2) := hk2.cell 1
          have fb1 := hk2.frozen 1
          have qb2 : World.cell? w3 ⟨(w.heap.size + 1), 2, none⟩ = some (.slice G' b.g.length d3) := hk2.cell 2
          have fb2 := hk2.frozen 2
          have fbl := hk2.lt
          have q0 : World.cell? w3 ⟨(w.heap.size + 2), 0, none⟩ = some (.slice .none 0 0) := hk3.cell 0
          have f0 := hk3.frozen 0
          have q1 : World.cell? w3 ⟨(w.heap.size + 2), 1, none⟩ = some (.slice .none 0 0) := hk3.cell 1
          have f1 := hk3.frozen 1
          have q2 : World.cell? w3 ⟨(w.heap.size + 2), 2, none⟩ = some (.slice .none 0 0) := hk3.cell 2
          have f2 := hk3.frozen 2
          have fl := hk3.lt
          go_wp2
          exact bodyPost_ret (v := .tuple #[.agg #[.slice .none 0 0, .slice .none 0 0, .slice .none 0 0], .int .i64 4]) (by simp [results, Try.results35, go_sem, q0, q1, q2, f0, f1, f2, fl]) rfl (RetA.no HR.out (by (repeat (first | with_reducible exact Below.refl _ _ | assumption | with_reducible refine below_drewN ?_ _ | with_reducible refine Below.drew ?_ | with_reducible refine balloc ?_ _ | (with_reducible refine Below.setCell ?_ ?_ _; rotate_left; focus (first | (simp; done) | (simp; omega) | omega))))))
        · have HR := Lib.hid (mrg_e0 HUT.out HRS.out HRN.out (by rw [HUE.out]; exact hm))
          rw [HUE.out] at HR
          go_enter Try.func35, Try.ntmps35
          go_wp2_with fail
          refine (HU _ (hx.g.keep hbX) (hy.g.keep hbX)).mono ?_
          rintro _ w1 ⟨A1, e1, rfl, r1, g1, hb1⟩
          have hB1 := bstep hbX hb1
          replace hk1 := hk1.keep hb1
          replace hk2 := hk2.keep hb1
          replace hk3 := hk3.keep hb1
          have qa0 : World.cell? w1 ⟨w.heap.size, 0, none⟩ = some (.slice S a.s.length c1) := hk1.cell 0
          have fa0 := hk1.frozen 0
          have qa1 : World.cell? w1 ⟨w.heap.size, 1, none⟩ = some (.slice N a.n.length c2) := hk1.cell 1
          have fa1 := hk1.frozen 1
          have qa2 : World.cell? w1 ⟨w.heap.size, 2, none⟩ = some (.slice G a.g.length c3) := hk1.cell 2
          have fa2 := hk1.frozen 2
          have fal := hk1.lt
          have qb0 : World.cell? w1 ⟨(w.heap.size + 1), 0, none⟩ = some (.slice S' b.s.length d1) := hk2.cell 0
          have fb0 := hk2.frozen 0
          have qb1 : World.cell? w1 ⟨(w.heap.size + 1), 1, none⟩ = some (.slice N' b.n.length d2) := hk2.cell 1
          have fb1 := hk2.frozen 1
          have qb2 : World.cell? w1 ⟨(w.heap.size + 1), 2, none⟩ = some (.slice G' b.g.length d3) := hk2.cell 2
          have fb2 := hk2.frozen 2
          have fbl := hk2.lt
          have q0 : World.cell? w1 ⟨(w.heap.size + 2), 0, none⟩ = some (.slice .none 0 0) := hk3.cell 0
          have f0 := hk3.frozen 0
          have q1 : World.cell? w1 ⟨(w.heap.size + 2), 1, none⟩ = some (.slice .none 0 0) := hk3.cell 1
          have f1 := hk3.frozen 1
          have q2 : World.cell? w1 ⟨(w.heap.size + 2), 2, none⟩ = some (.slice .none 0 0) := hk3.cell 2
          have f2 := hk3.frozen 2
          have fl := hk3.lt
          go_wp2_with fail
          refine (HS _ (hx.s.keep hB1) (hy.s.keep hB1)).mono ?_
          rintro _ w2 ⟨A2, e2, rfl, r2, g2, hb2⟩
          have hB2 := bstep hB1 hb2
          clear qa0 qa1 qa2 qb0 qb1 qb2 q0 q1 q2 fa0 fa1 fa2 fb0 fb1 fb2 f0 f1 f2 fal fbl fl
          replace hk1 := hk1.keep hb2
          replace hk2 := hk2.keep hb2
          replace hk3 := hk3.keep hb2
          have qa0 : World.cell? w2 ⟨w.heap.size, 0, none⟩ = some (.slice S a.s.length c1) := hk1.cell 0
          have fa0 := hk1.frozen 0
          have qa1 : World.cell? w2 ⟨w.heap.size, 1, none⟩ = some (.slice N a.n.length c2) := hk1.cell 1
          have fa1 := hk1.frozen 1
          have qa2 : World.cell? w2 ⟨w.heap.size, 2, none⟩ = some (.slice G a.g.length c3) := hk1.cell 2
          have fa2 := hk1.frozen 2
          have fal := hk1.lt
          have qb0 : World.cell? w2 ⟨(w.heap.size + 1), 0, none⟩ = some (.slice S' b.s.length d1) := hk2.cell 0
          have fb0 := hk2.frozen 0
          have qb1 : World.cell? w2 ⟨(w.heap.size + 1), 1, none⟩ = some (.slice N' b.n.length d2) := hk2.cell 1
          have fb1 := hk2.frozen 1
          have qb2 : World.cell? w2 ⟨(w.heap.size + 1), 2, none⟩ = some (.slice G' b.g.length d3) := hk2.cell 2
          have fb2 := hk2.frozen 2
          have fbl := hk2.lt
          have q0 : World.cell? w2 ⟨(w.heap.size + 2), 0, none⟩ = some (.slice .none 0 0) := hk3.cell 0
          have f0 := hk3.frozen 0
          have q1 : World.cell? w2 ⟨(w.heap.size + 2), 1, none⟩ = some (.slice .none 0 0) := hk3.cell 1
          have f1 := hk3.frozen 1
          have q2 : World.cell? w2 ⟨(w.heap.size + 2), 2, none⟩ = some (.slice .none 0 0) := hk3.cell 2
          have f2 := hk3.frozen 2
          have fl := hk3.lt
          go_wp2_with fail
          refine (HN _ (hx.n.keep hB2) (hy.n.keep hB2)).mono ?_
          rintro _ w3 ⟨A3, e3, rfl, r3, g3, hb3⟩
          have hB3 := bstep hB2 hb3
          clear qa0 qa1 qa2 qb0 qb1 qb2 q0 q1 q2 fa0 fa1 fa2 fb0 fb1 fb2 f0 f1 f2 fal fbl fl
          replace hk1 := hk1.keep hb3
          replace hk2 := hk2.keep hb3
          replace hk3 := hk3.keep hb3
          have qa0 : World.cell? w3 ⟨w.heap.size, 0, none⟩ = some (.slice S a.s.length c1) := hk1.cell 0
          have fa0 := hk1.frozen 0
          have qa1 : World.cell? w3 ⟨w.heap.size, 1, none⟩ = some (.slice N a.n.length c2) := hk1.cell 1
          have fa1 := hk1.frozen 1
          have qa2 : World.cell? w3 ⟨w.heap.size, 2, none⟩ = some (.slice G a.g.length c3) := hk1.cell 2
          have fa2 := hk1.frozen 2
          have fal := hk1.lt
          have qb0 : World.cell? w3 ⟨(w.heap.size + 1), 0, none⟩ = some (.slice S' b.s.length d1) := hk2.cell 0
          have fb0 := hk2.frozen 0
          have qb1 : World.cell? w3 ⟨(w.heap.size + 1), 1, none⟩ = some (.slice N' b.n.length d2) := hk2.cell 1
          have fb1 := hk2.frozen 1
          have qb2 : World.cell? w3 ⟨(w.heap.size + 1), 2, none⟩ = some (.slice G' b.g.length d3) := hk2.cell 2
          have fb2 := hk2.frozen 2
          have fbl := hk2.lt
          have q0 : World.cell? w3 ⟨(w.heap.size + 2), 0, none⟩ = some (.slice .none 0 0) := hk3.cell 0
          have f0 := hk3.frozen 0
          have q1 : World.cell? w3 ⟨(w.heap.size + 2), 1, none⟩ = some (.slice .none 0 0) := hk3.cell 1
          have f1 := hk3.frozen 1
          have q2 : World.cell? w3 ⟨(w.heap.size + 2), 2, none⟩ = some (.slice .none 0 0) := hk3.cell 2
          have f2 := hk3.frozen 2
          have fl := hk3.lt
          have r1' := (r1.keep hb2).keep hb3
          have r2' := r2.keep hb3
          go_wp2
          have z1 : w.heap.size + 3 ≤ w1.heap.size := by have := hb1.size; simp at this; omega
          have z2 := hb2.size
          have g1' : Fresh (w.heap.size + 3) A1 := g1.mono (by simp)
          have g2' : Fresh (w.heap.size + 3) A2 := g2.mono z1
          have g3' : Fresh (w.heap.size + 3) A3 := g3.mono (by omega)
          refine bodyPost_ret (v := .tuple #[.agg #[.slice A2 (addL a.s b.s).length e2, .slice A3 (addL a.n b.n).length e3, .slice A1 U.length e1], .int .i64 0]) (by simp [results, Try.results35, go_sem, q0, q1, q2, f0, f1, f2, fl]) rfl (RetA.yes HR.out rfl rfl rfl ?_ ?_ ?_ (by (repeat (first | with_reducible exact Below.refl _ _ | assumption | with_reducible refine below_drewN ?_ _ | with_reducible refine Below.drew ?_ | with_reducible refine balloc ?_ _ | (with_reducible refine Below.setCell ?_ ?_ _; rotate_left; focus (first | (simp; done) | (simp; omega) | omega))))))
          · exact ⟨by repeat (first | exact r2' | (refine RL.far ?_ g2' (by simp) _)), g2'.mono (by omega)⟩
          · exact ⟨by repeat (first | exact r3 | (refine RL.far ?_ g3' (by simp) _)), g3'.mono (by omega)⟩
          · exact ⟨by repeat (first | exact r1' | (refine RL.far ?_ g1' (by simp) _)), g1'.mono (by omega)⟩
      · have hn' : rngB a.n b.n = false := by simpa using hn
        rw [addS_no hn'] at HN
        have HR := Lib.hid (mrg_e16 HUT.out (.inr hn'))
        clear hn hn'
        go_enter Try.func35, Try.ntmps35
        go_wp2_with fail
        refine (HU _ (hx.g.keep hbX) (hy.g.keep hbX)).mono ?_
        rintro _ w1 ⟨A1, e1, rfl, r1, g1, hb1⟩
        have hB1 := bstep hbX hb1
        replace hk1 := hk1.keep hb1
        replace hk2 := hk2.keep hb1
        replace hk3 := hk3.keep hb1
        have qa0 : World.cell? w1 ⟨w.heap.size, 0, none⟩ = some (.slice S a.s.length c1) := hk1.cell 0
        have fa0 := hk1.frozen 0
        have qa1 : World.cell? w1 ⟨w.heap.size, 1, none⟩ = some (.slice N a.n.length c2) := hk1.cell 1
        have fa1 := hk1.frozen 1
        have qa2 : World.cell? w1 ⟨w.heap.size, 2, none⟩ = some (.slice G a.g.length c3) := hk1.cell 2
        have fa2 := hk1.frozen 2
        have fal := hk1.lt
        have qb0 : World.cell? w1 ⟨(w.heap.size + 1), 0, none⟩ = some (.slice S' b.s.length d1) := hk2.cell 0
        have fb0 := hk2.frozen 0
        have qb1 : World.cell? w1 ⟨(w.heap.size + 1), 1, none⟩ = some (.slice N' b.n.length d2) := hk2.cell 1
        have fb1 := hk2.frozen 1
        have qb2 : World.cell? w1 ⟨(w.heap.size + 1), 2, none⟩ = some (.slice G' b.g.length d3) := hk2.cell 2
        have fb2 := hk2.frozen 2
        have fbl := hk2.lt
        have q0 : World.cell? w1 ⟨(w.heap.size + 2), 0, none⟩ = some (.slice .none 0 0) := hk3.cell 0
        have f0 := hk3.frozen 0
        have q1 : World.cell? w1 ⟨(w.heap.size + 2), 1, none⟩ = some (.slice .none 0 0) := hk3.cell 1
        have f1 := hk3.frozen 1
        have q2 : World.cell? w1 ⟨(w.heap.size + 2), 2, none⟩ = some (.slice .none 0 0) := hk3.cell 2
        have f2 := hk3.frozen 2
        have fl := hk3.lt
        go_wp2_with fail
        refine (HS _ (hx.s.keep hB1) (hy.s.keep hB1)).mono ?_
        rintro _ w2 ⟨A2, e2, rfl, r2, g2, hb2⟩
        have hB2 := bstep hB1 hb2
        clear qa0 qa1 qa2 qb0 qb1 qb2 q0 q1 q2 fa0 fa1 fa2 fb0 fb1 fb2 f0 f1 f2 fal fbl fl
        replace hk1 := hk1.keep hb2
        replace hk2 := hk2.keep hb2
        replace hk3 := hk3.keep hb2
        have qa0 : World.cell? w2 ⟨w.heap.size, 0, none⟩ = some (.slice S a.s.length c1) := hk1.cell 0
        have fa0 := hk1.frozen 0
        have qa1 : World.cell? w2 ⟨w.heap.size, 1, none⟩ = some (.slice N a.n.length c2) := hk1.cell 1
        have fa1 := hk1.frozen 1
        have qa2 : World.cell? w2 ⟨w.heap.size, 2, none⟩ = some (.slice G a.g.length c3) := hk1.cell 2
        have fa2 := hk1.frozen 2
        have fal := hk1.lt
        have qb0 : World.cell? w2 ⟨(w.heap.size + 1), 0, none⟩ = some (.slice S' b.s.length d1) := hk2.cell 0
        have fb0 := hk2.frozen 0
        have qb1 : World.cell? w2 ⟨(w.heap.size + 1), 1, none⟩ = some (.slice N' b.n.length d2) := hk2.cell 1
        have fb1 := hk2.frozen 1
        have qb2 : World.cell? w2 ⟨(w.heap.size + 1), 2, none⟩ = some (.slice G' b.g.length d3) := hk2.cell 2
        have fb2 := hk2.frozen 2
        have fbl := hk2.lt
        have q0 : World.cell? w2 ⟨(w.heap.size + 2), 0, none⟩ = some (.slice .none 0 0) := hk3.cell 0
        have f0 := hk3.frozen 0
        have q1 : World.cell? w2 ⟨(w.heap.size + 2), 1, none⟩ = some (.slice .none 0 0) := hk3.cell 1
        have f1 := hk3.frozen 1
        have q2 : World.cell? w2 ⟨(w.heap.size + 2), 2, none⟩ = some (.slice .none 0 0) := hk3.cell 2
        have f2 := hk3.frozen 2
        have fl := hk3.lt
        go_wp2_with fail
        refine (HN _ (hx.n.keep hB2) (hy.n.keep hB2)).mono ?_
        rintro _ w3 ⟨A3, e3, rfl, r3, g3, hb3⟩
        have hB3 := bstep hB2 hb3
        clear qa0 qa1 qa2 qb0 qb1 qb2 q0 q1 q2 fa0 fa1 fa2 fb0 fb1 fb2 f0 f1 f2 fal fbl fl
        replace hk1 := hk1.keep hb3
        replace hk2 := hk2.keep hb3
        replace hk3 := hk3.keep hb3
        have qa0 : World.cell? w3 ⟨w.heap.size, 0, none⟩ = some (.slice S a.s.length c1) := hk1.cell 0
        have fa0 := hk1.frozen 0
        have qa1 : World.cell? w3 ⟨w.heap.size, 1, none⟩ = some (.slice N a.n.length c2) := hk1.cell 1
        have fa1 := hk1.frozen 1
        have qa2 : World.cell? w3 ⟨w.heap.size, 2, none⟩ = some (.slice G a.g.length c3) := hk1.cell 2
        have fa2 := hk1.frozen 2
        have fal := hk1.lt
        have qb0 : World.cell? w3 ⟨(w.heap.size + 1), 0, none⟩ = some (.slice S' b.s.length d1) := hk2.cell 0
        have fb0 := hk2.frozen 0
        have qb1 : World.cell? w3 ⟨(w.heap.size + 1), 1, none⟩ = some (.slice N' b.n.length d2) := hk2.cell 1
        have fb1 := hk2.frozen 1
        have qb2 : World.cell? w3 ⟨(w.heap.size + 1), 2, none⟩ = some (.slice G' b.g.length d3) := hk2.cell 2
        have fb2 := hk2.frozen 2
        have fbl := hk2.lt
        have q0 : World.cell? w3 ⟨(w.heap.size + 2), 0, none⟩ = some (.slice .none 0 0) := hk3.cell 0
        have f0 := hk3.frozen 0
        have q1 : World.cell? w3 ⟨(w.heap.size + 2), 1, none⟩ = some (.slice .none 0 0) := hk3.cell 1
        have f1 := hk3.frozen 1
        have q2 : World.cell? w3 ⟨(w.heap.size + 2), 2, none⟩ = some (.slice .none 0 0) := hk3.cell 2
        have f2 := hk3.frozen 2
        have fl := hk3.lt
        go_wp2
        exact bodyPost_ret (v := .tuple #[.agg #[.slice .none 0 0, .slice .none 0 0, .slice .none 0 0], .int .i64 16]) (by simp [results, Try.results35, go_sem, q0, q1, q2, f0, f1, f2, fl]) rfl (RetA.no HR.out (by (repeat (first | with_reducible exact Below.refl _ _ | assumption | with_reducible refine below_drewN ?_ _ | with_reducible refine Below.drew ?_ | with_reducible refine balloc ?_ _ | (with_reducible refine Below.setCell ?_ ?_ _; rotate_left; focus (first | (simp; done) | (simp; omega) | omega))))))
    · have hs' : rngB a.s b.s = false := by simpa using hs
      rw [addS_no hs'] at HS
      have HR := Lib.hid (mrg_e16 HUT.out (.inl hs'))
      clear hs hs'
      go_enter Try.func35, Try.ntmps35
      go_wp2_with fail
      refine (HU _ (hx.g.keep hbX) (hy.g.keep hbX)).mono ?_
      rintro _ w1 ⟨A1, e1, rfl, r1, g1, hb1⟩
      have hB1 := bstep hbX hb1
      replace hk1 := hk1.keep hb1
      replace hk2 := hk2.keep hb1
      replace hk3 := hk3.keep hb1
      have qa0 : World.cell? w1 ⟨w.heap.size, 0, none⟩ = some (.slice S a.s.length c1) := hk1.cell 0
      have fa0 := hk1.frozen 0
      have qa1 : World.cell? w1 ⟨w.heap.size, 1, none⟩ = some (.slice N a.n.length c2) := hk1.cell 1
      have fa1 := hk1.frozen 1
      have qa2 : World.cell? w1 ⟨w.heap.size, 2, none⟩ = some (.slice G a.g.length c3) := hk1.cell 2
      have fa2 := hk1.frozen 2
      have fal := hk1.lt
      have qb0 : World.cell? w1 ⟨(w.heap.size + 1), 0, none⟩ = some (.slice S' b.s.length d1) := hk2.cell 0
      have fb0 := hk2.frozen 0
      have qb1 : World.cell? w1 ⟨(w.heap.size + 1), 1, none⟩ = some (.slice N' b.n.length d2) := hk2.cell 1
      have fb1 := hk2.frozen 1
      have qb2 : World.cell? w1 ⟨(w.heap.size + 1), 2, none⟩ = some (.slice G' b.g.length d3) := hk2.cell 2
      have fb2 := hk2.frozen 2
      have fbl := hk2.lt
      have q0 : World.cell? w1 ⟨(w.heap.size + 2), 0, none⟩ = some (.slice .none 0 0) := hk3.cell 0
      have f0 := hk3.frozen 0
      have q1 : World.cell? w1 ⟨(w.heap.size + 2), 1, none⟩ = some (.slice .none 0 0) := hk3.cell 1
      have f1 := hk3.frozen 1
      have q2 : World.cell? w1 ⟨(w.heap.size + 2), 2, none⟩ = some (.slice .none 0 0) := hk3.cell 2
      have f2 := hk3.frozen 2
      have fl := hk3.lt
      go_wp2_with fail
      refine (HS _ (hx.s.keep hB1) (hy.s.keep hB1)).mono ?_
      rintro _ w2 ⟨A2, e2, rfl, r2, g2, hb2⟩
      have hB2 := bstep hB1 hb2
      clear qa0 qa1 qa2 qb0 qb1 qb2 q0 q1 q2 fa0 fa1 fa2 fb0 fb1 fb2 f0 f1 f2 fal fbl fl
      replace hk1 := hk1.keep hb2
      replace hk2 := hk2.keep hb2
      replace hk3 := hk3.keep hb2
      have qa0 : World.cell? w2 ⟨w.heap.size, 0, none⟩ = some (.slice S a.s.length c1) := hk1.cell 0
      have fa0 := hk1.frozen 0
      have qa1 : World.cell? w2 ⟨w.heap.size, 1, none⟩ = some (.slice N a.n.length c2) := hk1.cell 1
      have fa1 := hk1.frozen 1
      have qa2 : World.cell? w2 ⟨w.heap.size, 2, none⟩ = some (.slice G a.g.length c3) := hk1.cell 2
      have fa2 := hk1.frozen 2
      have fal := hk1.lt
      have qb0 : World.cell? w2 ⟨(w.heap.size + 1), 0, none⟩ = some (.slice S' b.s.length d1) := hk2.cell 0
      have fb0 := hk2.frozen 0
      have qb1 : World.cell? w2 ⟨(w.heap.size + 1), 1, none⟩ = some (.slice N' b.n.length d2) := hk2.cell 1
      have fb1 := hk2.frozen 1
      have qb2 : World.cell? w2 ⟨(w.heap.size + 1), 2, none⟩ = some (.slice G' b.g.length d3) := hk2.cell 2
      have fb2 := hk2.frozen 2
      have fbl := hk2.lt
      have q0 : World.cell? w2 ⟨(w.heap.size + 2), 0, none⟩ = some (.slice .none 0 0) := hk3.cell 0
      have f0 := hk3.frozen 0
      have q1 : World.cell? w2 ⟨(w.heap.size + 2), 1, none⟩ = some (.slice .none 0 0) := hk3.cell 1
      have f1 := hk3.frozen 1
      have q2 : World.cell? w2 ⟨(w.heap.size + 2), 2, none⟩ = some (.slice .none 0 0) := hk3.cell 2
      have f2 := hk3.frozen 2
      have fl := hk3.lt
      go_wp2
      exact bodyPost_ret (v := .tuple #[.agg #[.slice .none 0 0, .slice .none 0 0, .slice .none 0 0], .int .i64 16]) (by simp [results, Try.results35, go_sem, q0, q1, q2, f0, f1, f2, fl]) rfl (RetA.no HR.out (by (repeat (first | with_reducible exact Below.refl _ _ | assumption | with_reducible refine below_drewN ?_ _ | with_reducible refine Below.drew ?_ | with_reducible refine balloc ?_ _ | (with_reducible refine Below.setCell ?_ ?_ _; rotate_left; focus (first | (simp; done) | (simp; omega) | omega))))))
  · have hu' : (uni a.g b.g).2 = false := by simpa using hu
    have HR := Lib.hid (mrg_e14 hu')
    have hU : uni a.g b.g = ([], false) := by
      obtain ⟨t, h1, h2⟩ := uni_false HFA.out.rn HFB.out.rn hu'
      exact uni_no h1 h2
    rw [hU] at HU
    clear hu hu' hU
    go_enter Try.func35, Try.ntmps35
    go_wp2_with fail
    refine (HU _ (hx.g.keep hbX) (hy.g.keep hbX)).mono ?_
    rintro _ w1 ⟨A1, e1, rfl, r1, g1, hb1⟩
    have hB1 := bstep hbX hb1
    replace hk1 := hk1.keep hb1
    replace hk2 := hk2.keep hb1
    replace hk3 := hk3.keep hb1
    have qa0 : World.cell? w1 ⟨w.heap.size, 0, none⟩ = some (.slice S a.s.length c1) := hk1.cell 0
    have fa0 := hk1.frozen 0
    have qa1 : World.cell? w1 ⟨w.heap.size, 1, none⟩ = some (.slice N a.n.length c2) := hk1.cell 1
    have fa1 := hk1.frozen 1
    have qa2 : World.cell? w1 ⟨w.heap.size, 2, none⟩ = some (.slice G a.g.length c3) := hk1.cell 2
    have fa2 := hk1.frozen 2
    have fal := hk1.lt
    have qb0 : World.cell? w1 ⟨(w.heap.size + 1), 0, none⟩ = some (.slice S' b.s.length d1) := hk2.cell 0
    have fb0 := hk2.frozen 0
    have qb1 : World.cell? w1 ⟨(w.heap.size + 1), 1, none⟩ = some (.slice N' b.n.length d2) := hk2.cell 1
    have fb1 := hk2.frozen 1
    have qb2 : World.cell? w1 ⟨(w.heap.size + 1), 2, none⟩ = some (.slice G' b.g.length d3) := hk2.cell 2
    have fb2 := hk2.frozen 2
    have fbl := hk2.lt
    have q0 : World.cell? w1 ⟨(w.heap.size + 2), 0, none⟩ = some (.slice .none 0 0) := hk3.cell 0
    have f0 := hk3.frozen 0
    have q1 : World.cell? w1 ⟨(w.heap.size + 2), 1, none⟩ = some (.slice .none 0 0) := hk3.cell 1
    have f1 := hk3.frozen 1
    have q2 : World.cell? w1 ⟨(w.heap.size + 2), 2, none⟩ = some (.slice .none 0 0) := hk3.cell 2
    have f2 := hk3.frozen 2
    have fl := hk3.lt
    go_wp2
    exact bodyPost_ret (v := .tuple #[.agg #[.slice .none 0 0, .slice .none 0 0, .slice .none 0 0], .int .i64 14]) (by simp [results, Try.results35, go_sem, q0, q1, q2, f0, f1, f2, fl]) rfl (RetA.no HR.out (by (repeat (first | with_reducible exact Below.refl _ _ | assumption | with_reducible refine below_drewN ?_ _ | with_reducible refine Below.drew ?_ | with_reducible refine balloc ?_ _ | (with_reducible refine Below.setCell ?_ ?_ _; rotate_left; focus (first | (simp; done) | (simp; omega) | omega))))))
end Go.Proofs.Ytjhigfhgchpjcaa
