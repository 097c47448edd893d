/-
  Parts of the proof of WorkerNames: WkU.
-/
import Derived.Test.YtdekbncpodjgnaaT14
import Derived.Test.YtdekbncpodjgnaaT15
namespace Go.Proofs.Ytdekbncpodjgnaa
open Go.RowKit Runs Lagc Reg
set_option linter.unusedVariables false
set_option linter.unusedSimpArgs false
namespace Wk
open Lagw
theorem grow_call {P : Program} {ops : Array Oper} {o : Oper} {a : Act} {w : World} {K : Act → World → Prop} {Q : Exit → Act → World → Prop} {E : Prop} {f : FuncId} {args : Array Operand} {ts : Array TypeId} {vs : Array Value} (hgd : o.guard = none) (hop : o.op = .call { callee := .value (.func f), args := args, argTypes := ts }) (hx : args.map a.eval = vs)
 (hc : ∀ xs w, (callFunc f xs).run P w = .ok (.enter f xs) w) (h : Calls P f vs w fun e w' => ∃ v, e = .returned v ∧ K (a.put o.dst v) w') : if Region.wanted o (yielded ops a.tmps) = true then o.wp P a w K Q else E := by
 rw [if_pos (by simp [Region.wanted, hgd])]
 have e2 : execOp a.eval o = callFunc f (#[] ++ args.map a.eval ++ #[]) := by
  unfold execOp
  rw [hop]
  rfl
 have e3 : (#[] ++ vs ++ #[] : Array Value) = vs := by simp
 unfold Oper.wp
 rw [e2, hx, e3, hc]
 refine h.mono ?_
 rintro _ w' ⟨v, rfl, hk⟩
 exact hk
theorem _root_.Go.Proofs.Ytdekbncpodjgnaa.Reg.Made.mono {α : Type} {enc : α → List Value} {e : TypeId} {sz B B' : Nat} {l : List α} {A : Option Addr} {c : Nat} {w : World} (h : Made enc e sz B l A c w) (hb : B' ≤ B) : Made enc e sz B' l A c w := by
 refine ⟨h.1, ?_⟩
 rcases h.2 with h1 | h1
 ·exact .inl h1
 ·refine .inr ⟨h1.1, ?_⟩
  rcases h1.2 with h2 | ⟨g, cap, cur, h2, h3, h4⟩
  ·exact .inl h2
  ·exact .inr ⟨g, cap, cur, h2, Nat.le_trans hb h3, h4⟩
structure CW (B : Nat) (w : World) (S N G D T : Option Addr) (c1 c2 c3 c4 c5 : Nat) (r : Work) : Prop where
 s : Made encP 97 2 B r.a.s S c1 w
 n : Made encP 97 2 B r.a.n N c2 w
 g : Made encP 99 2 B r.a.g G c3 w
 d : Made encB 4 1 B r.d D c4 w
 t : Made (encI .i64) 3 1 B r.t T c5 w
theorem CW.rw_ {B : Nat} {w : World} {S N G D T : Option Addr} {c1 c2 c3 c4 c5 : Nat} {r : Work} (h : CW B w S N G D T c1 c2 c3 c4 c5 r) : RW w S N G D T r := ⟨⟨h.s.rl, h.n.rl, h.g.rl⟩, h.d.rb, h.t.ri⟩
theorem CW.keep {B : Nat} {w w' : World} {S N G D T : Option Addr} {c1 c2 c3 c4 c5 : Nat} {r : Work} (h : CW B w S N G D T c1 c2 c3 c4 c5 r) (hb : Below w.heap.size w w') : CW B w' S N G D T c1 c2 c3 c4 c5 r := ⟨h.s.keep hb, h.n.keep hb, h.g.keep hb, h.d.keep hb, h.t.keep hb⟩
theorem CW.mono {B B' : Nat} {w : World} {S N G D T : Option Addr} {c1 c2 c3 c4 c5 : Nat} {r : Work} (h : CW B w S N G D T c1 c2 c3 c4 c5 r) (hb : B' ≤ B) : CW B' w S N G D T c1 c2 c3 c4 c5 r := ⟨h.s.mono hb, h.n.mono hb, h.g.mono hb, h.d.mono hb, h.t.mono hb⟩
theorem CW.far {B : Nat} {w : World} {S N G D T : Option Addr} {c1 c2 c3 c4 c5 : Nat} {r : Work} (h : CW B w S N G D T c1 c2 c3 c4 c5 r) {p : Addr} {cs : Array Value} (hp : Blk w p.block 42 cs) (u : Value) : CW B (w.setCell p u) S N G D T c1 c2 c3 c4 c5 r :=
 ⟨h.s.far hp (by decide) u, h.n.far hp (by decide) u, h.g.far hp (by decide) u, h.d.far hp (by decide) u, h.t.far hp (by decide) u⟩
structure CwP where
 b0 : Nat
 B : Nat
 S : Option Addr
 N : Option Addr
 G : Option Addr
 D : Option Addr
 T : Option Addr
 c1 : Nat
 c2 : Nat
 c3 : Nat
 c4 : Nat
 c5 : Nat
 r : Work
def CwP.F (p : CwP) : Nat → Value → World → Prop
 | 0 => fun v _ => v = .pointer (some ⟨p.b0, 0, none⟩)
 | 1 => fun v _ => v = .pointer (some ⟨p.b0, 0, none⟩)
 | 2 => fun v _ => v = .slice p.S p.r.a.s.length p.c1
 | 3 => fun v w => ∃ A c, v = .slice A p.r.a.s.length c ∧ Made encP 97 2 p.B p.r.a.s A c w
 | 4 => fun v _ => v = .pointer (some ⟨p.b0, 0, none⟩)
 | 5 => fun v _ => v = .pointer (some ⟨p.b0, 1, none⟩)
 | 6 => fun v _ => v = .slice p.N p.r.a.n.length p.c2
 | 7 => fun v w => ∃ A c, v = .slice A p.r.a.n.length c ∧ Made encP 97 2 p.B p.r.a.n A c w
 | 8 => fun v _ => v = .pointer (some ⟨p.b0, 0, none⟩)
 | 9 => fun v _ => v = .pointer (some ⟨p.b0, 2, none⟩)
 | 10 => fun v _ => v = .slice p.G p.r.a.g.length p.c3
 | 11 => fun v w => ∃ A c, v = .slice A p.r.a.g.length c ∧ Made encP 99 2 p.B p.r.a.g A c w
 | 12 => fun v w => ∃ A1 A2 A3 d1 d2 d3, v = .agg #[.slice A1 p.r.a.s.length d1, .slice A2 p.r.a.n.length d2, .slice A3 p.r.a.g.length d3] ∧ Made encP 97 2 p.B p.r.a.s A1 d1 w ∧ Made encP 97 2 p.B p.r.a.n A2 d2 w ∧ Made encP 99 2 p.B p.r.a.g A3 d3 w
 | 13 => fun v _ => v = .pointer (some ⟨p.b0, 3, none⟩)
 | 14 => fun v _ => v = .slice p.D p.r.d.length p.c4
 | 15 => fun v w => ∃ A c, v = .slice A p.r.d.length c ∧ Made encB 4 1 p.B p.r.d A c w
 | 16 => fun v _ => v = .pointer (some ⟨p.b0, 4, none⟩)
 | 17 => fun v _ => v = .slice p.T p.r.t.length p.c5
 | 18 => fun v w => ∃ A c, v = .slice A p.r.t.length c ∧ Made (encI .i64) 3 1 p.B p.r.t A c w
 | 19 => fun v w => ∃ S N G D T c1 c2 c3 c4 c5, v = .agg #[.slice S p.r.a.s.length c1, .slice N p.r.a.n.length c2, .slice G p.r.a.g.length c3, .slice D p.r.d.length c4, .slice T p.r.t.length c5] ∧ CW p.B w S N G D T c1 c2 c3 c4 c5 p.r
 | _ => fun _ _ => True
theorem CwP.keep (p : CwP) : ∀ k v w w', Below w.heap.size w w' → p.F k v w → p.F k v w' := by
 intro k v w w' hb h
 match k, h with
 | 0, h => exact h
 | 1, h => exact h
 | 2, h => exact h
 | 3, ⟨A, c, e, h1⟩ => exact ⟨A, c, e, h1.keep hb⟩
 | 4, h => exact h
 | 5, h => exact h
 | 6, h => exact h
 | 7, ⟨A, c, e, h1⟩ => exact ⟨A, c, e, h1.keep hb⟩
 | 8, h => exact h
 | 9, h => exact h
 | 10, h => exact h
 | 11, ⟨A, c, e, h1⟩ => exact ⟨A, c, e, h1.keep hb⟩
 | 12, ⟨A1, A2, A3, d1, d2, d3, e, h1, h2, h3⟩ => exact ⟨A1, A2, A3, d1, d2, d3, e, h1.keep hb, h2.keep hb, h3.keep hb⟩
 | 13, h => exact h
 | 14, h => exact h
 | 15, ⟨A, c, e, h1⟩ => exact ⟨A, c, e, h1.keep hb⟩
 | 16, h => exact h
 | 17, h => exact h
 | 18, ⟨A, c, e, h1⟩ => exact ⟨A, c, e, h1.keep hb⟩
 | 19, ⟨S, N, G, D, T, c1, c2, c3, c4, c5, e, h1⟩ => exact ⟨S, N, G, D, T, c1, c2, c3, c4, c5, e, h1.keep hb⟩
 | n + 20, _ => trivial
def cwAt (B g : Nat) (r : Work) (w0 w : World) : Prop := ∃ S N G D T c1 c2 c3 c4 c5, Blk w g 42 #[.slice S r.a.s.length c1, .slice N r.a.n.length c2, .slice G r.a.g.length c3, .slice D r.d.length c4, .slice T r.t.length c5] ∧ CW B w S N G D T c1 c2 c3 c4 c5 r ∧ w0.grownBy w (some g)
set_option maxRecDepth 20000 in
set_option maxHeartbeats 4000000 in
theorem copyWork_any (S N G D T : Option Addr) (c1 c2 c3 c4 c5 : Nat) (r : Work) (w : World) (hx : RW w S N G D T r) (l1 : r.a.s.length ≤ 1000000) (l2 : r.a.n.length ≤ 1000000) (l3 : r.a.g.length ≤ 1000000) (l4 : r.d.length ≤ 1000000) (l5 : r.t.length ≤ 1000000) :
 Calls Try.prog 65 #[.agg #[.slice S r.a.s.length c1, .slice N r.a.n.length c2, .slice G r.a.g.length c3, .slice D r.d.length c4, .slice T r.t.length c5]] w fun e w' => ∃ S N G D T c1 c2 c3 c4 c5, e = .returned (.agg #[.slice S r.a.s.length c1, .slice N r.a.n.length c2, .slice G r.a.g.length c3, .slice D r.d.length c4, .slice T r.t.length c5]) ∧ CW w.heap.size w' S N G D T c1 c2 c3 c4 c5 r ∧ Below w.heap.size w w' := by
 obtain ⟨wE, hwE⟩ : ∃ wE, wE = (w.alloc (.cells #[.slice S r.a.s.length c1, .slice N r.a.n.length c2, .slice G r.a.g.length c3, .slice D r.d.length c4, .slice T r.t.length c5] 42)).alloc (.cells #[.slice .none 0 0, .slice .none 0 0, .slice .none 0 0, .slice .none 0 0, .slice .none 0 0] 42) := ⟨_, rfl⟩
 have hk1 : Blk wE w.heap.size 42 #[.slice S r.a.s.length c1, .slice N r.a.n.length c2, .slice G r.a.g.length c3, .slice D r.d.length c4, .slice T r.t.length c5] := by rw [hwE]; exact (Blk.new _ _ _).alloc _
 have hk2 : Blk wE (w.heap.size + 1) 42 #[.slice .none 0 0, .slice .none 0 0, .slice .none 0 0, .slice .none 0 0, .slice .none 0 0] := by rw [hwE]; exact Blk.newAt _ _ (by simp)
 have hbE : Below w.heap.size w wE := by rw [hwE]; exact balloc (balloc (Below.refl _ _) _) _
 have hsE : wE.heap.size = w.heap.size + 2 := by rw [hwE]; simp
 have hxE := hx.keep hbE
 go_enter Try.func65, Try.ntmps65
 go_wp2_with fail
 rw [← hwE]
 clear hwE
 refine wp_region_end (by kernel_rfl) (by kernel_rfl) (by kernel_rfl) (CwP.F ⟨w.heap.size, wE.heap.size, S, N, G, D, T, c1, c2, c3, c4, c5, r⟩) 20 (fun _ => cwAt wE.heap.size (w.heap.size + 1) r wE) (by kernel_rfl) (CwP.keep _) ⟨?_, ?_, ?_, ?_, ?_, ?_, ?_, ?_, ?_, ?_, ?_, ?_, ?_, ?_, ?_, ?_, ?_, ?_, ?_, ?_, ?_, trivial⟩ ?_
 ·refine EndOk.grow ?_ (by decide)
  intro val a wr hb hdep hold K hK
  have hsz := hb.size
  have e1 : a.tmps[1]?.getD undef = .pointer (some ⟨w.heap.size, 0, none⟩) := ev_tmps ((hold 1 (by rfl)).trans (by rfl))
  go_simp
  exact hK _ _ (Below.refl _ _) rfl
 ·refine EndOk.grow ?_ (by decide)
  intro val a wr hb hdep hold K hK
  have hsz := hb.size
  obtain ⟨e0, h0⟩ := hdep 0 3 _ rfl rfl rfl
  have e1 : a.tmps[3]?.getD undef = .pointer (some ⟨w.heap.size, 0, none⟩) := ev_tmps (e0.trans h0)
  clear e0 h0
  go_simp
  exact hK _ _ (Below.refl _ _) rfl
 ·refine EndOk.grow ?_ (by decide)
  intro val a wr hb hdep hold K hK
  have hsz := hb.size
  obtain ⟨e0, h0⟩ := hdep 1 4 _ rfl rfl rfl
  have e1 : a.tmps[4]?.getD undef = .pointer (some ⟨w.heap.size, 0, none⟩) := ev_tmps (e0.trans h0)
  have hk := hk1.keep hb
  have q0 := hk.cell 0
  have ql := hk.lt
  clear e0 h0
  go_simp
  exact hK _ _ (Below.refl _ _) rfl
 ·refine EndOk.grow ?_ (by decide)
  intro val a wr hb hdep hold K hK
  have hsz := hb.size
  have e2 : a.eval (.tmp 5) = .slice S r.a.s.length c1 := (hdep 2 5 _ rfl rfl rfl).1.trans (hdep 2 5 _ rfl rfl rfl).2
  refine grow_call (vs := #[.slice S r.a.s.length c1]) rfl rfl (by simp [e2]) Try.call74 ((cloneC_any S c1 r.a.s _ (news_RL (hxE.a.s.keep hb)) l1).mono ?_)
  rintro e w' ⟨A', c', rfl, hm, hbn⟩
  exact ⟨_, rfl, hK _ _ hbn ⟨A', c', rfl, hm.mono hsz⟩⟩
 ·refine EndOk.grow ?_ (by decide)
  intro val a wr hb hdep hold K hK
  have hsz := hb.size
  have e1 : a.tmps[1]?.getD undef = .pointer (some ⟨w.heap.size, 0, none⟩) := ev_tmps ((hold 1 (by rfl)).trans (by rfl))
  go_simp
  exact hK _ _ (Below.refl _ _) rfl
 ·refine EndOk.grow ?_ (by decide)
  intro val a wr hb hdep hold K hK
  have hsz := hb.size
  obtain ⟨e0, h0⟩ := hdep 4 7 _ rfl rfl rfl
  have e1 : a.tmps[7]?.getD undef = .pointer (some ⟨w.heap.size, 0, none⟩) := ev_tmps (e0.trans h0)
  clear e0 h0
  go_simp
  exact hK _ _ (Below.refl _ _) rfl
 ·refine EndOk.grow ?_ (by decide)
  intro val a wr hb hdep hold K hK
  have hsz := hb.size
  obtain ⟨e0, h0⟩ := hdep 5 8 _ rfl rfl rfl
  have e1 : a.tmps[8]?.getD undef = .pointer (some ⟨w.heap.size, 1, none⟩) := ev_tmps (e0.trans h0)
  have hk := hk1.keep hb
  have q0 := hk.cell 1
  have ql := hk.lt
  clear e0 h0
  go_simp
  exact hK _ _ (Below.refl _ _) rfl
 ·refine EndOk.grow ?_ (by decide)
  intro val a wr hb hdep hold K hK
  have hsz := hb.size
  have e2 : a.eval (.tmp 9) = .slice N r.a.n.length c2 := (hdep 6 9 _ rfl rfl rfl).1.trans (hdep 6 9 _ rfl rfl rfl).2
  refine grow_call (vs := #[.slice N r.a.n.length c2]) rfl rfl (by simp [e2]) Try.call74 ((cloneC_any N c2 r.a.n _ (news_RL (hxE.a.n.keep hb)) l2).mono ?_)
  rintro e w' ⟨A', c', rfl, hm, hbn⟩
  exact ⟨_, rfl, hK _ _ hbn ⟨A', c', rfl, hm.mono hsz⟩⟩
 ·refine EndOk.grow ?_ (by decide)
  intro val a wr hb hdep hold K hK
  have hsz := hb.size
  have e1 : a.tmps[1]?.getD undef = .pointer (some ⟨w.heap.size, 0, none⟩) := ev_tmps ((hold 1 (by rfl)).trans (by rfl))
  go_simp
  exact hK _ _ (Below.refl _ _) rfl
 ·refine EndOk.grow ?_ (by decide)
  intro val a wr hb hdep hold K hK
  have hsz := hb.size
  obtain ⟨e0, h0⟩ := hdep 8 11 _ rfl rfl rfl
  have e1 : a.tmps[11]?.getD undef = .pointer (some ⟨w.heap.size, 0, none⟩) := ev_tmps (e0.trans h0)
  clear e0 h0
  go_simp
  exact hK _ _ (Below.refl _ _) rfl
 ·refine EndOk.grow ?_ (by decide)
  intro val a wr hb hdep hold K hK
  have hsz := hb.size
  obtain ⟨e0, h0⟩ := hdep 9 12 _ rfl rfl rfl
  have e1 : a.tmps[12]?.getD undef = .pointer (some ⟨w.heap.size, 2, none⟩) := ev_tmps (e0.trans h0)
  have hk := hk1.keep hb
  have q0 := hk.cell 2
  have ql := hk.lt
  clear e0 h0
  go_simp
  exact hK _ _ (Below.refl _ _) rfl
 ·refine EndOk.grow ?_ (by decide)
  intro val a wr hb hdep hold K hK
  have hsz := hb.size
  have e2 : a.eval (.tmp 13) = .slice G r.a.g.length c3 := (hdep 10 13 _ rfl rfl rfl).1.trans (hdep 10 13 _ rfl rfl rfl).2
  refine grow_call (vs := #[.slice G r.a.g.length c3]) rfl rfl (by simp [e2]) Try.call75 ((cloneG_any G c3 r.a.g _ (news_RL (hxE.a.g.keep hb)) l3).mono ?_)
  rintro e w' ⟨A', c', rfl, hm, hbn⟩
  exact ⟨_, rfl, hK _ _ hbn ⟨A', c', rfl, hm.mono hsz⟩⟩
 ·refine EndOk.grow ?_ (by decide)
  intro val a wr hb hdep hold K hK
  have hsz := hb.size
  obtain ⟨e1, A1, x1, h1, r1⟩ := hdep 3 6 _ rfl rfl rfl
  obtain ⟨e2, A2, x2, h2, r2⟩ := hdep 7 10 _ rfl rfl rfl
  obtain ⟨e3, A3, x3, h3, r3⟩ := hdep 11 14 _ rfl rfl rfl
  replace e1 := ev_tmps (e1.trans h1)
  replace e2 := ev_tmps (e2.trans h2)
  replace e3 := ev_tmps (e3.trans h3)
  clear h1 h2 h3
  go_simp
  exact hK _ _ (Below.refl _ _) ⟨A1, A2, A3, x1, x2, x3, rfl, r1, r2, r3⟩
 ·refine EndOk.grow ?_ (by decide)
  intro val a wr hb hdep hold K hK
  have hsz := hb.size
  have e1 : a.tmps[1]?.getD undef = .pointer (some ⟨w.heap.size, 0, none⟩) := ev_tmps ((hold 1 (by rfl)).trans (by rfl))
  go_simp
  exact hK _ _ (Below.refl _ _) rfl
 ·refine EndOk.grow ?_ (by decide)
  intro val a wr hb hdep hold K hK
  have hsz := hb.size
  obtain ⟨e0, h0⟩ := hdep 13 16 _ rfl rfl rfl
  have e1 : a.tmps[16]?.getD undef = .pointer (some ⟨w.heap.size, 3, none⟩) := ev_tmps (e0.trans h0)
  have hk := hk1.keep hb
  have q0 := hk.cell 3
  have ql := hk.lt
  clear e0 h0
  go_simp
  exact hK _ _ (Below.refl _ _) rfl
 ·refine EndOk.grow ?_ (by decide)
  intro val a wr hb hdep hold K hK
  have hsz := hb.size
  have e2 : a.eval (.tmp 17) = .slice D r.d.length c4 := (hdep 14 17 _ rfl rfl rfl).1.trans (hdep 14 17 _ rfl rfl rfl).2
  refine grow_call (vs := #[.slice D r.d.length c4]) rfl rfl (by simp [e2]) Try.call76 ((cloneB_any D c4 r.d _ (news_RBo (hxE.d.keep hb)) l4).mono ?_)
  rintro e w' ⟨A', c', rfl, hm, hbn⟩
  exact ⟨_, rfl, hK _ _ hbn ⟨A', c', rfl, hm.mono hsz⟩⟩
 ·refine EndOk.grow ?_ (by decide)
  intro val a wr hb hdep hold K hK
  have hsz := hb.size
  have e1 : a.tmps[1]?.getD undef = .pointer (some ⟨w.heap.size, 0, none⟩) := ev_tmps ((hold 1 (by rfl)).trans (by rfl))
  go_simp
  exact hK _ _ (Below.refl _ _) rfl
 ·refine EndOk.grow ?_ (by decide)
  intro val a wr hb hdep hold K hK
  have hsz := hb.size
  obtain ⟨e0, h0⟩ := hdep 16 19 _ rfl rfl rfl
  have e1 : a.tmps[19]?.getD undef = .pointer (some ⟨w.heap.size, 4, none⟩) := ev_tmps (e0.trans h0)
  have hk := hk1.keep hb
  have q0 := hk.cell 4
  have ql := hk.lt
  clear e0 h0
  go_simp
  exact hK _ _ (Below.refl _ _) rfl
 ·refine EndOk.grow ?_ (by decide)
  intro val a wr hb hdep hold K hK
  have hsz := hb.size
  have e2 : a.eval (.tmp 20) = .slice T r.t.length c5 := (hdep 17 20 _ rfl rfl rfl).1.trans (hdep 17 20 _ rfl rfl rfl).2
  refine grow_call (vs := #[.slice T r.t.length c5]) rfl rfl (by simp [e2]) Try.call77 ((cloneI_any T c5 r.t _ (news_RI (hxE.t.keep hb)) l5).mono ?_)
  rintro e w' ⟨A', c', rfl, hm, hbn⟩
  exact ⟨_, rfl, hK _ _ hbn ⟨A', c', rfl, hm.mono hsz⟩⟩
 ·refine EndOk.grow ?_ (by decide)
  intro val a wr hb hdep hold K hK
  have hsz := hb.size
  obtain ⟨e1, A1, A2, A3, x1, x2, x3, h1, r1, r2, r3⟩ := hdep 12 15 _ rfl rfl rfl
  obtain ⟨e2, A4, x4, h2, r4⟩ := hdep 15 18 _ rfl rfl rfl
  obtain ⟨e3, A5, x5, h3, r5⟩ := hdep 18 21 _ rfl rfl rfl
  replace e1 := ev_tmps (e1.trans h1)
  replace e2 := ev_tmps (e2.trans h2)
  replace e3 := ev_tmps (e3.trans h3)
  clear h1 h2 h3
  go_simp
  exact hK _ _ (Below.refl _ _) ⟨A1, A2, A3, A4, A5, x1, x2, x3, x4, x5, rfl, r1, r2, r3, r4, r5⟩
 ·refine EndOk.last ?_
  intro val a wr hb hall hdep hold K hK
  obtain ⟨A1, A2, A3, A4, A5, x1, x2, x3, x4, x5, h1, hC⟩ := hall 19 (by decide) (by decide)
  have e1 := ev_tmps ((hdep 19 22 _ rfl rfl (by decide)).trans h1)
  have e2 : a.tmps[2]?.getD undef = .pointer (some ⟨w.heap.size + 1, 0, none⟩) := ev_tmps ((hold 2 (by rfl)).trans (by rfl))
  have hFa := hK undef
  have hkG := hk2.keep hb
  clear hall hdep hK h1
  have q0 : World.cell? wr ⟨(w.heap.size + 1), 0, none⟩ = some (.slice none 0 0) := hkG.cell 0
  have f0 := hkG.frozen 0
  have q1 : World.cell? wr ⟨(w.heap.size + 1), 1, none⟩ = some (.slice none 0 0) := hkG.cell 1
  have f1 := hkG.frozen 1
  have q2 : World.cell? wr ⟨(w.heap.size + 1), 2, none⟩ = some (.slice none 0 0) := hkG.cell 2
  have f2 := hkG.frozen 2
  have q3 : World.cell? wr ⟨(w.heap.size + 1), 3, none⟩ = some (.slice none 0 0) := hkG.cell 3
  have f3 := hkG.frozen 3
  have q4 : World.cell? wr ⟨(w.heap.size + 1), 4, none⟩ = some (.slice none 0 0) := hkG.cell 4
  have f4 := hkG.frozen 4
  have fl := hkG.lt
  go_simp
  refine hFa _ ⟨A1, A2, A3, A4, A5, x1, x2, x3, x4, x5, ((((hkG.put 0 _).put 1 _).put 2 _).put 3 _).put 4 _, ?_, ?_⟩
  ·exact ((((hC.far (p := ⟨w.heap.size + 1, 0, none⟩) hkG _).far (p := ⟨w.heap.size + 1, 1, none⟩) (hkG.put 0 _) _).far (p := ⟨w.heap.size + 1, 2, none⟩) ((hkG.put 0 _).put 1 _) _).far (p := ⟨w.heap.size + 1, 3, none⟩) (((hkG.put 0 _).put 1 _).put 2 _) _).far (p := ⟨w.heap.size + 1, 4, none⟩) ((((hkG.put 0 _).put 1 _).put 2 _).put 3 _) _
  ·exact grown_put (grown_put (grown_put (grown_put (grown_put (below_grown hb _) 0 _) 1 _) 2 _) 3 _) 4 _
 ·rintro val w2 ⟨A1, A2, A3, A4, A5, x1, x2, x3, x4, x5, hkG, hC, hgr⟩
  have hB2 : Below w.heap.size w w2 := hbE.grown hgr (by omega) (fun k hk => by cases hk; omega)
  have q0 : World.cell? w2 ⟨(w.heap.size + 1), 0, none⟩ = some (.slice A1 r.a.s.length x1) := hkG.cell 0
  have f0 := hkG.frozen 0
  have q1 : World.cell? w2 ⟨(w.heap.size + 1), 1, none⟩ = some (.slice A2 r.a.n.length x2) := hkG.cell 1
  have f1 := hkG.frozen 1
  have q2 : World.cell? w2 ⟨(w.heap.size + 1), 2, none⟩ = some (.slice A3 r.a.g.length x3) := hkG.cell 2
  have f2 := hkG.frozen 2
  have q3 : World.cell? w2 ⟨(w.heap.size + 1), 3, none⟩ = some (.slice A4 r.d.length x4) := hkG.cell 3
  have f3 := hkG.frozen 3
  have q4 : World.cell? w2 ⟨(w.heap.size + 1), 4, none⟩ = some (.slice A5 r.t.length x5) := hkG.cell 4
  have f4 := hkG.frozen 4
  have fl := hkG.lt
  simp only [putL]
  clear hgr hkG
  go_wp2
  exact bodyPost_ret (v := .agg #[.slice A1 r.a.s.length x1, .slice A2 r.a.n.length x2, .slice A3 r.a.g.length x3, .slice A4 r.d.length x4, .slice A5 r.t.length x5]) (by simp [results, Try.results65, go_sem, q0, q1, q2, q3, q4, f0, f1, f2, f3, f4, fl]) rfl ⟨A1, A2, A3, A4, A5, x1, x2, x3, x4, x5, rfl, hC.mono (by omega), hB2⟩
theorem acc_fin {w w6 : World} {g base : Nat} {S N G : Option Addr} {a : Acc} {x1 x2 x3 : Nat} {x : Int} (ra : RA w6 S N G a) (fa : FA base S N G) (hg : g < base) (hb : Below w.heap.size w w6) (hgw : w.heap.size ≤ g) (v0 v1 v2 : Value) :
 RetA w (a, x) (.returned (.tuple #[.agg #[.slice S a.s.length x1, .slice N a.n.length x2, .slice G a.g.length x3], .int .i64 x])) (((w6.setCell ⟨g, 0, none⟩ v0).setCell ⟨g, 1, none⟩ v1).setCell ⟨g, 2, none⟩ v2) :=
 ⟨S, N, G, x1, x2, x3, rfl, (((ra.far fa (p := ⟨g, 0, none⟩) hg _).far fa (p := ⟨g, 1, none⟩) hg _).far fa (p := ⟨g, 2, none⟩) hg _), fa.mono (by omega), ((hb.setCell (p := ⟨g, 0, none⟩) hgw _).setCell (p := ⟨g, 1, none⟩) hgw _).setCell (p := ⟨g, 2, none⟩) hgw _⟩
theorem partB_any {xs ys : List Int} {M S : Nat} (hj : Job xs ys M S) (X Y : Option Addr) (cx cy b : Nat) (w : World) (hx : RI .i64 w X xs) (hy : RI .i64 w Y ys) (hcx : xs.length ≤ cx) (hb : b * S < xs.length) :
 Calls Try.prog 40 #[.agg #[.slice X xs.length cx, .slice Y ys.length cy, .int .i64 (M : Int), .int .i64 (S : Int)], .int .i64 (b : Int)] w (RetQ 75 w (lagB xs ys M S b, 0)) := by
 have h := part_any X Y cx cy xs ys (M : Int) S b w hx hy hcx hj.s hj.s2 hj.lx (streamErr_zero hj.y).1 hb
 rwa [ofSpec_ok (own_stream hj.x S b) hj.y (m := M) (by have := hj.m; omega)] at h
theorem many_sub {n S b : Nat} (h : b * S < n) (hn : n ≤ 256) : IntKind.i64.wrap (((min (b * S + S) n : Nat) : Int) - ((b * S : Nat) : Int)) = ((manyB n S b : Nat) : Int) := by
 have e : ((min (b * S + S) n : Nat) : Int) - ((b * S : Nat) : Int) = ((manyB n S b : Nat) : Int) := by
  unfold manyB
  rw [Nat.succ_mul]
  omega
 rw [e, IntWalk.i64_in _ (by unfold manyB; omega)]
set_option maxRecDepth 20000 in
set_option maxHeartbeats 4000000 in
theorem addBlock_any {xs ys : List Int} {M S : Nat} (hj : Job xs ys M S) (X Y S1 N1 G1 : Option Addr) (cx cy c1 c2 c3 b : Nat) (a r : Acc) (w : World) (hx : RI .i64 w X xs) (hy : RI .i64 w Y ys) (hcx : xs.length ≤ cx) (ha : RA w S1 N1 G1 a) (hf : Fine a) (hin : b * S < xs.length) (hr : addAcc a (lagB xs ys M S b) ((b * S : Nat) : Int) ((manyB xs.length S b : Nat) : Int) = (r, 0)) :
 Calls Try.prog 66 #[.agg #[.slice X xs.length cx, .slice Y ys.length cy, .int .i64 (M : Int), .int .i64 (S : Int)], .agg #[.slice S1 a.s.length c1, .slice N1 a.n.length c2, .slice G1 a.g.length c3], .int .i64 (b : Int)] w (RetA w (r, 0)) := by
 obtain ⟨wE, hwE⟩ : ∃ wE, wE = ((w.alloc (.cells #[.slice X xs.length cx, .slice Y ys.length cy, .int .i64 (M : Int), .int .i64 (S : Int)] 24)).alloc (.cells #[.slice S1 a.s.length c1, .slice N1 a.n.length c2, .slice G1 a.g.length c3] 39)).alloc (.cells #[.slice .none 0 0, .slice .none 0 0, .slice .none 0 0] 39) := ⟨_, rfl⟩
 have hk1 : Blk wE w.heap.size 24 #[.slice X xs.length cx, .slice Y ys.length cy, .int .i64 (M : Int), .int .i64 (S : Int)] := by rw [hwE]; exact ((Blk.new _ _ _).alloc _).alloc _
 have hk2 : Blk wE (w.heap.size + 1) 39 #[.slice S1 a.s.length c1, .slice N1 a.n.length c2, .slice G1 a.g.length c3] := by rw [hwE]; exact (Blk.newAt _ _ (by simp)).alloc _
 have hk3 : Blk wE (w.heap.size + 2) 39 #[.slice .none 0 0, .slice .none 0 0, .slice .none 0 0] := by rw [hwE]; exact Blk.newAt _ _ (by simp)
 have hbE : Below w.heap.size w wE := by rw [hwE]; exact balloc (balloc (balloc (Below.refl _ _) _) _) _
 have hsE : wE.heap.size = w.heap.size + 3 := by rw [hwE]; simp
 have hlx := hj.lx
 have hbl : b ≤ 256 := by
  have := Nat.mul_le_mul_left b hj.s
  omega
 have HP := Lib.hid (fun w hx hy => partB_any hj X Y cx cy b w hx hy hcx hin)
 have HBD := Lib.hid (fun w => bounds_any X Y cx cy ys.length xs.length (M : Int) S b (b * S) (min (b * S + S) xs.length) w hj.s hj.s2 hlx hbl rfl rfl)
 have HSUB := many_sub hin hlx
 have hm := manyB_bd hj.s hj.s2 hin
 have hll := lagB_len xs ys M S b
 have hM := hj.m
 have HA := Lib.hid (fun L c4 w hx hL => accAdd_any S1 N1 G1 L c1 c2 c3 c4 a (lagB xs ys M S b) ((b * S : Nat) : Int) ((manyB xs.length S b : Nat) : Int) w hx hL (by have := hf.ls; omega) (by have := hf.ls; have := hf.ln; omega) (by have := hf.lg; omega) (by omega) (by omega) (by omega))
 rw [hr] at HA
 have hxE := hx.keep hbE
 have hyE := hy.keep hbE
 have haE := ha.keep hbE
 clear hll hr hx hy ha hf
 generalize lagB xs ys M S b = L at *
 generalize manyB xs.length S b = mb at *
 generalize hZ : b * S = Z at *
 generalize hU : min (Z + S) xs.length = U at *
 clear hZ hU hin hm
 go_enter Try.func66, Try.ntmps66
 go_wp2_with fail
 rw [← hwE]
 clear hwE
 have q0 : World.cell? wE ⟨w.heap.size, 0, none⟩ = some (.slice X xs.length cx) := hk1.cell 0
 have f0 := hk1.frozen 0
 have q1 : World.cell? wE ⟨w.heap.size, 1, none⟩ = some (.slice Y ys.length cy) := hk1.cell 1
 have f1 := hk1.frozen 1
 have q2 : World.cell? wE ⟨w.heap.size, 2, none⟩ = some (.int .i64 (M : Int)) := hk1.cell 2
 have f2 := hk1.frozen 2
 have q3 : World.cell? wE ⟨w.heap.size, 3, none⟩ = some (.int .i64 (S : Int)) := hk1.cell 3
 have f3 := hk1.frozen 3
 have fl := hk1.lt
 go_wp2_with fail
 refine (HP.out _ hxE hyE).mono ?_
 rintro _ w1 ⟨L1, k1, rfl, ho1, hb1⟩
 clear q0 q1 q2 q3 f0 f1 f2 f3 fl
 replace ho1 := own_RL ho1
 have hB1 := bstep hbE hb1
 replace hk1 := hk1.keep hb1
 replace hk2 := hk2.keep hb1
 replace hk3 := hk3.keep hb1
 replace haE := haE.keep hb1
 have q0 : World.cell? w1 ⟨w.heap.size, 0, none⟩ = some (.slice X xs.length cx) := hk1.cell 0
 have f0 := hk1.frozen 0
 have q1 : World.cell? w1 ⟨w.heap.size, 1, none⟩ = some (.slice Y ys.length cy) := hk1.cell 1
 have f1 := hk1.frozen 1
 have q2 : World.cell? w1 ⟨w.heap.size, 2, none⟩ = some (.int .i64 (M : Int)) := hk1.cell 2
 have f2 := hk1.frozen 2
 have q3 : World.cell? w1 ⟨w.heap.size, 3, none⟩ = some (.int .i64 (S : Int)) := hk1.cell 3
 have f3 := hk1.frozen 3
 have fl := hk1.lt
 go_wp2_with fail
 refine (HBD.out _).mono ?_
 rintro _ w2 ⟨rfl, hb2⟩
 clear q0 q1 q2 q3 f0 f1 f2 f3 fl
 have hB2 := bstep hB1 hb2
 replace hk2 := hk2.keep hb2
 replace hk3 := hk3.keep hb2
 replace haE := haE.keep hb2
 replace ho1 := ho1.keep hb2
 have q0 : World.cell? w2 ⟨(w.heap.size + 1), 0, none⟩ = some (.slice S1 a.s.length c1) := hk2.cell 0
 have f0 := hk2.frozen 0
 have q1 : World.cell? w2 ⟨(w.heap.size + 1), 1, none⟩ = some (.slice N1 a.n.length c2) := hk2.cell 1
 have f1 := hk2.frozen 1
 have q2 : World.cell? w2 ⟨(w.heap.size + 1), 2, none⟩ = some (.slice G1 a.g.length c3) := hk2.cell 2
 have f2 := hk2.frozen 2
 have fl := hk2.lt
 go_wp2_with fail
 refine (HA.out L1 k1 _ haE ho1).mono ?_
 rintro _ w3 ⟨S3, N3, G3, x1, x2, x3, rfl, ra, fa, hb3⟩
 clear q0 q1 q2 f0 f1 f2 fl
 have hB3 := bstep hB2 hb3
 have hk4 := hk3.keep hb3
 have hl4 := hk3.lt
 have q0 : World.cell? w3 ⟨(w.heap.size + 2), 0, none⟩ = some (.slice .none 0 0) := hk4.cell 0
 have f0 := hk4.frozen 0
 have q1 : World.cell? w3 ⟨(w.heap.size + 2), 1, none⟩ = some (.slice .none 0 0) := hk4.cell 1
 have f1 := hk4.frozen 1
 have q2 : World.cell? w3 ⟨(w.heap.size + 2), 2, none⟩ = some (.slice .none 0 0) := hk4.cell 2
 have f2 := hk4.frozen 2
 have fl := hk4.lt
 go_wp2
 exact bodyPost_ret (v := .tuple #[.agg #[.slice S3 r.s.length x1, .slice N3 r.n.length x2, .slice G3 r.g.length x3], .int .i64 0]) (by simp [results, Try.results66, go_sem, q0, q1, q2, f0, f1, f2, fl]) rfl (acc_fin ra fa hl4 hB3 (by omega) _ _ _)
end Wk
end Go.Proofs.Ytdekbncpodjgnaa
