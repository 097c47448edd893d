/-
  Parts of the proof of WorkerNames: WkTw.
-/
import Derived.Test.YtdekbncpodjgnaaT18
namespace Go.Proofs.Ytdekbncpodjgnaa
open Go.RowKit Runs Lagc Reg
set_option linter.unusedVariables false
set_option linter.unusedSimpArgs false
namespace Wk
open Lagw
structure T8P where
 b0 : Nat
 B : Nat
 S : Option Addr
 N : Option Addr
 G : Option Addr
 c1 : Nat
 c2 : Nat
 c3 : Nat
 a : Acc
structure MA (B : Nat) (w : World) (S N G : Option Addr) (c1 c2 c3 : Nat) (a : Acc) : Prop where
 s : Made encP 97 2 B a.s S c1 w
 n : Made encP 97 2 B a.n N c2 w
 g : Made encP 99 2 B a.g G c3 w
theorem MA.keep {B : Nat} {w w' : World} {S N G : Option Addr} {c1 c2 c3 : Nat} {a : Acc} (h : MA B w S N G c1 c2 c3 a) (hb : Below w.heap.size w w') : MA B w' S N G c1 c2 c3 a := ⟨h.s.keep hb, h.n.keep hb, h.g.keep hb⟩
theorem MA.mono {B B' : Nat} {w : World} {S N G : Option Addr} {c1 c2 c3 : Nat} {a : Acc} (h : MA B w S N G c1 c2 c3 a) (hb : B' ≤ B) : MA B' w S N G c1 c2 c3 a := ⟨h.s.mono hb, h.n.mono hb, h.g.mono hb⟩
theorem MA.far {B : Nat} {w : World} {S N G : Option Addr} {c1 c2 c3 : Nat} {a : Acc} (h : MA B w S N G c1 c2 c3 a) {p : Addr} {cs : Array Value} (hp : Blk w p.block 39 cs) (u : Value) : MA B (w.setCell p u) S N G c1 c2 c3 a :=
 ⟨h.s.far hp (by decide) u, h.n.far hp (by decide) u, h.g.far hp (by decide) u⟩
def T8P.F (p : T8P) : Nat → Value → World → Prop
 | 0 => fun v _ => emptyV p.B v
 | 1 => fun v _ => v = .pointer (some ⟨p.b0, 0, none⟩)
 | 2 => fun v _ => v = .slice p.S p.a.s.length p.c1
 | 3 => fun v w => ∃ A c, v = .slice A p.a.s.length c ∧ Made encP 97 2 p.B p.a.s A c w
 | 4 => fun v _ => emptyV p.B v
 | 5 => fun v _ => v = .pointer (some ⟨p.b0, 1, none⟩)
 | 6 => fun v _ => v = .slice p.N p.a.n.length p.c2
 | 7 => fun v w => ∃ A c, v = .slice A p.a.n.length c ∧ Made encP 97 2 p.B p.a.n A c w
 | 8 => fun v _ => emptyV p.B v
 | 9 => fun v _ => v = .pointer (some ⟨p.b0, 2, none⟩)
 | 10 => fun v _ => v = .slice p.G p.a.g.length p.c3
 | 11 => fun v w => ∃ A c, v = .slice A p.a.g.length c ∧ Made encP 99 2 p.B p.a.g A c w
 | 12 => fun v w => ∃ S N G c1 c2 c3, v = .agg #[.slice S p.a.s.length c1, .slice N p.a.n.length c2, .slice G p.a.g.length c3] ∧ MA p.B w S N G c1 c2 c3 p.a
 | _ => fun _ _ => True
theorem T8P.keep (p : T8P) : ∀ k v w w', Below w.heap.size w w' → p.F k v w → p.F k v w' := by
 intro k v w w' hb h
 match k, h with
 | 0, h => exact h
 | 1, h => exact h
 | 2, h => exact h
 | 3, ⟨A, c, e, h1⟩ => exact ⟨A, c, e, h1.keep hb⟩
 | 4, h => exact h
 | 5, h => exact h
 | 6, h => exact h
 | 7, ⟨A, c, e, h1⟩ => exact ⟨A, c, e, h1.keep hb⟩
 | 8, h => exact h
 | 9, h => exact h
 | 10, h => exact h
 | 11, ⟨A, c, e, h1⟩ => exact ⟨A, c, e, h1.keep hb⟩
 | 12, ⟨S, N, G, c1, c2, c3, e, h1⟩ => exact ⟨S, N, G, c1, c2, c3, e, h1.keep hb⟩
 | n + 13, _ => trivial
def t8At (B g : Nat) (a : Acc) (w0 w : World) : Prop := ∃ S N G c1 c2 c3, Blk w g 39 #[.slice S a.s.length c1, .slice N a.n.length c2, .slice G a.g.length c3] ∧ MA B w S N G c1 c2 c3 a ∧ w0.grownBy w (some g)
set_option maxRecDepth 20000 in
set_option maxHeartbeats 4000000 in
theorem twin18m_any (S N G : Option Addr) (c1 c2 c3 : Nat) (a : Acc) (w : World) (hx : RA w S N G a) (l1 : a.s.length ≤ 1000) (l2 : a.n.length ≤ 1000) (l3 : a.g.length ≤ 1000) :
 Calls Try.prog 56 #[.agg #[.slice S a.s.length c1, .slice N a.n.length c2, .slice G a.g.length c3]] w fun e w' => ∃ S N G c1 c2 c3, e = .returned (.agg #[.slice S a.s.length c1, .slice N a.n.length c2, .slice G a.g.length c3]) ∧ MA w.heap.size w' S N G c1 c2 c3 a ∧ Below w.heap.size w w' := by
 obtain ⟨i0, hi0, hz0, hz1, hz2⟩ := info_parts info_count19
 obtain ⟨i1, hi1, hy0, hy1, hy2⟩ := info_parts info_gap19
 obtain ⟨wE, hwE⟩ : ∃ wE, wE = (w.alloc (.cells #[.slice S a.s.length c1, .slice N a.n.length c2, .slice G a.g.length c3] 39)).alloc (.cells #[.slice .none 0 0, .slice .none 0 0, .slice .none 0 0] 39) := ⟨_, rfl⟩
 have hk1 : Blk wE w.heap.size 39 #[.slice S a.s.length c1, .slice N a.n.length c2, .slice G a.g.length c3] := by rw [hwE]; exact (Blk.new _ _ _).alloc _
 have hk2 : Blk wE (w.heap.size + 1) 39 #[.slice .none 0 0, .slice .none 0 0, .slice .none 0 0] := by rw [hwE]; exact Blk.newAt _ _ (by simp)
 have hbE : Below w.heap.size w wE := by rw [hwE]; exact balloc (balloc (Below.refl _ _) _) _
 have hsE : wE.heap.size = w.heap.size + 2 := by rw [hwE]; simp
 have hxE := hx.keep hbE
 go_enter Try.func56, Try.ntmps56
 go_wp2_with fail
 rw [← hwE]
 clear hwE
 refine wp_region_end (by kernel_rfl) (by kernel_rfl) (by kernel_rfl) (T8P.F ⟨w.heap.size, wE.heap.size, S, N, G, c1, c2, c3, a⟩) 13 (fun _ => t8At wE.heap.size (w.heap.size + 1) a wE) (by kernel_rfl) (T8P.keep _) ⟨?_, ?_, ?_, ?_, ?_, ?_, ?_, ?_, ?_, ?_, ?_, ?_, ?_, ?_, trivial⟩ ?_
 ·refine EndOk.grow ?_ (by decide)
  intro val ac wr hb hdep hold K hK
  have hsz := hb.size
  go_simp
  exact hK _ _ (balloc (Below.refl _ _) _) ⟨_, rfl, hsz⟩
 ·refine EndOk.grow ?_ (by decide)
  intro val ac wr hb hdep hold K hK
  have hsz := hb.size
  have e1 : ac.tmps[1]?.getD undef = .pointer (some ⟨w.heap.size, 0, none⟩) := ev_tmps ((hold 1 (by rfl)).trans (by rfl))
  go_simp
  exact hK _ _ (Below.refl _ _) rfl
 ·refine EndOk.grow ?_ (by decide)
  intro val ac wr hb hdep hold K hK
  have hsz := hb.size
  obtain ⟨e0, h0⟩ := hdep 1 4 _ rfl rfl rfl
  have e1 := ev_tmps (e0.trans h0)
  have hk := hk1.keep hb
  have q0 : World.cell? wr ⟨w.heap.size, 0, none⟩ = some (.slice S a.s.length c1) := hk.cell 0
  have f0 := hk.frozen 0
  have q1 : World.cell? wr ⟨w.heap.size, 1, none⟩ = some (.slice N a.n.length c2) := hk.cell 1
  have f1 := hk.frozen 1
  have q2 : World.cell? wr ⟨w.heap.size, 2, none⟩ = some (.slice G a.g.length c3) := hk.cell 2
  have f2 := hk.frozen 2
  have fl := hk.lt
  clear e0 h0
  go_simp
  exact hK _ _ (Below.refl _ _) rfl
 ·refine EndOk.grow ?_ (by decide)
  intro val ac wr hb hdep hold K hK
  have hsz := hb.size
  obtain ⟨e0, h0⟩ := hdep 0 3 _ rfl rfl rfl
  have e2 := (hdep 2 5 _ rfl rfl rfl).1.trans (hdep 2 5 _ rfl rfl rfl).2
  exact step_clone_G rfl (.tmp 3) (.tmp 5) 36 rfl 97 2 16 Try.underlying36 hi0 hz0 hz1 hz2 rfl (by omega) encP encP_len encP_oneP wE.heap.size _ e0 h0 hsz _ _ a.s e2 (news_RL ((hxE.s).keep hb)) (by unfold maxLen; omega) (by omega) (fun A' c' w' m hb => hK _ _ hb ⟨A', c', rfl, m⟩)
 ·refine EndOk.grow ?_ (by decide)
  intro val ac wr hb hdep hold K hK
  have hsz := hb.size
  go_simp
  exact hK _ _ (balloc (Below.refl _ _) _) ⟨_, rfl, hsz⟩
 ·refine EndOk.grow ?_ (by decide)
  intro val ac wr hb hdep hold K hK
  have hsz := hb.size
  have e1 : ac.tmps[1]?.getD undef = .pointer (some ⟨w.heap.size, 0, none⟩) := ev_tmps ((hold 1 (by rfl)).trans (by rfl))
  go_simp
  exact hK _ _ (Below.refl _ _) rfl
 ·refine EndOk.grow ?_ (by decide)
  intro val ac wr hb hdep hold K hK
  have hsz := hb.size
  obtain ⟨e0, h0⟩ := hdep 5 8 _ rfl rfl rfl
  have e1 := ev_tmps (e0.trans h0)
  have hk := hk1.keep hb
  have q0 : World.cell? wr ⟨w.heap.size, 0, none⟩ = some (.slice S a.s.length c1) := hk.cell 0
  have f0 := hk.frozen 0
  have q1 : World.cell? wr ⟨w.heap.size, 1, none⟩ = some (.slice N a.n.length c2) := hk.cell 1
  have f1 := hk.frozen 1
  have q2 : World.cell? wr ⟨w.heap.size, 2, none⟩ = some (.slice G a.g.length c3) := hk.cell 2
  have f2 := hk.frozen 2
  have fl := hk.lt
  clear e0 h0
  go_simp
  exact hK _ _ (Below.refl _ _) rfl
 ·refine EndOk.grow ?_ (by decide)
  intro val ac wr hb hdep hold K hK
  have hsz := hb.size
  obtain ⟨e0, h0⟩ := hdep 4 7 _ rfl rfl rfl
  have e2 := (hdep 6 9 _ rfl rfl rfl).1.trans (hdep 6 9 _ rfl rfl rfl).2
  exact step_clone_G rfl (.tmp 7) (.tmp 9) 36 rfl 97 2 16 Try.underlying36 hi0 hz0 hz1 hz2 rfl (by omega) encP encP_len encP_oneP wE.heap.size _ e0 h0 hsz _ _ a.n e2 (news_RL ((hxE.n).keep hb)) (by unfold maxLen; omega) (by omega) (fun A' c' w' m hb => hK _ _ hb ⟨A', c', rfl, m⟩)
 ·refine EndOk.grow ?_ (by decide)
  intro val ac wr hb hdep hold K hK
  have hsz := hb.size
  go_simp
  exact hK _ _ (balloc (Below.refl _ _) _) ⟨_, rfl, hsz⟩
 ·refine EndOk.grow ?_ (by decide)
  intro val ac wr hb hdep hold K hK
  have hsz := hb.size
  have e1 : ac.tmps[1]?.getD undef = .pointer (some ⟨w.heap.size, 0, none⟩) := ev_tmps ((hold 1 (by rfl)).trans (by rfl))
  go_simp
  exact hK _ _ (Below.refl _ _) rfl
 ·refine EndOk.grow ?_ (by decide)
  intro val ac wr hb hdep hold K hK
  have hsz := hb.size
  obtain ⟨e0, h0⟩ := hdep 9 12 _ rfl rfl rfl
  have e1 := ev_tmps (e0.trans h0)
  have hk := hk1.keep hb
  have q0 : World.cell? wr ⟨w.heap.size, 0, none⟩ = some (.slice S a.s.length c1) := hk.cell 0
  have f0 := hk.frozen 0
  have q1 : World.cell? wr ⟨w.heap.size, 1, none⟩ = some (.slice N a.n.length c2) := hk.cell 1
  have f1 := hk.frozen 1
  have q2 : World.cell? wr ⟨w.heap.size, 2, none⟩ = some (.slice G a.g.length c3) := hk.cell 2
  have f2 := hk.frozen 2
  have fl := hk.lt
  clear e0 h0
  go_simp
  exact hK _ _ (Below.refl _ _) rfl
 ·refine EndOk.grow ?_ (by decide)
  intro val ac wr hb hdep hold K hK
  have hsz := hb.size
  obtain ⟨e0, h0⟩ := hdep 8 11 _ rfl rfl rfl
  have e2 := (hdep 10 13 _ rfl rfl rfl).1.trans (hdep 10 13 _ rfl rfl rfl).2
  exact step_clone_G rfl (.tmp 11) (.tmp 13) 37 rfl 99 2 16 Try.underlying37 hi1 hy0 hy1 hy2 rfl (by omega) encP encP_len encP_oneP wE.heap.size _ e0 h0 hsz _ _ a.g e2 (news_RL ((hxE.g).keep hb)) (by unfold maxLen; omega) (by omega) (fun A' c' w' m hb => hK _ _ hb ⟨A', c', rfl, m⟩)
 ·refine EndOk.grow ?_ (by decide)
  intro val ac wr hb hdep hold K hK
  have hsz := hb.size
  obtain ⟨e1, A1, x1, h1, r1⟩ := hdep 3 6 _ rfl rfl rfl
  obtain ⟨e2, A2, x2, h2, r2⟩ := hdep 7 10 _ rfl rfl rfl
  obtain ⟨e3, A3, x3, h3, r3⟩ := hdep 11 14 _ rfl rfl rfl
  replace e1 := ev_tmps (e1.trans h1)
  replace e2 := ev_tmps (e2.trans h2)
  replace e3 := ev_tmps (e3.trans h3)
  clear h1 h2 h3
  go_simp
  exact hK _ _ (Below.refl _ _) ⟨A1, A2, A3, x1, x2, x3, rfl, r1, r2, r3⟩
 ·refine EndOk.last ?_
  intro val ac wr hb hall hdep hold K hK
  obtain ⟨A1, A2, A3, x1, x2, x3, h1, hC⟩ := hall 12 (by decide) (by decide)
  have e1 := ev_tmps ((hdep 12 15 _ rfl rfl (by decide)).trans h1)
  have e2 : ac.tmps[2]?.getD undef = .pointer (some ⟨w.heap.size + 1, 0, none⟩) := ev_tmps ((hold 2 (by rfl)).trans (by rfl))
  have hFa := hK undef
  have hkG := hk2.keep hb
  simp only at hC
  clear hall hdep hK h1
  have q0 : World.cell? wr ⟨(w.heap.size + 1), 0, none⟩ = some (.slice none 0 0) := hkG.cell 0
  have f0 := hkG.frozen 0
  have q1 : World.cell? wr ⟨(w.heap.size + 1), 1, none⟩ = some (.slice none 0 0) := hkG.cell 1
  have f1 := hkG.frozen 1
  have q2 : World.cell? wr ⟨(w.heap.size + 1), 2, none⟩ = some (.slice none 0 0) := hkG.cell 2
  have f2 := hkG.frozen 2
  have fl := hkG.lt
  go_simp
  refine hFa _ ⟨A1, A2, A3, x1, x2, x3, ((hkG.put 0 _).put 1 _).put 2 _, ?_, ?_⟩
  ·exact ((hC.far (p := ⟨w.heap.size + 1, 0, none⟩) hkG _).far (p := ⟨w.heap.size + 1, 1, none⟩) (hkG.put 0 _) _).far (p := ⟨w.heap.size + 1, 2, none⟩) ((hkG.put 0 _).put 1 _) _
  ·exact grown_put (grown_put (grown_put (below_grown hb _) 0 _) 1 _) 2 _
 ·rintro val w2 ⟨A1, A2, A3, x1, x2, x3, hkG, hC, hgr⟩
  have hB2 : Below w.heap.size w w2 := hbE.grown hgr (by omega) (fun k hk => by cases hk; omega)
  have q0 : World.cell? w2 ⟨(w.heap.size + 1), 0, none⟩ = some (.slice A1 a.s.length x1) := hkG.cell 0
  have f0 := hkG.frozen 0
  have q1 : World.cell? w2 ⟨(w.heap.size + 1), 1, none⟩ = some (.slice A2 a.n.length x2) := hkG.cell 1
  have f1 := hkG.frozen 1
  have q2 : World.cell? w2 ⟨(w.heap.size + 1), 2, none⟩ = some (.slice A3 a.g.length x3) := hkG.cell 2
  have f2 := hkG.frozen 2
  have fl := hkG.lt
  simp only [putL]
  clear hgr hkG
  go_wp2
  exact bodyPost_ret (v := .agg #[.slice A1 a.s.length x1, .slice A2 a.n.length x2, .slice A3 a.g.length x3]) (by simp [results, Try.results56, go_sem, q0, q1, q2, f0, f1, f2, fl]) rfl ⟨A1, A2, A3, x1, x2, x3, rfl, hC.mono (by omega), hB2⟩
structure TwP where
 b0 : Nat
 B : Nat
 S : Option Addr
 N : Option Addr
 G : Option Addr
 D : Option Addr
 T : Option Addr
 c1 : Nat
 c2 : Nat
 c3 : Nat
 c4 : Nat
 c5 : Nat
 r : Work
def TwP.F (p : TwP) : Nat → Value → World → Prop
 | 0 => fun v _ => v = .pointer (some ⟨p.b0, 0, none⟩)
 | 1 => fun v _ => v = .agg #[.slice p.S p.r.a.s.length p.c1, .slice p.N p.r.a.n.length p.c2, .slice p.G p.r.a.g.length p.c3]
 | 2 => fun v w => ∃ S N G c1 c2 c3, v = .agg #[.slice S p.r.a.s.length c1, .slice N p.r.a.n.length c2, .slice G p.r.a.g.length c3] ∧ MA p.B w S N G c1 c2 c3 p.r.a
 | 3 => fun v _ => emptyV p.B v
 | 4 => fun v _ => v = .pointer (some ⟨p.b0, 3, none⟩)
 | 5 => fun v _ => v = .slice p.D p.r.d.length p.c4
 | 6 => fun v w => ∃ A c, v = .slice A p.r.d.length c ∧ Made encB 4 1 p.B p.r.d A c w
 | 7 => fun v _ => emptyV p.B v
 | 8 => fun v _ => v = .pointer (some ⟨p.b0, 4, none⟩)
 | 9 => fun v _ => v = .slice p.T p.r.t.length p.c5
 | 10 => fun v w => ∃ A c, v = .slice A p.r.t.length c ∧ Made (encI .i64) 3 1 p.B p.r.t A c w
 | 11 => fun v w => ∃ S N G D T c1 c2 c3 c4 c5, v = .agg #[.slice S p.r.a.s.length c1, .slice N p.r.a.n.length c2, .slice G p.r.a.g.length c3, .slice D p.r.d.length c4, .slice T p.r.t.length c5] ∧ CW p.B w S N G D T c1 c2 c3 c4 c5 p.r
 | _ => fun _ _ => True
theorem TwP.keep (p : TwP) : ∀ k v w w', Below w.heap.size w w' → p.F k v w → p.F k v w' := by
 intro k v w w' hb h
 match k, h with
 | 0, h => exact h
 | 1, h => exact h
 | 2, ⟨S, N, G, c1, c2, c3, e, h1⟩ => exact ⟨S, N, G, c1, c2, c3, e, h1.keep hb⟩
 | 3, h => exact h
 | 4, h => exact h
 | 5, h => exact h
 | 6, ⟨A, c, e, h1⟩ => exact ⟨A, c, e, h1.keep hb⟩
 | 7, h => exact h
 | 8, h => exact h
 | 9, h => exact h
 | 10, ⟨A, c, e, h1⟩ => exact ⟨A, c, e, h1.keep hb⟩
 | 11, ⟨S, N, G, D, T, c1, c2, c3, c4, c5, e, h1⟩ => exact ⟨S, N, G, D, T, c1, c2, c3, c4, c5, e, h1.keep hb⟩
 | n + 12, _ => trivial
def twAt (B g : Nat) (r : Work) (w0 w : World) : Prop := ∃ S N G D T c1 c2 c3 c4 c5, Blk w g 42 #[.slice S r.a.s.length c1, .slice N r.a.n.length c2, .slice G r.a.g.length c3, .slice D r.d.length c4, .slice T r.t.length c5] ∧ CW B w S N G D T c1 c2 c3 c4 c5 r ∧ w0.grownBy w (some g)
set_option maxRecDepth 20000 in
set_option maxHeartbeats 4000000 in
theorem twin19_any (S N G D T : Option Addr) (c1 c2 c3 c4 c5 : Nat) (r : Work) (w : World) (hx : RW w S N G D T r) (l1 : r.a.s.length ≤ 1000) (l2 : r.a.n.length ≤ 1000) (l3 : r.a.g.length ≤ 1000) (l4 : r.d.length ≤ 1000000) (l5 : r.t.length ≤ 1000000) :
 Calls Try.prog 34 #[.agg #[.slice S r.a.s.length c1, .slice N r.a.n.length c2, .slice G r.a.g.length c3, .slice D r.d.length c4, .slice T r.t.length c5]] w fun e w' => ∃ S N G D T c1 c2 c3 c4 c5, e = .returned (.agg #[.slice S r.a.s.length c1, .slice N r.a.n.length c2, .slice G r.a.g.length c3, .slice D r.d.length c4, .slice T r.t.length c5]) ∧ CW w.heap.size w' S N G D T c1 c2 c3 c4 c5 r ∧ Below w.heap.size w w' := by
 obtain ⟨i0, hi0, hz0, hz1, hz2⟩ := info_parts info_bool
 obtain ⟨i1, hi1, hy0, hy1, hy2⟩ := info_parts info_int
 obtain ⟨wE, hwE⟩ : ∃ wE, wE = (w.alloc (.cells #[.slice S r.a.s.length c1, .slice N r.a.n.length c2, .slice G r.a.g.length c3, .slice D r.d.length c4, .slice T r.t.length c5] 42)).alloc (.cells #[.slice .none 0 0, .slice .none 0 0, .slice .none 0 0, .slice .none 0 0, .slice .none 0 0] 42) := ⟨_, rfl⟩
 have hk1 : Blk wE w.heap.size 42 #[.slice S r.a.s.length c1, .slice N r.a.n.length c2, .slice G r.a.g.length c3, .slice D r.d.length c4, .slice T r.t.length c5] := by rw [hwE]; exact (Blk.new _ _ _).alloc _
 have hk2 : Blk wE (w.heap.size + 1) 42 #[.slice .none 0 0, .slice .none 0 0, .slice .none 0 0, .slice .none 0 0, .slice .none 0 0] := by rw [hwE]; exact Blk.newAt _ _ (by simp)
 have hbE : Below w.heap.size w wE := by rw [hwE]; exact balloc (balloc (Below.refl _ _) _) _
 have hsE : wE.heap.size = w.heap.size + 2 := by rw [hwE]; simp
 have hxE := hx.keep hbE
 go_enter Try.func34, Try.ntmps34
 go_wp2_with fail
 rw [← hwE]
 clear hwE
 refine wp_region_end (by kernel_rfl) (by kernel_rfl) (by kernel_rfl) (TwP.F ⟨w.heap.size, wE.heap.size, S, N, G, D, T, c1, c2, c3, c4, c5, r⟩) 12 (fun _ => twAt wE.heap.size (w.heap.size + 1) r wE) (by kernel_rfl) (TwP.keep _) ⟨?_, ?_, ?_, ?_, ?_, ?_, ?_, ?_, ?_, ?_, ?_, ?_, ?_, trivial⟩ ?_
 ·refine EndOk.grow ?_ (by decide)
  intro val a wr hb hdep hold K hK
  have hsz := hb.size
  have e1 : a.tmps[1]?.getD undef = .pointer (some ⟨w.heap.size, 0, none⟩) := ev_tmps ((hold 1 (by rfl)).trans (by rfl))
  go_simp
  exact hK _ _ (Below.refl _ _) rfl
 ·refine EndOk.grow ?_ (by decide)
  intro val a wr hb hdep hold K hK
  have hsz := hb.size
  obtain ⟨e0, h0⟩ := hdep 0 3 _ rfl rfl rfl
  have e1 := ev_tmps (e0.trans h0)
  have hk := hk1.keep hb
  have q0 : World.cell? wr ⟨w.heap.size, 0, none⟩ = some (.slice S r.a.s.length c1) := hk.cell 0
  have f0 := hk.frozen 0
  have q1 : World.cell? wr ⟨w.heap.size, 1, none⟩ = some (.slice N r.a.n.length c2) := hk.cell 1
  have f1 := hk.frozen 1
  have q2 : World.cell? wr ⟨w.heap.size, 2, none⟩ = some (.slice G r.a.g.length c3) := hk.cell 2
  have f2 := hk.frozen 2
  have q3 : World.cell? wr ⟨w.heap.size, 3, none⟩ = some (.slice D r.d.length c4) := hk.cell 3
  have f3 := hk.frozen 3
  have q4 : World.cell? wr ⟨w.heap.size, 4, none⟩ = some (.slice T r.t.length c5) := hk.cell 4
  have f4 := hk.frozen 4
  have fl := hk.lt
  clear e0 h0
  go_simp
  exact hK _ _ (Below.refl _ _) rfl
 ·refine EndOk.grow ?_ (by decide)
  intro val a wr hb hdep hold K hK
  have hsz := hb.size
  have e2 := (hdep 1 4 _ rfl rfl rfl).1.trans (hdep 1 4 _ rfl rfl rfl).2
  refine grow_call (vs := #[.agg #[.slice S r.a.s.length c1, .slice N r.a.n.length c2, .slice G r.a.g.length c3]]) rfl rfl (by simp [e2]) Try.call56 ((twin18m_any S N G c1 c2 c3 r.a wr (hxE.a.keep hb) l1 l2 l3).mono ?_)
  rintro e w' ⟨S9, N9, G9, u1, u2, u3, rfl, ma9, hb9⟩
  exact ⟨_, rfl, hK _ _ hb9 ⟨S9, N9, G9, u1, u2, u3, rfl, ma9.mono hsz⟩⟩
 ·refine EndOk.grow ?_ (by decide)
  intro val a wr hb hdep hold K hK
  have hsz := hb.size
  go_simp
  exact hK _ _ (balloc (Below.refl _ _) _) ⟨_, rfl, hsz⟩
 ·refine EndOk.grow ?_ (by decide)
  intro val a wr hb hdep hold K hK
  have hsz := hb.size
  have e1 : a.tmps[1]?.getD undef = .pointer (some ⟨w.heap.size, 0, none⟩) := ev_tmps ((hold 1 (by rfl)).trans (by rfl))
  go_simp
  exact hK _ _ (Below.refl _ _) rfl
 ·refine EndOk.grow ?_ (by decide)
  intro val a wr hb hdep hold K hK
  have hsz := hb.size
  obtain ⟨e0, h0⟩ := hdep 4 7 _ rfl rfl rfl
  have e1 := ev_tmps (e0.trans h0)
  have hk := hk1.keep hb
  have q0 : World.cell? wr ⟨w.heap.size, 0, none⟩ = some (.slice S r.a.s.length c1) := hk.cell 0
  have f0 := hk.frozen 0
  have q1 : World.cell? wr ⟨w.heap.size, 1, none⟩ = some (.slice N r.a.n.length c2) := hk.cell 1
  have f1 := hk.frozen 1
  have q2 : World.cell? wr ⟨w.heap.size, 2, none⟩ = some (.slice G r.a.g.length c3) := hk.cell 2
  have f2 := hk.frozen 2
  have q3 : World.cell? wr ⟨w.heap.size, 3, none⟩ = some (.slice D r.d.length c4) := hk.cell 3
  have f3 := hk.frozen 3
  have q4 : World.cell? wr ⟨w.heap.size, 4, none⟩ = some (.slice T r.t.length c5) := hk.cell 4
  have f4 := hk.frozen 4
  have fl := hk.lt
  clear e0 h0
  go_simp
  exact hK _ _ (Below.refl _ _) rfl
 ·refine EndOk.grow ?_ (by decide)
  intro val a wr hb hdep hold K hK
  have hsz := hb.size
  obtain ⟨e0, h0⟩ := hdep 3 6 _ rfl rfl rfl
  have e2 := (hdep 5 8 _ rfl rfl rfl).1.trans (hdep 5 8 _ rfl rfl rfl).2
  exact step_clone_G rfl (.tmp 6) (.tmp 8) 40 rfl 4 1 1 Try.underlying40 hi0 hz0 hz1 hz2 rfl (Nat.le_refl _) encB encB_len encB_oneB wE.heap.size _ e0 h0 hsz _ _ r.d e2 (news_RBo (hxE.d.keep hb)) (by unfold maxLen; omega) (by omega) (fun A' c' w' m hb => hK _ _ hb ⟨A', c', rfl, m⟩)
 ·refine EndOk.grow ?_ (by decide)
  intro val a wr hb hdep hold K hK
  have hsz := hb.size
  go_simp
  exact hK _ _ (balloc (Below.refl _ _) _) ⟨_, rfl, hsz⟩
 ·refine EndOk.grow ?_ (by decide)
  intro val a wr hb hdep hold K hK
  have hsz := hb.size
  have e1 : a.tmps[1]?.getD undef = .pointer (some ⟨w.heap.size, 0, none⟩) := ev_tmps ((hold 1 (by rfl)).trans (by rfl))
  go_simp
  exact hK _ _ (Below.refl _ _) rfl
 ·refine EndOk.grow ?_ (by decide)
  intro val a wr hb hdep hold K hK
  have hsz := hb.size
  obtain ⟨e0, h0⟩ := hdep 8 11 _ rfl rfl rfl
  have e1 := ev_tmps (e0.trans h0)
  have hk := hk1.keep hb
  have q0 : World.cell? wr ⟨w.heap.size, 0, none⟩ = some (.slice S r.a.s.length c1) := hk.cell 0
  have f0 := hk.frozen 0
  have q1 : World.cell? wr ⟨w.heap.size, 1, none⟩ = some (.slice N r.a.n.length c2) := hk.cell 1
  have f1 := hk.frozen 1
  have q2 : World.cell? wr ⟨w.heap.size, 2, none⟩ = some (.slice G r.a.g.length c3) := hk.cell 2
  have f2 := hk.frozen 2
  have q3 : World.cell? wr ⟨w.heap.size, 3, none⟩ = some (.slice D r.d.length c4) := hk.cell 3
  have f3 := hk.frozen 3
  have q4 : World.cell? wr ⟨w.heap.size, 4, none⟩ = some (.slice T r.t.length c5) := hk.cell 4
  have f4 := hk.frozen 4
  have fl := hk.lt
  clear e0 h0
  go_simp
  exact hK _ _ (Below.refl _ _) rfl
 ·refine EndOk.grow ?_ (by decide)
  intro val a wr hb hdep hold K hK
  have hsz := hb.size
  obtain ⟨e0, h0⟩ := hdep 7 10 _ rfl rfl rfl
  have e2 := (hdep 9 12 _ rfl rfl rfl).1.trans (hdep 9 12 _ rfl rfl rfl).2
  exact step_clone_G rfl (.tmp 10) (.tmp 12) 22 rfl 3 1 8 Try.underlying22 hi1 hy0 hy1 hy2 rfl (Nat.le_refl _) (encI .i64) (encI_len .i64) encI_oneI wE.heap.size _ e0 h0 hsz _ _ r.t e2 (news_RI (hxE.t.keep hb)) (by unfold maxLen; omega) (by omega) (fun A' c' w' m hb => hK _ _ hb ⟨A', c', rfl, m⟩)
 ·refine EndOk.grow ?_ (by decide)
  intro val a wr hb hdep hold K hK
  have hsz := hb.size
  obtain ⟨e1, A1, A2, A3, x1, x2, x3, h1, ma⟩ := hdep 2 5 _ rfl rfl rfl
  obtain ⟨e2, A4, x4, h2, r4⟩ := hdep 6 9 _ rfl rfl rfl
  obtain ⟨e3, A5, x5, h3, r5⟩ := hdep 10 13 _ rfl rfl rfl
  replace e1 := ev_tmps (e1.trans h1)
  replace e2 := ev_tmps (e2.trans h2)
  replace e3 := ev_tmps (e3.trans h3)
  clear h1 h2 h3
  go_simp
  exact hK _ _ (Below.refl _ _) ⟨A1, A2, A3, A4, A5, x1, x2, x3, x4, x5, rfl, ma.s, ma.n, ma.g, r4, r5⟩
 ·refine EndOk.last ?_
  intro val a wr hb hall hdep hold K hK
  obtain ⟨A1, A2, A3, A4, A5, x1, x2, x3, x4, x5, h1, hC⟩ := hall 11 (by decide) (by decide)
  have e1 := ev_tmps ((hdep 11 14 _ rfl rfl (by decide)).trans h1)
  have e2 : a.tmps[2]?.getD undef = .pointer (some ⟨w.heap.size + 1, 0, none⟩) := ev_tmps ((hold 2 (by rfl)).trans (by rfl))
  have hFa := hK undef
  have hkG := hk2.keep hb
  simp only at hC
  clear hall hdep hK h1
  have q0 : World.cell? wr ⟨(w.heap.size + 1), 0, none⟩ = some (.slice none 0 0) := hkG.cell 0
  have f0 := hkG.frozen 0
  have q1 : World.cell? wr ⟨(w.heap.size + 1), 1, none⟩ = some (.slice none 0 0) := hkG.cell 1
  have f1 := hkG.frozen 1
  have q2 : World.cell? wr ⟨(w.heap.size + 1), 2, none⟩ = some (.slice none 0 0) := hkG.cell 2
  have f2 := hkG.frozen 2
  have q3 : World.cell? wr ⟨(w.heap.size + 1), 3, none⟩ = some (.slice none 0 0) := hkG.cell 3
  have f3 := hkG.frozen 3
  have q4 : World.cell? wr ⟨(w.heap.size + 1), 4, none⟩ = some (.slice none 0 0) := hkG.cell 4
  have f4 := hkG.frozen 4
  have fl := hkG.lt
  go_simp
  refine hFa _ ⟨A1, A2, A3, A4, A5, x1, x2, x3, x4, x5, ((((hkG.put 0 _).put 1 _).put 2 _).put 3 _).put 4 _, ?_, ?_⟩
  ·exact ((((hC.far (p := ⟨w.heap.size + 1, 0, none⟩) hkG _).far (p := ⟨w.heap.size + 1, 1, none⟩) (hkG.put 0 _) _).far (p := ⟨w.heap.size + 1, 2, none⟩) ((hkG.put 0 _).put 1 _) _).far (p := ⟨w.heap.size + 1, 3, none⟩) (((hkG.put 0 _).put 1 _).put 2 _) _).far (p := ⟨w.heap.size + 1, 4, none⟩) ((((hkG.put 0 _).put 1 _).put 2 _).put 3 _) _
  ·exact grown_put (grown_put (grown_put (grown_put (grown_put (below_grown hb _) 0 _) 1 _) 2 _) 3 _) 4 _
 ·rintro val w2 ⟨A1, A2, A3, A4, A5, x1, x2, x3, x4, x5, hkG, hC, hgr⟩
  have hB2 : Below w.heap.size w w2 := hbE.grown hgr (by omega) (fun k hk => by cases hk; omega)
  have q0 : World.cell? w2 ⟨(w.heap.size + 1), 0, none⟩ = some (.slice A1 r.a.s.length x1) := hkG.cell 0
  have f0 := hkG.frozen 0
  have q1 : World.cell? w2 ⟨(w.heap.size + 1), 1, none⟩ = some (.slice A2 r.a.n.length x2) := hkG.cell 1
  have f1 := hkG.frozen 1
  have q2 : World.cell? w2 ⟨(w.heap.size + 1), 2, none⟩ = some (.slice A3 r.a.g.length x3) := hkG.cell 2
  have f2 := hkG.frozen 2
  have q3 : World.cell? w2 ⟨(w.heap.size + 1), 3, none⟩ = some (.slice A4 r.d.length x4) := hkG.cell 3
  have f3 := hkG.frozen 3
  have q4 : World.cell? w2 ⟨(w.heap.size + 1), 4, none⟩ = some (.slice A5 r.t.length x5) := hkG.cell 4
  have f4 := hkG.frozen 4
  have fl := hkG.lt
  simp only [putL]
  clear hgr hkG
  go_wp2
  exact bodyPost_ret (v := .agg #[.slice A1 r.a.s.length x1, .slice A2 r.a.n.length x2, .slice A3 r.a.g.length x3, .slice A4 r.d.length x4, .slice A5 r.t.length x5]) (by simp [results, Try.results34, go_sem, q0, q1, q2, q3, q4, f0, f1, f2, f3, f4, fl]) rfl ⟨A1, A2, A3, A4, A5, x1, x2, x3, x4, x5, rfl, hC.mono (by omega), hB2⟩
end Wk
end Go.Proofs.Ytdekbncpodjgnaa
