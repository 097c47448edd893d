/-
  Jobs of layer 19. Contract: fringeref19.Twin.
  Jobs of layer 19. Contract: fringeref19.State.
  Jobs of layer 19. Contract: fringeref19.Next.
  Jobs of layer 19. Contract: fringeref19.Next.
  Jobs of layer 19. Contract: fringeref19.Next.
  Jobs of layer 19. Contract: fringeref19.Next.
-/
import Derived.Test.YtdekbncpodjgnaaPWkW
import Derived.Test.YtdekbncpodjgnaaPWkQ
import Derived.Test.YtdekbncpodjgnaaPRgT
import Derived.Deep.LoopGhost
namespace Go.Proofs.Ytdekbncpodjgnaa
open Go.RowKit Runs Lagc Reg
set_option linter.unusedVariables false
set_option linter.unusedSimpArgs false
namespace Wk
open Lagw

structure T8P where
  b0 : Nat
  B : Nat
  S : Option Addr
  N : Option Addr
  G : Option Addr
  c1 : Nat
  c2 : Nat
  c3 : Nat
  a : Acc
/-- Three rows that were made. -/
structure MA (B : Nat) (w : World) (S N G : Option Addr) (c1 c2 c3 : Nat) (a : Acc) : Prop where
  s : Made encP 97 2 B a.s S c1 w
  n : Made encP 97 2 B a.n N c2 w
  g : Made encP 99 2 B a.g G c3 w
theorem MA.keep {B : Nat} {w w' : World} {S N G : Option Addr} {c1 c2 c3 : Nat} {a : Acc} (h : MA B w S N G c1 c2 c3 a) (hb : Below w.heap.size w w') : MA B w' S N G c1 c2 c3 a := ⟨h.s.keep hb, h.n.keep hb, h.g.keep hb⟩
theorem MA.mono {B B' : Nat} {w : World} {S N G : Option Addr} {c1 c2 c3 : Nat} {a : Acc} (h : MA B w S N G c1 c2 c3 a) (hb : B' ≤ B) : MA B' w S N G c1 c2 c3 a := ⟨h.s.mono hb, h.n.mono hb, h.g.mono hb⟩
theorem MA.far {B : Nat} {w : World} {S N G : Option Addr} {c1 c2 c3 : Nat} {a : Acc} (h : MA B w S N G c1 c2 c3 a) {p : Addr} {cs : Array Value} (hp : Blk w p.block 39 cs) (u : Value) : MA B (w.setCell p u) S N G c1 c2 c3 a :=
  ⟨h.s.far hp (by decide) u, h.n.far hp (by decide) u, h.g.far hp (by decide) u⟩
def T8P.F (p : T8P) : Nat → Value → World → Prop
  | 0 => fun v _ => emptyV p.B v
  | 1 => fun v _ => v = .pointer (some ⟨p.b0, 0, none⟩)
  | 2 => fun v _ => v = .slice p.S p.a.s.length p.c1
  | 3 => fun v w => ∃ A c, v = .slice A p.a.s.length c ∧ Made encP 97 2 p.B p.a.s A c w
  | 4 => fun v _ => emptyV p.B v
  | 5 => fun v _ => v = .pointer (some ⟨p.b0, 1, none⟩)
  | 6 => fun v _ => v = .slice p.N p.a.n.length p.c2
  | 7 => fun v w => ∃ A c, v = .slice A p.a.n.length c ∧ Made encP 97 2 p.B p.a.n A c w
  | 8 => fun v _ => emptyV p.B v
  | 9 => fun v _ => v = .pointer (some ⟨p.b0, 2, none⟩)
  | 10 => fun v _ => v = .slice p.G p.a.g.length p.c3
  | 11 => fun v w => ∃ A c, v = .slice A p.a.g.length c ∧ Made encP 99 2 p.B p.a.g A c w
  | 12 => fun v w => ∃ S N G c1 c2 c3, v = .agg #[.slice S p.a.s.length c1, .slice N p.a.n.length c2, .slice G p.a.g.length c3] ∧ MA p.B w S N G c1 c2 c3 p.a
  | _ => fun _ _ => True
theorem T8P.keep (p : T8P) : ∀ k v w w', Below w.heap.size w w' → p.F k v w → p.F k v w' := by
  intro k v w w' hb h
  match k, h with
  | 0, h => exact h
  | 1, h => exact h
  | 2, h => exact h
  | 3, ⟨A, c, e, h1⟩ => exact ⟨A, c, e, h1.keep hb⟩
  | 4, h => exact h
  | 5, h => exact h
  | 6, h => exact h
  | 7, ⟨A, c, e, h1⟩ => exact ⟨A, c, e, h1.keep hb⟩
  | 8, h => exact h
  | 9, h => exact h
  | 10, h => exact h
  | 11, ⟨A, c, e, h1⟩ => exact ⟨A, c, e, h1.keep hb⟩
  | 12, ⟨S, N, G, c1, c2, c3, e, h1⟩ => exact ⟨S, N, G, c1, c2, c3, e, h1.keep hb⟩
  | n + 13, _ => trivial
def t8At (B g : Nat) (a : Acc) (w0 w : World) : Prop := ∃ S N G c1 c2 c3, Blk w g 39 #[.slice S a.s.length c1, .slice N a.n.length c2, .slice G a.g.length c3] ∧ MA B w S N G c1 c2 c3 a ∧ w0.grownBy w (some g)
set_option maxRecDepth 20000 in
set_option maxHeartbeats 4000000 in
theorem twin18m_any (S N G : Option Addr) (c1 c2 c3 : Nat) (a : Acc) (w : World) (hx : RA w S N G a) (l1 : a.s.length ≤ 1000) (l2 : a.n.length ≤ 1000) (l3 : a.g.length ≤ 1000) :
    Calls Try.prog 56 #[.agg #[.slice S a.s.length c1, .slice N a.n.length c2, .slice G a.g.length c3]] w fun e w' => ∃ S N G c1 c2 c3, e = .returned (.agg #[.slice S a.s.length c1, .slice N a.n.length c2, .slice G a.g.length c3]) ∧ MA w.heap.size w' S N G c1 c2 c3 a ∧ Below w.heap.size w w' := by
  obtain ⟨i0, hi0, hz0, hz1, hz2⟩ := info_parts info_count19
  obtain ⟨i1, hi1, hy0, hy1, hy2⟩ := info_parts info_gap19
  obtain ⟨wE, hwE⟩ : ∃ wE, wE = (w.alloc (.cells #[.slice S a.s.length c1, .slice N a.n.length c2, .slice G a.g.length c3] 39)).alloc (.cells #[.slice .none 0 0, .slice .none 0 0, .slice .none 0 0] 39) := ⟨_, rfl⟩
  have hk1 : Blk wE w.heap.size 39 #[.slice S a.s.length c1, .slice N a.n.length c2, .slice G a.g.length c3] := by rw [hwE]; exact (Blk.new _ _ _).alloc _
  have hk2 : Blk wE (w.heap.size + 1) 39 #[.slice .none 0 0, .slice .none 0 0, .slice .none 0 0] := by rw [hwE]; exact Blk.newAt _ _ (by simp)
  have hbE : Below w.heap.size w wE := by rw [hwE]; exact balloc (balloc (Below.refl _ _) _) _
  have hsE : wE.heap.size = w.heap.size + 2 := by rw [hwE]; simp
  have hxE := hx.keep hbE
  go_enter Try.func56, Try.ntmps56
  go_wp2_with fail
  rw [← hwE]
  clear hwE
  refine wp_region_end (by kernel_rfl) (by kernel_rfl) (by kernel_rfl) (T8P.F ⟨w.heap.size, wE.heap.size, S, N, G, c1, c2, c3, a⟩) 13 (fun _ => t8At wE.heap.size (w.heap.size + 1) a wE) (by kernel_rfl) (T8P.keep _) ⟨?_, ?_, ?_, ?_, ?_, ?_, ?_, ?_, ?_, ?_, ?_, ?_, ?_, ?_, trivial⟩ ?_
  · refine EndOk.grow ?_ (by decide)
    intro val ac wr hb hdep hold K hK
    have hsz := hb.size
    go_simp
    exact hK _ _ (balloc (Below.refl _ _) _) ⟨_, rfl, hsz⟩
  · refine EndOk.grow ?_ (by decide)
    intro val ac wr hb hdep hold K hK
    have hsz := hb.size
    have e1 : ac.tmps[1]?.getD undef = .pointer (some ⟨w.heap.size, 0, none⟩) := ev_tmps ((hold 1 (by rfl)).trans (by rfl))
    go_simp
    exact hK _ _ (Below.refl _ _) rfl
  · refine EndOk.grow ?_ (by decide)
    intro val ac wr hb hdep hold K hK
    have hsz := hb.size
    obtain ⟨e0, h0⟩ := hdep 1 4 _ rfl rfl rfl
    have e1 := ev_tmps (e0.trans h0)
    have hk := hk1.keep hb
    have q0 : World.cell? wr ⟨w.heap.size, 0, none⟩ = some (.slice S a.s.length c1) := hk.cell 0
    have f0 := hk.frozen 0
    have q1 : World.cell? wr ⟨w.heap.size, 1, none⟩ = some (.slice N a.n.length c2) := hk.cell 1
    have f1 := hk.frozen 1
    have q2 : World.cell? wr ⟨w.heap.size, 2, none⟩ = some (.slice G a.g.length c3) := hk.cell 2
    have f2 := hk.frozen 2
    have fl := hk.lt
    clear e0 h0
    go_simp
    exact hK _ _ (Below.refl _ _) rfl
  · refine EndOk.grow ?_ (by decide)
    intro val ac wr hb hdep hold K hK
    have hsz := hb.size
    obtain ⟨e0, h0⟩ := hdep 0 3 _ rfl rfl rfl
    have e2 := (hdep 2 5 _ rfl rfl rfl).1.trans (hdep 2 5 _ rfl rfl rfl).2
    exact step_clone_G rfl (.tmp 3) (.tmp 5) 36 rfl 97 2 16 Try.underlying36 hi0 hz0 hz1 hz2 rfl (by omega) encP encP_len encP_oneP wE.heap.size _ e0 h0 hsz _ _ a.s e2 (news_RL ((hxE.s).keep hb)) (by unfold maxLen; omega) (by omega) (fun A' c' w' m hb => hK _ _ hb ⟨A', c', rfl, m⟩)
  · refine EndOk.grow ?_ (by decide)
    intro val ac wr hb hdep hold K hK
    have hsz := hb.size
    go_simp
    exact hK _ _ (balloc (Below.refl _ _) _) ⟨_, rfl, hsz⟩
  · refine EndOk.grow ?_ (by decide)
    intro val ac wr hb hdep hold K hK
    have hsz := hb.size
    have e1 : ac.tmps[1]?.getD undef = .pointer (some ⟨w.heap.size, 0, none⟩) := ev_tmps ((hold 1 (by rfl)).trans (by rfl))
    go_simp
    exact hK _ _ (Below.refl _ _) rfl
  · refine EndOk.grow ?_ (by decide)
    intro val ac wr hb hdep hold K hK
    have hsz := hb.size
    obtain ⟨e0, h0⟩ := hdep 5 8 _ rfl rfl rfl
    have e1 := ev_tmps (e0.trans h0)
    have hk := hk1.keep hb
    have q0 : World.cell? wr ⟨w.heap.size, 0, none⟩ = some (.slice S a.s.length c1) := hk.cell 0
    have f0 := hk.frozen 0
    have q1 : World.cell? wr ⟨w.heap.size, 1, none⟩ = some (.slice N a.n.length c2) := hk.cell 1
    have f1 := hk.frozen 1
    have q2 : World.cell? wr ⟨w.heap.size, 2, none⟩ = some (.slice G a.g.length c3) := hk.cell 2
    have f2 := hk.frozen 2
    have fl := hk.lt
    clear e0 h0
    go_simp
    exact hK _ _ (Below.refl _ _) rfl
  · refine EndOk.grow ?_ (by decide)
    intro val ac wr hb hdep hold K hK
    have hsz := hb.size
    obtain ⟨e0, h0⟩ := hdep 4 7 _ rfl rfl rfl
    have e2 := (hdep 6 9 _ rfl rfl rfl).1.trans (hdep 6 9 _ rfl rfl rfl).2
    exact step_clone_G rfl (.tmp 7) (.tmp 9) 36 rfl 97 2 16 Try.underlying36 hi0 hz0 hz1 hz2 rfl (by omega) encP encP_len encP_oneP wE.heap.size _ e0 h0 hsz _ _ a.n e2 (news_RL ((hxE.n).keep hb)) (by unfold maxLen; omega) (by omega) (fun A' c' w' m hb => hK _ _ hb ⟨A', c', rfl, m⟩)
  · refine EndOk.grow ?_ (by decide)
    intro val ac wr hb hdep hold K hK
    have hsz := hb.size
    go_simp
    exact hK _ _ (balloc (Below.refl _ _) _) ⟨_, rfl, hsz⟩
  · refine EndOk.grow ?_ (by decide)
    intro val ac wr hb hdep hold K hK
    have hsz := hb.size
    have e1 : ac.tmps[1]?.getD undef = .pointer (some ⟨w.heap.size, 0, none⟩) := ev_tmps ((hold 1 (by rfl)).trans (by rfl))
    go_simp
    exact hK _ _ (Below.refl _ _) rfl
  · refine EndOk.grow ?_ (by decide)
    intro val ac wr hb hdep hold K hK
    have hsz := hb.size
    obtain ⟨e0, h0⟩ := hdep 9 12 _ rfl rfl rfl
    have e1 := ev_tmps (e0.trans h0)
    have hk := hk1.keep hb
    have q0 : World.cell? wr ⟨w.heap.size, 0, none⟩ = some (.slice S a.s.length c1) := hk.cell 0
    have f0 := hk.frozen 0
    have q1 : World.cell? wr ⟨w.heap.size, 1, none⟩ = some (.slice N a.n.length c2) := hk.cell 1
    have f1 := hk.frozen 1
    have q2 : World.cell? wr ⟨w.heap.size, 2, none⟩ = some (.slice G a.g.length c3) := hk.cell 2
    have f2 := hk.frozen 2
    have fl := hk.lt
    clear e0 h0
    go_simp
    exact hK _ _ (Below.refl _ _) rfl
  · refine EndOk.grow ?_ (by decide)
    intro val ac wr hb hdep hold K hK
    have hsz := hb.size
    obtain ⟨e0, h0⟩ := hdep 8 11 _ rfl rfl rfl
    have e2 := (hdep 10 13 _ rfl rfl rfl).1.trans (hdep 10 13 _ rfl rfl rfl).2
    exact step_clone_G rfl (.tmp 11) (.tmp 13) 37 rfl 99 2 16 Try.underlying37 hi1 hy0 hy1 hy2 rfl (by omega) encP encP_len encP_oneP wE.heap.size _ e0 h0 hsz _ _ a.g e2 (news_RL ((hxE.g).keep hb)) (by unfold maxLen; omega) (by omega) (fun A' c' w' m hb => hK _ _ hb ⟨A', c', rfl, m⟩)
  · refine EndOk.grow ?_ (by decide)
    intro val ac wr hb hdep hold K hK
    have hsz := hb.size
    obtain ⟨e1, A1, x1, h1, r1⟩ := hdep 3 6 _ rfl rfl rfl
    obtain ⟨e2, A2, x2, h2, r2⟩ := hdep 7 10 _ rfl rfl rfl
    obtain ⟨e3, A3, x3, h3, r3⟩ := hdep 11 14 _ rfl rfl rfl
    replace e1 := ev_tmps (e1.trans h1)
    replace e2 := ev_tmps (e2.trans h2)
    replace e3 := ev_tmps (e3.trans h3)
    clear h1 h2 h3
    go_simp
    exact hK _ _ (Below.refl _ _) ⟨A1, A2, A3, x1, x2, x3, rfl, r1, r2, r3⟩
  · refine EndOk.last ?_
    intro val ac wr hb hall hdep hold K hK
    obtain ⟨A1, A2, A3, x1, x2, x3, h1, hC⟩ := hall 12 (by decide) (by decide)
    have e1 := ev_tmps ((hdep 12 15 _ rfl rfl (by decide)).trans h1)
    have e2 : ac.tmps[2]?.getD undef = .pointer (some ⟨w.heap.size + 1, 0, none⟩) := ev_tmps ((hold 2 (by rfl)).trans (by rfl))
    have hFa := hK undef
    have hkG := hk2.keep hb
    simp only at hC
    clear hall hdep hK h1
    have q0 : World.cell? wr ⟨(w.heap.size + 1), 0, none⟩ = some (.slice none 0 0) := hkG.cell 0
    have f0 := hkG.frozen 0
    have q1 : World.cell? wr ⟨(w.heap.size + 1), 1, none⟩ = some (.slice none 0 0) := hkG.cell 1
    have f1 := hkG.frozen 1
    have q2 : World.cell? wr ⟨(w.heap.size + 1), 2, none⟩ = some (.slice none 0 0) := hkG.cell 2
    have f2 := hkG.frozen 2
    have fl := hkG.lt
    go_simp
    refine hFa _ ⟨A1, A2, A3, x1, x2, x3, ((hkG.put 0 _).put 1 _).put 2 _, ?_, ?_⟩
    · exact ((hC.far (p := ⟨w.heap.size + 1, 0, none⟩) hkG _).far (p := ⟨w.heap.size + 1, 1, none⟩) (hkG.put 0 _) _).far (p := ⟨w.heap.size + 1, 2, none⟩) ((hkG.put 0 _).put 1 _) _
    · exact grown_put (grown_put (grown_put (below_grown hb _) 0 _) 1 _) 2 _
  · rintro val w2 ⟨A1, A2, A3, x1, x2, x3, hkG, hC, hgr⟩
    have hB2 : Below w.heap.size w w2 := hbE.grown hgr (by omega) (fun k hk => by cases hk; omega)
    have q0 : World.cell? w2 ⟨(w.heap.size + 1), 0, none⟩ = some (.slice A1 a.s.length x1) := hkG.cell 0
    have f0 := hkG.frozen 0
    have q1 : World.cell? w2 ⟨(w.heap.size + 1), 1, none⟩ = some (.slice A2 a.n.length x2) := hkG.cell 1
    have f1 := hkG.frozen 1
    have q2 : World.cell? w2 ⟨(w.heap.size + 1), 2, none⟩ = some (.slice A3 a.g.length x3) := hkG.cell 2
    have f2 := hkG.frozen 2
    have fl := hkG.lt
    simp only [putL]
    clear hgr hkG
    go_wp2
    exact bodyPost_ret (v := .agg #[.slice A1 a.s.length x1, .slice A2 a.n.length x2, .slice A3 a.g.length x3]) (by simp [results, Try.results56, go_sem, q0, q1, q2, f0, f1, f2, fl]) rfl ⟨A1, A2, A3, x1, x2, x3, rfl, hC.mono (by omega), hB2⟩
structure TwP where
  b0 : Nat
  B : Nat
  S : Option Addr
  N : Option Addr
  G : Option Addr
  D : Option Addr
  T : Option Addr
  c1 : Nat
  c2 : Nat
  c3 : Nat
  c4 : Nat
  c5 : Nat
  r : Work
def TwP.F (p : TwP) : Nat → Value → World → Prop
  | 0 => fun v _ => v = .pointer (some ⟨p.b0, 0, none⟩)
  | 1 => fun v _ => v = .agg #[.slice p.S p.r.a.s.length p.c1, .slice p.N p.r.a.n.length p.c2, .slice p.G p.r.a.g.length p.c3]
  | 2 => fun v w => ∃ S N G c1 c2 c3, v = .agg #[.slice S p.r.a.s.length c1, .slice N p.r.a.n.length c2, .slice G p.r.a.g.length c3] ∧ MA p.B w S N G c1 c2 c3 p.r.a
  | 3 => fun v _ => emptyV p.B v
  | 4 => fun v _ => v = .pointer (some ⟨p.b0, 3, none⟩)
  | 5 => fun v _ => v = .slice p.D p.r.d.length p.c4
  | 6 => fun v w => ∃ A c, v = .slice A p.r.d.length c ∧ Made encB 4 1 p.B p.r.d A c w
  | 7 => fun v _ => emptyV p.B v
  | 8 => fun v _ => v = .pointer (some ⟨p.b0, 4, none⟩)
  | 9 => fun v _ => v = .slice p.T p.r.t.length p.c5
  | 10 => fun v w => ∃ A c, v = .slice A p.r.t.length c ∧ Made (encI .i64) 3 1 p.B p.r.t A c w
  | 11 => fun v w => ∃ S N G D T c1 c2 c3 c4 c5, v = .agg #[.slice S p.r.a.s.length c1, .slice N p.r.a.n.length c2, .slice G p.r.a.g.length c3, .slice D p.r.d.length c4, .slice T p.r.t.length c5] ∧ CW p.B w S N G D T c1 c2 c3 c4 c5 p.r
  | _ => fun _ _ => True
theorem TwP.keep (p : TwP) : ∀ k v w w', Below w.heap.size w w' → p.F k v w → p.F k v w' := by
  intro k v w w' hb h
  match k, h with
  | 0, h => exact h
  | 1, h => exact h
  | 2, ⟨S, N, G, c1, c2, c3, e, h1⟩ => exact ⟨S, N, G, c1, c2, c3, e, h1.keep hb⟩
  | 3, h => exact h
  | 4, h => exact h
  | 5, h => exact h
  | 6, ⟨A, c, e, h1⟩ => exact ⟨A, c, e, h1.keep hb⟩
  | 7, h => exact h
  | 8, h => exact h
  | 9, h => exact h
  | 10, ⟨A, c, e, h1⟩ => exact ⟨A, c, e, h1.keep hb⟩
  | 11, ⟨S, N, G, D, T, c1, c2, c3, c4, c5, e, h1⟩ => exact ⟨S, N, G, D, T, c1, c2, c3, c4, c5, e, h1.keep hb⟩
  | n + 12, _ => trivial
def twAt (B g : Nat) (r : Work) (w0 w : World) : Prop := ∃ S N G D T c1 c2 c3 c4 c5, Blk w g 42 #[.slice S r.a.s.length c1, .slice N r.a.n.length c2, .slice G r.a.g.length c3, .slice D r.d.length c4, .slice T r.t.length c5] ∧ CW B w S N G D T c1 c2 c3 c4 c5 r ∧ w0.grownBy w (some g)
set_option maxRecDepth 20000 in
set_option maxHeartbeats 4000000 in
theorem twin19_any (S N G D T : Option Addr) (c1 c2 c3 c4 c5 : Nat) (r : Work) (w : World) (hx : RW w S N G D T r) (l1 : r.a.s.length ≤ 1000) (l2 : r.a.n.length ≤ 1000) (l3 : r.a.g.length ≤ 1000) (l4 : r.d.length ≤ 1000000) (l5 : r.t.length ≤ 1000000) :
    Calls Try.prog 34 #[.agg #[.slice S r.a.s.length c1, .slice N r.a.n.length c2, .slice G r.a.g.length c3, .slice D r.d.length c4, .slice T r.t.length c5]] w fun e w' => ∃ S N G D T c1 c2 c3 c4 c5, e = .returned (.agg #[.slice S r.a.s.length c1, .slice N r.a.n.length c2, .slice G r.a.g.length c3, .slice D r.d.length c4, .slice T r.t.length c5]) ∧ CW w.heap.size w' S N G D T c1 c2 c3 c4 c5 r ∧ Below w.heap.size w w' := by
  obtain ⟨i0, hi0, hz0, hz1, hz2⟩ := info_parts info_bool
  obtain ⟨i1, hi1, hy0, hy1, hy2⟩ := info_parts info_int
  obtain ⟨wE, hwE⟩ : ∃ wE, wE = (w.alloc (.cells #[.slice S r.a.s.length c1, .slice N r.a.n.length c2, .slice G r.a.g.length c3, .slice D r.d.length c4, .slice T r.t.length c5] 42)).alloc (.cells #[.slice .none 0 0, .slice .none 0 0, .slice .none 0 0, .slice .none 0 0, .slice .none 0 0] 42) := ⟨_, rfl⟩
  have hk1 : Blk wE w.heap.size 42 #[.slice S r.a.s.length c1, .slice N r.a.n.length c2, .slice G r.a.g.length c3, .slice D r.d.length c4, .slice T r.t.length c5] := by rw [hwE]; exact (Blk.new _ _ _).alloc _
  have hk2 : Blk wE (w.heap.size + 1) 42 #[.slice .none 0 0, .slice .none 0 0, .slice .none 0 0, .slice .none 0 0, .slice .none 0 0] := by rw [hwE]; exact Blk.newAt _ _ (by simp)
  have hbE : Below w.heap.size w wE := by rw [hwE]; exact balloc (balloc (Below.refl _ _) _) _
  have hsE : wE.heap.size = w.heap.size + 2 := by rw [hwE]; simp
  have hxE := hx.keep hbE
  go_enter Try.func34, Try.ntmps34
  go_wp2_with fail
  rw [← hwE]
  clear hwE
  refine wp_region_end (by kernel_rfl) (by kernel_rfl) (by kernel_rfl) (TwP.F ⟨w.heap.size, wE.heap.size, S, N, G, D, T, c1, c2, c3, c4, c5, r⟩) 12 (fun _ => twAt wE.heap.size (w.heap.size + 1) r wE) (by kernel_rfl) (TwP.keep _) ⟨?_, ?_, ?_, ?_, ?_, ?_, ?_, ?_, ?_, ?_, ?_, ?_, ?_, trivial⟩ ?_
  · refine EndOk.grow ?_ (by decide)
    intro val a wr hb hdep hold K hK
    have hsz := hb.size
    have e1 : a.tmps[1]?.getD undef = .pointer (some ⟨w.heap.size, 0, none⟩) := ev_tmps ((hold 1 (by rfl)).trans (by rfl))
    go_simp
    exact hK _ _ (Below.refl _ _) rfl
  · refine EndOk.grow ?_ (by decide)
    intro val a wr hb hdep hold K hK
    have hsz := hb.size
    obtain ⟨e0, h0⟩ := hdep 0 3 _ rfl rfl rfl
    have e1 := ev_tmps (e0.trans h0)
    have hk := hk1.keep hb
    have q0 : World.cell? wr ⟨w.heap.size, 0, none⟩ = some (.slice S r.a.s.length c1) := hk.cell 0
    have f0 := hk.frozen 0
    have q1 : World.cell? wr ⟨w.heap.size, 1, none⟩ = some (.slice N r.a.n.length c2) := hk.cell 1
    have f1 := hk.frozen 1
    have q2 : World.cell? wr ⟨w.heap.size, 2, none⟩ = some (.slice G r.a.g.length c3) := hk.cell 2
    have f2 := hk.frozen 2
    have q3 : World.cell? wr ⟨w.heap.size, 3, none⟩ = some (.slice D r.d.length c4) := hk.cell 3
    have f3 := hk.frozen 3
    have q4 : World.cell? wr ⟨w.heap.size, 4, none⟩ = some (.slice T r.t.length c5) := hk.cell 4
    have f4 := hk.frozen 4
    have fl := hk.lt
    clear e0 h0
    go_simp
    exact hK _ _ (Below.refl _ _) rfl
  · refine EndOk.grow ?_ (by decide)
    intro val a wr hb hdep hold K hK
    have hsz := hb.size
    have e2 := (hdep 1 4 _ rfl rfl rfl).1.trans (hdep 1 4 _ rfl rfl rfl).2
    refine grow_call (vs := #[.agg #[.slice S r.a.s.length c1, .slice N r.a.n.length c2, .slice G r.a.g.length c3]]) rfl rfl (by simp [e2]) Try.call56 ((twin18m_any S N G c1 c2 c3 r.a wr (hxE.a.keep hb) l1 l2 l3).mono ?_)
    rintro e w' ⟨S9, N9, G9, u1, u2, u3, rfl, ma9, hb9⟩
    exact ⟨_, rfl, hK _ _ hb9 ⟨S9, N9, G9, u1, u2, u3, rfl, ma9.mono hsz⟩⟩
  · refine EndOk.grow ?_ (by decide)
    intro val a wr hb hdep hold K hK
    have hsz := hb.size
    go_simp
    exact hK _ _ (balloc (Below.refl _ _) _) ⟨_, rfl, hsz⟩
  · refine EndOk.grow ?_ (by decide)
    intro val a wr hb hdep hold K hK
    have hsz := hb.size
    have e1 : a.tmps[1]?.getD undef = .pointer (some ⟨w.heap.size, 0, none⟩) := ev_tmps ((hold 1 (by rfl)).trans (by rfl))
    go_simp
    exact hK _ _ (Below.refl _ _) rfl
  · refine EndOk.grow ?_ (by decide)
    intro val a wr hb hdep hold K hK
    have hsz := hb.size
    obtain ⟨e0, h0⟩ := hdep 4 7 _ rfl rfl rfl
    have e1 := ev_tmps (e0.trans h0)
    have hk := hk1.keep hb
    have q0 : World.cell? wr ⟨w.heap.size, 0, none⟩ = some (.slice S r.a.s.length c1) := hk.cell 0
    have f0 := hk.frozen 0
    have q1 : World.cell? wr ⟨w.heap.size, 1, none⟩ = some (.slice N r.a.n.length c2) := hk.cell 1
    have f1 := hk.frozen 1
    have q2 : World.cell? wr ⟨w.heap.size, 2, none⟩ = some (.slice G r.a.g.length c3) := hk.cell 2
    have f2 := hk.frozen 2
    have q3 : World.cell? wr ⟨w.heap.size, 3, none⟩ = some (.slice D r.d.length c4) := hk.cell 3
    have f3 := hk.frozen 3
    have q4 : World.cell? wr ⟨w.heap.size, 4, none⟩ = some (.slice T r.t.length c5) := hk.cell 4
    have f4 := hk.frozen 4
    have fl := hk.lt
    clear e0 h0
    go_simp
    exact hK _ _ (Below.refl _ _) rfl
  · refine EndOk.grow ?_ (by decide)
    intro val a wr hb hdep hold K hK
    have hsz := hb.size
    obtain ⟨e0, h0⟩ := hdep 3 6 _ rfl rfl rfl
    have e2 := (hdep 5 8 _ rfl rfl rfl).1.trans (hdep 5 8 _ rfl rfl rfl).2
    exact step_clone_G rfl (.tmp 6) (.tmp 8) 40 rfl 4 1 1 Try.underlying40 hi0 hz0 hz1 hz2 rfl (Nat.le_refl _) encB encB_len encB_oneB wE.heap.size _ e0 h0 hsz _ _ r.d e2 (news_RBo (hxE.d.keep hb)) (by unfold maxLen; omega) (by omega) (fun A' c' w' m hb => hK _ _ hb ⟨A', c', rfl, m⟩)
  · refine EndOk.grow ?_ (by decide)
    intro val a wr hb hdep hold K hK
    have hsz := hb.size
    go_simp
    exact hK _ _ (balloc (Below.refl _ _) _) ⟨_, rfl, hsz⟩
  · refine EndOk.grow ?_ (by decide)
    intro val a wr hb hdep hold K hK
    have hsz := hb.size
    have e1 : a.tmps[1]?.getD undef = .pointer (some ⟨w.heap.size, 0, none⟩) := ev_tmps ((hold 1 (by rfl)).trans (by rfl))
    go_simp
    exact hK _ _ (Below.refl _ _) rfl
  · refine EndOk.grow ?_ (by decide)
    intro val a wr hb hdep hold K hK
    have hsz := hb.size
    obtain ⟨e0, h0⟩ := hdep 8 11 _ rfl rfl rfl
    have e1 := ev_tmps (e0.trans h0)
    have hk := hk1.keep hb
    have q0 : World.cell? wr ⟨w.heap.size, 0, none⟩ = some (.slice S r.a.s.length c1) := hk.cell 0
    have f0 := hk.frozen 0
    have q1 : World.cell? wr ⟨w.heap.size, 1, none⟩ = some (.slice N r.a.n.length c2) := hk.cell 1
    have f1 := hk.frozen 1
    have q2 : World.cell? wr ⟨w.heap.size, 2, none⟩ = some (.slice G r.a.g.length c3) := hk.cell 2
    have f2 := hk.frozen 2
    have q3 : World.cell? wr ⟨w.heap.size, 3, none⟩ = some (.slice D r.d.length c4) := hk.cell 3
    have f3 := hk.frozen 3
    have q4 : World.cell? wr ⟨w.heap.size, 4, none⟩ = some (.slice T r.t.length c5) := hk.cell 4
    have f4 := hk.frozen 4
    have fl := hk.lt
    clear e0 h0
    go_simp
    exact hK _ _ (Below.refl _ _) rfl
  · refine EndOk.grow ?_ (by decide)
    intro val a wr hb hdep hold K hK
    have hsz := hb.size
    obtain ⟨e0, h0⟩ := hdep 7 10 _ rfl rfl rfl
    have e2 := (hdep 9 12 _ rfl rfl rfl).1.trans (hdep 9 12 _ rfl rfl rfl).2
    exact step_clone_G rfl (.tmp 10) (.tmp 12) 22 rfl 3 1 8 Try.underlying22 hi1 hy0 hy1 hy2 rfl (Nat.le_refl _) (encI .i64) (encI_len .i64) encI_oneI wE.heap.size _ e0 h0 hsz _ _ r.t e2 (news_RI (hxE.t.keep hb)) (by unfold maxLen; omega) (by omega) (fun A' c' w' m hb => hK _ _ hb ⟨A', c', rfl, m⟩)
  · refine EndOk.grow ?_ (by decide)
    intro val a wr hb hdep hold K hK
    have hsz := hb.size
    obtain ⟨e1, A1, A2, A3, x1, x2, x3, h1, ma⟩ := hdep 2 5 _ rfl rfl rfl
    obtain ⟨e2, A4, x4, h2, r4⟩ := hdep 6 9 _ rfl rfl rfl
    obtain ⟨e3, A5, x5, h3, r5⟩ := hdep 10 13 _ rfl rfl rfl
    replace e1 := ev_tmps (e1.trans h1)
    replace e2 := ev_tmps (e2.trans h2)
    replace e3 := ev_tmps (e3.trans h3)
    clear h1 h2 h3
    go_simp
    exact hK _ _ (Below.refl _ _) ⟨A1, A2, A3, A4, A5, x1, x2, x3, x4, x5, rfl, ma.s, ma.n, ma.g, r4, r5⟩
  · refine EndOk.last ?_
    intro val a wr hb hall hdep hold K hK
    obtain ⟨A1, A2, A3, A4, A5, x1, x2, x3, x4, x5, h1, hC⟩ := hall 11 (by decide) (by decide)
    have e1 := ev_tmps ((hdep 11 14 _ rfl rfl (by decide)).trans h1)
    have e2 : a.tmps[2]?.getD undef = .pointer (some ⟨w.heap.size + 1, 0, none⟩) := ev_tmps ((hold 2 (by rfl)).trans (by rfl))
    have hFa := hK undef
    have hkG := hk2.keep hb
    simp only at hC
    clear hall hdep hK h1
    have q0 : World.cell? wr ⟨(w.heap.size + 1), 0, none⟩ = some (.slice none 0 0) := hkG.cell 0
    have f0 := hkG.frozen 0
    have q1 : World.cell? wr ⟨(w.heap.size + 1), 1, none⟩ = some (.slice none 0 0) := hkG.cell 1
    have f1 := hkG.frozen 1
    have q2 : World.cell? wr ⟨(w.heap.size + 1), 2, none⟩ = some (.slice none 0 0) := hkG.cell 2
    have f2 := hkG.frozen 2
    have q3 : World.cell? wr ⟨(w.heap.size + 1), 3, none⟩ = some (.slice none 0 0) := hkG.cell 3
    have f3 := hkG.frozen 3
    have q4 : World.cell? wr ⟨(w.heap.size + 1), 4, none⟩ = some (.slice none 0 0) := hkG.cell 4
    have f4 := hkG.frozen 4
    have fl := hkG.lt
    go_simp
    refine hFa _ ⟨A1, A2, A3, A4, A5, x1, x2, x3, x4, x5, ((((hkG.put 0 _).put 1 _).put 2 _).put 3 _).put 4 _, ?_, ?_⟩
    · exact ((((hC.far (p := ⟨w.heap.size + 1, 0, none⟩) hkG _).far (p := ⟨w.heap.size + 1, 1, none⟩) (hkG.put 0 _) _).far (p := ⟨w.heap.size + 1, 2, none⟩) ((hkG.put 0 _).put 1 _) _).far (p := ⟨w.heap.size + 1, 3, none⟩) (((hkG.put 0 _).put 1 _).put 2 _) _).far (p := ⟨w.heap.size + 1, 4, none⟩) ((((hkG.put 0 _).put 1 _).put 2 _).put 3 _) _
    · exact grown_put (grown_put (grown_put (grown_put (grown_put (below_grown hb _) 0 _) 1 _) 2 _) 3 _) 4 _
  · rintro val w2 ⟨A1, A2, A3, A4, A5, x1, x2, x3, x4, x5, hkG, hC, hgr⟩
    have hB2 : Below w.heap.size w w2 := hbE.grown hgr (by omega) (fun k hk => by cases hk; omega)
    have q0 : World.cell? w2 ⟨(w.heap.size + 1), 0, none⟩ = some (.slice A1 r.a.s.length x1) := hkG.cell 0
    have f0 := hkG.frozen 0
    have q1 : World.cell? w2 ⟨(w.heap.size + 1), 1, none⟩ = some (.slice A2 r.a.n.length x2) := hkG.cell 1
    have f1 := hkG.frozen 1
    have q2 : World.cell? w2 ⟨(w.heap.size + 1), 2, none⟩ = some (.slice A3 r.a.g.length x3) := hkG.cell 2
    have f2 := hkG.frozen 2
    have q3 : World.cell? w2 ⟨(w.heap.size + 1), 3, none⟩ = some (.slice A4 r.d.length x4) := hkG.cell 3
    have f3 := hkG.frozen 3
    have q4 : World.cell? w2 ⟨(w.heap.size + 1), 4, none⟩ = some (.slice A5 r.t.length x5) := hkG.cell 4
    have f4 := hkG.frozen 4
    have fl := hkG.lt
    simp only [putL]
    clear hgr hkG
    go_wp2
    exact bodyPost_ret (v := .agg #[.slice A1 r.a.s.length x1, .slice A2 r.a.n.length x2, .slice A3 r.a.g.length x3, .slice A4 r.d.length x4, .slice A5 r.t.length x5]) (by simp [results, Try.results34, go_sem, q0, q1, q2, q3, q4, f0, f1, f2, f3, f4, fl]) rfl ⟨A1, A2, A3, A4, A5, x1, x2, x3, x4, x5, rfl, hC.mono (by omega), hB2⟩
end Wk
end Go.Proofs.Ytdekbncpodjgnaa
namespace Go.Proofs.Ytdekbncpodjgnaa
open Go.RowKit Runs Lagc Reg
set_option linter.unusedVariables false
set_option linter.unusedSimpArgs false
namespace Wk
open Lagw

theorem tab_len {P : Program} {ops : Array Oper} {Q : Exit → Act → World → Prop} {a0 : Act} {w0 : World} {T : Nat → Value} {i : Nat} {o : Oper} {x : Operand} {t el : TypeId} {A : Option Addr} {n c : Nat} (ht : P.underlying t = some (.slice el)) (hop : o.op = .call { callee := .builtin .len, args := #[x], argTypes := #[t] }) (hs : srcOk ops o x = true) (hw : wantT T o = true) (hx : Reg.valOf ops T a0 x = Value.slice A n c) (hv : Value.int .i64 (n : Int) = T i) : TabOk P ops Q a0 w0 T i o := by
  refine TabOk.yes hw ?_
  intro a w hb he K hK
  have e1 := (he x hs).trans hx
  have h2 := hK w (Below.refl _ _)
  rw [← hv] at h2
  have hrun : (Builtin.len_ #[t] o.type #[Value.slice A n c]).run P w = .ok (.int .i64 (n : Int)) w := by
    simp [Builtin.len_, run_underlying ht, go_sem]
  clear hs hw hb he hK hv hx
  unfold Oper.wp
  simp [execOp, hop, resolve, invoke, builtin, e1, hrun, Result.andThen]
  exact h2
/-- The values of the first region. -/
def stT (b1 b2 b3 : Bool) (pD vD pT vT vJ : Value) (dl C tl : Int) : Nat → Value
  | 0 => pD
  | 1 => vD
  | 2 => .int .i64 dl
  | 3 => vJ
  | 4 => .int .i64 C
  | 5 => .bool b1
  | 6 => .bool b1
  | 7 => bif b1 then undef else pT
  | 8 => bif b1 then undef else vT
  | 9 => bif b1 then undef else .int .i64 tl
  | 10 => bif b1 then undef else .bool b2
  | 11 => .bool (b1 || b2)
  | 12 => .bool (b1 || b2)
  | 13 => bif (b1 || b2) then undef else pT
  | 14 => bif (b1 || b2) then undef else vT
  | 15 => bif (b1 || b2) then undef else .int .i64 tl
  | 16 => bif (b1 || b2) then undef else .bool b3
  | 17 => .bool (b1 || b2 || b3)
  | _ => undef
theorem load_wD {w : World} {g : Nat} {cs : Array Value} {i : Nat} {A : Option Addr} {n c : Nat} (h : Blk w g 42 cs) (hi : cs[i]? = some (.slice A n c)) :
    (Instr.loadAt 40 (.pointer (some ⟨g, i, none⟩))).run Try.prog w = .ok (.slice A n c) w := by
  have q0 := (h.cell i).trans hi
  have q1 := h.lt
  clear h hi
  go_simp
theorem load_wT {w : World} {g : Nat} {cs : Array Value} {i : Nat} {A : Option Addr} {n c : Nat} (h : Blk w g 42 cs) (hi : cs[i]? = some (.slice A n c)) :
    (Instr.loadAt 22 (.pointer (some ⟨g, i, none⟩))).run Try.prog w = .ok (.slice A n c) w := by
  have q0 := (h.cell i).trans hi
  have q1 := h.lt
  clear h hi
  go_simp
theorem load_wJ {w : World} {g : Nat} {X Y : Option Addr} {n k cx cy : Nat} {m s : Int} (h : Blk w g 24 #[.slice X n cx, .slice Y k cy, .int .i64 m, .int .i64 s]) :
    (Instr.loadAt 24 (.pointer (some ⟨g, 0, none⟩))).run Try.prog w = .ok (.agg #[.slice X n cx, .slice Y k cy, .int .i64 m, .int .i64 s]) w := by
  have q0 : World.cell? w ⟨g, 0, none⟩ = some (.slice X n cx) := h.cell 0
  have f0 := h.frozen 0
  have q1 : World.cell? w ⟨g, 1, none⟩ = some (.slice Y k cy) := h.cell 1
  have f1 := h.frozen 1
  have q2 : World.cell? w ⟨g, 2, none⟩ = some (.int .i64 m) := h.cell 2
  have f2 := h.frozen 2
  have q3 : World.cell? w ⟨g, 3, none⟩ = some (.int .i64 s) := h.cell 3
  have f3 := h.frozen 3
  have fl := h.lt
  clear h
  go_simp
set_option maxRecDepth 20000 in
set_option maxHeartbeats 4000000 in
theorem state_any {xs ys : List Int} {M S : Nat} (hj : Job xs ys M S) (X Y S1 N1 G1 D T : Option Addr) (cx cy c1 c2 c3 c4 c5 : Nat) (r : Work) (w : World) (hx : RI .i64 w X xs) (hy : RI .i64 w Y ys) (hr : RW w S1 N1 G1 D T r) (l1 : r.a.s.length ≤ 1000000) (l2 : r.a.n.length ≤ 1000000) (l3 : r.a.g.length ≤ 1000000) (l4 : r.d.length ≤ 1000000) (l5 : r.t.length ≤ 1000000) :
    Calls Try.prog 51 #[.agg #[.slice X xs.length cx, .slice Y ys.length cy, .int .i64 (M : Int), .int .i64 (S : Int)], .agg #[.slice S1 r.a.s.length c1, .slice N1 r.a.n.length c2, .slice G1 r.a.g.length c3, .slice D r.d.length c4, .slice T r.t.length c5]] w fun e w' => e = .returned (.bool (stateB xs ys M S r)) ∧ Below w.heap.size w w' := by
  obtain ⟨wE, hwE⟩ : ∃ wE, wE = (w.alloc (.cells #[.slice X xs.length cx, .slice Y ys.length cy, .int .i64 (M : Int), .int .i64 (S : Int)] 24)).alloc (.cells #[.slice S1 r.a.s.length c1, .slice N1 r.a.n.length c2, .slice G1 r.a.g.length c3, .slice D r.d.length c4, .slice T r.t.length c5] 42) := ⟨_, rfl⟩
  have hk1 : Blk wE w.heap.size 24 #[.slice X xs.length cx, .slice Y ys.length cy, .int .i64 (M : Int), .int .i64 (S : Int)] := by rw [hwE]; exact (Blk.new _ _ _).alloc _
  have hk2 : Blk wE (w.heap.size + 1) 42 #[.slice S1 r.a.s.length c1, .slice N1 r.a.n.length c2, .slice G1 r.a.g.length c3, .slice D r.d.length c4, .slice T r.t.length c5] := by rw [hwE]; exact Blk.newAt _ _ (by simp)
  have hbE : Below w.heap.size w wE := by rw [hwE]; exact balloc (balloc (Below.refl _ _) _) _
  have hsE : wE.heap.size = w.heap.size + 2 := by rw [hwE]; simp
  have hxE := hx.keep hbE
  have hyE := hy.keep hbE
  have hrE := hr.keep hbE
  have HC := Lib.hid (fun w => refCount_any X Y xs.length ys.length cx cy (M : Int) S w hj.s hj.s2 hj.lx)
  have hc64 := hj.c
  have hSB : stateB xs ys M S r = (decide (r.d.length = cdiv xs.length S) && (decide (1 ≤ r.t.length) && decide (r.t.length ≤ 6)) && atB (cdiv xs.length S) r.t && sameB r.a (sumA xs ys M S r.d)) := rfl
  by_cases hdC : r.d.length = cdiv xs.length S
  · have HS := Lib.hid (fun w hx hy hd => summed_any hj X Y D cx cy c4 r.d w hx hy hd hdC)
    have hfS := (sumA_is hj hdC).fine
    generalize sumA xs ys M S r.d = SD at *
    have dC : ((r.d.length : Int) != ((cdiv xs.length S : Nat) : Int)) = false := by simp [hdC]
    have HDC := Lib.hid hdC
    generalize cdiv xs.length S = C at *
    rw [decide_eq_true hdC, Bool.true_and] at hSB
    clear hj hdC
    by_cases ht1 : r.t.length = 0
    · have HR := Lib.hid (show stateB xs ys M S r = false by rw [hSB, decide_eq_false (show ¬ 1 ≤ r.t.length by omega)]; simp)
      have dt : ((r.t.length : Int) == 0) = true := by rw [ht1]; rfl
      clear hSB ht1
      go_enter Try.func51, Try.ntmps51
      go_wp2_with fail
      rw [← hwE]
      clear hwE
      refine wp_region_tab (by kernel_rfl) (by kernel_rfl) (by kernel_rfl) (by kernel_rfl) (stT false true false (.pointer (some ⟨w.heap.size + 1, 3, none⟩)) (.slice D r.d.length c4) (.pointer (some ⟨w.heap.size + 1, 4, none⟩)) (.slice T r.t.length c5) (.agg #[.slice X xs.length cx, .slice Y ys.length cy, .int .i64 (M : Int), .int .i64 (S : Int)]) (r.d.length : Int) (C : Int) (r.t.length : Int)) ⟨?_, ?_, ?_, ?_, ?_, ?_, ?_, ?_, ?_, ?_, ?_, ?_, ?_, ?_, ?_, ?_, ?_, ?_, trivial⟩ ?_
      · exact tab_field (v := .pointer (some ⟨w.heap.size + 1, 0, none⟩)) rfl (by kernel_rfl) (by kernel_rfl) (by kernel_rfl) (fun w => by go_simp; kernel_rfl)
      · exact tab_load rfl (by kernel_rfl) (by kernel_rfl) (by kernel_rfl) (fun w hb => load_wD (i := 3) (hk2.keep hb) rfl)
      · exact tab_len (A := D) (n := r.d.length) (c := c4) Try.underlying40 rfl (by kernel_rfl) (by kernel_rfl) (by kernel_rfl) (by kernel_rfl)
      · exact tab_load rfl (by kernel_rfl) (by kernel_rfl) (by kernel_rfl) (fun w hb => load_wJ (hk1.keep hb))
      · exact tab_call rfl (by kernel_rfl) (by kernel_rfl) (by kernel_rfl) Try.call38 (fun w hbr => HC.out w)
      · exact tab_bin (k := .i64) (k' := .i64) (m := (r.d.length : Int)) (n := (C : Int)) rfl (by kernel_rfl) (by kernel_rfl) (by kernel_rfl) (by kernel_rfl) (fun w => by go_simp; kernel_rfl)
      · exact tab_move rfl (by kernel_rfl) (by kernel_rfl) (by kernel_rfl)
      · exact tab_field (v := .pointer (some ⟨w.heap.size + 1, 0, none⟩)) rfl (by kernel_rfl) (by kernel_rfl) (by kernel_rfl) (fun w => by go_simp; kernel_rfl)
      · exact tab_load rfl (by kernel_rfl) (by kernel_rfl) (by kernel_rfl) (fun w hb => load_wT (i := 4) (hk2.keep hb) rfl)
      · exact tab_len (A := T) (n := r.t.length) (c := c5) Try.underlying22 rfl (by kernel_rfl) (by kernel_rfl) (by kernel_rfl) (by kernel_rfl)
      · exact tab_bin (k := .i64) (k' := .i64) (m := (r.t.length : Int)) (n := 0) rfl (by kernel_rfl) (by kernel_rfl) (by kernel_rfl) (by kernel_rfl) (fun w => by go_simp; kernel_rfl)
      · exact tab_pick rfl (by kernel_rfl) (by kernel_rfl) false (by kernel_rfl) (by kernel_rfl)
      · exact tab_move rfl (by kernel_rfl) (by kernel_rfl) (by kernel_rfl)
      · exact tab_not (by kernel_rfl) (by kernel_rfl)
      · exact tab_not (by kernel_rfl) (by kernel_rfl)
      · exact tab_not (by kernel_rfl) (by kernel_rfl)
      · exact tab_not (by kernel_rfl) (by kernel_rfl)
      · exact tab_pick rfl (by kernel_rfl) (by kernel_rfl) true (by kernel_rfl) (by kernel_rfl)
      intro w9 hb9
      generalize hTT : stT _ _ _ _ _ _ _ _ _ _ _ = TT
      have h17 : TT 17 = .bool true := by rw [← hTT]; rfl
      clear hTT
      generalize hF : putL TT 0 _ _ = aF
      have hfr : aF = ⟨#[.agg #[.slice X xs.length cx, .slice Y ys.length cy, .int .i64 (M : Int), .int .i64 (S : Int)], .agg #[.slice S1 r.a.s.length c1, .slice N1 r.a.n.length c2, .slice G1 r.a.g.length c3, .slice D r.d.length c4, .slice T r.t.length c5], .pointer (some ⟨w.heap.size, 0, none⟩), .pointer (some ⟨w.heap.size + 1, 0, none⟩), .bool false, undef, TT 0, TT 1, TT 2, TT 3, TT 4, TT 5, TT 6, TT 7, TT 8, TT 9, TT 10, TT 11, TT 12, TT 13, TT 14, TT 15, TT 16, TT 17, undef, undef, undef, undef, undef, undef, undef, undef, undef, undef, undef, undef, undef, undef, undef, undef, undef, undef, undef, undef, undef, undef, undef, undef, undef, undef, undef, undef, undef, undef, undef], []⟩ := by rw [← hF]; kernel_rfl
      rw [hfr, h17]
      clear hF hfr h17
      go_wp2
      go_ret
      exact ⟨ret_bool HR.out.symm, bstep hbE hb9⟩
    have dt : ((r.t.length : Int) == 0) = false := by rw [beq_eq_false_iff_ne]; omega
    by_cases ht6 : 6 < r.t.length
    · have HR := Lib.hid (show stateB xs ys M S r = false by rw [hSB, decide_eq_false (show ¬ r.t.length ≤ 6 by omega)]; simp)
      have dt6 : decide (6 < (r.t.length : Int)) = true := by simp; omega
      clear hSB ht1 ht6
      go_enter Try.func51, Try.ntmps51
      go_wp2_with fail
      rw [← hwE]
      clear hwE
      refine wp_region_tab (by kernel_rfl) (by kernel_rfl) (by kernel_rfl) (by kernel_rfl) (stT false false true (.pointer (some ⟨w.heap.size + 1, 3, none⟩)) (.slice D r.d.length c4) (.pointer (some ⟨w.heap.size + 1, 4, none⟩)) (.slice T r.t.length c5) (.agg #[.slice X xs.length cx, .slice Y ys.length cy, .int .i64 (M : Int), .int .i64 (S : Int)]) (r.d.length : Int) (C : Int) (r.t.length : Int)) ⟨?_, ?_, ?_, ?_, ?_, ?_, ?_, ?_, ?_, ?_, ?_, ?_, ?_, ?_, ?_, ?_, ?_, ?_, trivial⟩ ?_
      · exact tab_field (v := .pointer (some ⟨w.heap.size + 1, 0, none⟩)) rfl (by kernel_rfl) (by kernel_rfl) (by kernel_rfl) (fun w => by go_simp; kernel_rfl)
      · exact tab_load rfl (by kernel_rfl) (by kernel_rfl) (by kernel_rfl) (fun w hb => load_wD (i := 3) (hk2.keep hb) rfl)
      · exact tab_len (A := D) (n := r.d.length) (c := c4) Try.underlying40 rfl (by kernel_rfl) (by kernel_rfl) (by kernel_rfl) (by kernel_rfl)
      · exact tab_load rfl (by kernel_rfl) (by kernel_rfl) (by kernel_rfl) (fun w hb => load_wJ (hk1.keep hb))
      · exact tab_call rfl (by kernel_rfl) (by kernel_rfl) (by kernel_rfl) Try.call38 (fun w hbr => HC.out w)
      · exact tab_bin (k := .i64) (k' := .i64) (m := (r.d.length : Int)) (n := (C : Int)) rfl (by kernel_rfl) (by kernel_rfl) (by kernel_rfl) (by kernel_rfl) (fun w => by go_simp; kernel_rfl)
      · exact tab_move rfl (by kernel_rfl) (by kernel_rfl) (by kernel_rfl)
      · exact tab_field (v := .pointer (some ⟨w.heap.size + 1, 0, none⟩)) rfl (by kernel_rfl) (by kernel_rfl) (by kernel_rfl) (fun w => by go_simp; kernel_rfl)
      · exact tab_load rfl (by kernel_rfl) (by kernel_rfl) (by kernel_rfl) (fun w hb => load_wT (i := 4) (hk2.keep hb) rfl)
      · exact tab_len (A := T) (n := r.t.length) (c := c5) Try.underlying22 rfl (by kernel_rfl) (by kernel_rfl) (by kernel_rfl) (by kernel_rfl)
      · exact tab_bin (k := .i64) (k' := .i64) (m := (r.t.length : Int)) (n := 0) rfl (by kernel_rfl) (by kernel_rfl) (by kernel_rfl) (by kernel_rfl) (fun w => by go_simp; kernel_rfl)
      · exact tab_pick rfl (by kernel_rfl) (by kernel_rfl) false (by kernel_rfl) (by kernel_rfl)
      · exact tab_move rfl (by kernel_rfl) (by kernel_rfl) (by kernel_rfl)
      · exact tab_field (v := .pointer (some ⟨w.heap.size + 1, 0, none⟩)) rfl (by kernel_rfl) (by kernel_rfl) (by kernel_rfl) (fun w => by go_simp; kernel_rfl)
      · exact tab_load rfl (by kernel_rfl) (by kernel_rfl) (by kernel_rfl) (fun w hb => load_wT (i := 4) (hk2.keep hb) rfl)
      · exact tab_len (A := T) (n := r.t.length) (c := c5) Try.underlying22 rfl (by kernel_rfl) (by kernel_rfl) (by kernel_rfl) (by kernel_rfl)
      · exact tab_bin (k := .i64) (k' := .i64) (m := (r.t.length : Int)) (n := 6) rfl (by kernel_rfl) (by kernel_rfl) (by kernel_rfl) (by kernel_rfl) (fun w => by go_simp; kernel_rfl)
      · exact tab_pick rfl (by kernel_rfl) (by kernel_rfl) false (by kernel_rfl) (by kernel_rfl)
      intro w9 hb9
      generalize hTT : stT _ _ _ _ _ _ _ _ _ _ _ = TT
      have h17 : TT 17 = .bool true := by rw [← hTT]; rfl
      clear hTT
      generalize hF : putL TT 0 _ _ = aF
      have hfr : aF = ⟨#[.agg #[.slice X xs.length cx, .slice Y ys.length cy, .int .i64 (M : Int), .int .i64 (S : Int)], .agg #[.slice S1 r.a.s.length c1, .slice N1 r.a.n.length c2, .slice G1 r.a.g.length c3, .slice D r.d.length c4, .slice T r.t.length c5], .pointer (some ⟨w.heap.size, 0, none⟩), .pointer (some ⟨w.heap.size + 1, 0, none⟩), .bool false, undef, TT 0, TT 1, TT 2, TT 3, TT 4, TT 5, TT 6, TT 7, TT 8, TT 9, TT 10, TT 11, TT 12, TT 13, TT 14, TT 15, TT 16, TT 17, undef, undef, undef, undef, undef, undef, undef, undef, undef, undef, undef, undef, undef, undef, undef, undef, undef, undef, undef, undef, undef, undef, undef, undef, undef, undef, undef, undef, undef, undef, undef], []⟩ := by rw [← hF]; kernel_rfl
      rw [hfr, h17]
      clear hF hfr h17
      go_wp2
      go_ret
      exact ⟨ret_bool HR.out.symm, bstep hbE hb9⟩
    have dt6 : decide (6 < (r.t.length : Int)) = false := by simp; omega
    rw [decide_eq_true (show 1 ≤ r.t.length by omega), decide_eq_true (show r.t.length ≤ 6 by omega), Bool.true_and, Bool.true_and] at hSB
    have ht6' : r.t.length ≤ 6 := by omega
    have HAN := Lib.hid (fun k hk h => (show stateB xs ys M S r = false by rw [hSB, atB_no (C := C) (t := r.t) (k := k) hk h]; rfl))
    have HAY := Lib.hid (fun (ha : atB C r.t = true) => (show stateB xs ys M S r = sameB r.a SD by rw [hSB, ha]; rfl))
    have HSM := Lib.hid (fun S9 N9 G9 x y z w hx hy => same18_any S1 N1 G1 S9 N9 G9 c1 c2 c3 x y z r.a SD w hx hy (by omega) (by omega) (by omega) (by have := hfS.ls; omega) (by have := hfS.ls; have := hfS.ln; omega) (by have := hfS.lg; omega))
    clear hSB hfS ht1 ht6
    generalize stateB xs ys M S r = RES at *
    go_enter Try.func51, Try.ntmps51
    go_wp2_with fail
    rw [← hwE]
    clear hwE
    refine wp_region_tab (by kernel_rfl) (by kernel_rfl) (by kernel_rfl) (by kernel_rfl) (stT false false false (.pointer (some ⟨w.heap.size + 1, 3, none⟩)) (.slice D r.d.length c4) (.pointer (some ⟨w.heap.size + 1, 4, none⟩)) (.slice T r.t.length c5) (.agg #[.slice X xs.length cx, .slice Y ys.length cy, .int .i64 (M : Int), .int .i64 (S : Int)]) (r.d.length : Int) (C : Int) (r.t.length : Int)) ⟨?_, ?_, ?_, ?_, ?_, ?_, ?_, ?_, ?_, ?_, ?_, ?_, ?_, ?_, ?_, ?_, ?_, ?_, trivial⟩ ?_
    · exact tab_field (v := .pointer (some ⟨w.heap.size + 1, 0, none⟩)) rfl (by kernel_rfl) (by kernel_rfl) (by kernel_rfl) (fun w => by go_simp; kernel_rfl)
    · exact tab_load rfl (by kernel_rfl) (by kernel_rfl) (by kernel_rfl) (fun w hb => load_wD (i := 3) (hk2.keep hb) rfl)
    · exact tab_len (A := D) (n := r.d.length) (c := c4) Try.underlying40 rfl (by kernel_rfl) (by kernel_rfl) (by kernel_rfl) (by kernel_rfl)
    · exact tab_load rfl (by kernel_rfl) (by kernel_rfl) (by kernel_rfl) (fun w hb => load_wJ (hk1.keep hb))
    · exact tab_call rfl (by kernel_rfl) (by kernel_rfl) (by kernel_rfl) Try.call38 (fun w hbr => HC.out w)
    · exact tab_bin (k := .i64) (k' := .i64) (m := (r.d.length : Int)) (n := (C : Int)) rfl (by kernel_rfl) (by kernel_rfl) (by kernel_rfl) (by kernel_rfl) (fun w => by go_simp; kernel_rfl)
    · exact tab_move rfl (by kernel_rfl) (by kernel_rfl) (by kernel_rfl)
    · exact tab_field (v := .pointer (some ⟨w.heap.size + 1, 0, none⟩)) rfl (by kernel_rfl) (by kernel_rfl) (by kernel_rfl) (fun w => by go_simp; kernel_rfl)
    · exact tab_load rfl (by kernel_rfl) (by kernel_rfl) (by kernel_rfl) (fun w hb => load_wT (i := 4) (hk2.keep hb) rfl)
    · exact tab_len (A := T) (n := r.t.length) (c := c5) Try.underlying22 rfl (by kernel_rfl) (by kernel_rfl) (by kernel_rfl) (by kernel_rfl)
    · exact tab_bin (k := .i64) (k' := .i64) (m := (r.t.length : Int)) (n := 0) rfl (by kernel_rfl) (by kernel_rfl) (by kernel_rfl) (by kernel_rfl) (fun w => by go_simp; kernel_rfl)
    · exact tab_pick rfl (by kernel_rfl) (by kernel_rfl) false (by kernel_rfl) (by kernel_rfl)
    · exact tab_move rfl (by kernel_rfl) (by kernel_rfl) (by kernel_rfl)
    · exact tab_field (v := .pointer (some ⟨w.heap.size + 1, 0, none⟩)) rfl (by kernel_rfl) (by kernel_rfl) (by kernel_rfl) (fun w => by go_simp; kernel_rfl)
    · exact tab_load rfl (by kernel_rfl) (by kernel_rfl) (by kernel_rfl) (fun w hb => load_wT (i := 4) (hk2.keep hb) rfl)
    · exact tab_len (A := T) (n := r.t.length) (c := c5) Try.underlying22 rfl (by kernel_rfl) (by kernel_rfl) (by kernel_rfl) (by kernel_rfl)
    · exact tab_bin (k := .i64) (k' := .i64) (m := (r.t.length : Int)) (n := 6) rfl (by kernel_rfl) (by kernel_rfl) (by kernel_rfl) (by kernel_rfl) (fun w => by go_simp; kernel_rfl)
    · exact tab_pick rfl (by kernel_rfl) (by kernel_rfl) false (by kernel_rfl) (by kernel_rfl)
    intro w9 hb9
    · generalize hTT : stT _ _ _ _ _ _ _ _ _ _ _ = TT
      have h17 : TT 17 = .bool false := by rw [← hTT]; rfl
      clear hTT
      generalize hF : putL TT 0 _ _ = aF
      have hfr : aF = ⟨#[.agg #[.slice X xs.length cx, .slice Y ys.length cy, .int .i64 (M : Int), .int .i64 (S : Int)], .agg #[.slice S1 r.a.s.length c1, .slice N1 r.a.n.length c2, .slice G1 r.a.g.length c3, .slice D r.d.length c4, .slice T r.t.length c5], .pointer (some ⟨w.heap.size, 0, none⟩), .pointer (some ⟨w.heap.size + 1, 0, none⟩), .bool false, undef, TT 0, TT 1, TT 2, TT 3, TT 4, TT 5, TT 6, TT 7, TT 8, TT 9, TT 10, TT 11, TT 12, TT 13, TT 14, TT 15, TT 16, TT 17, undef, undef, undef, undef, undef, undef, undef, undef, undef, undef, undef, undef, undef, undef, undef, undef, undef, undef, undef, undef, undef, undef, undef, undef, undef, undef, undef, undef, undef, undef, undef], []⟩ := by rw [← hF]; kernel_rfl
      rw [hfr, h17]
      clear hF hfr h17
      have hB9 := bstep hbE hb9
      replace hk1 := hk1.keep hb9
      replace hk2 := hk2.keep hb9
      replace hxE := hxE.keep hb9
      replace hyE := hyE.keep hb9
      replace hrE := hrE.keep hb9
      have p0 : World.cell? w9 ⟨(w.heap.size + 1), 0, none⟩ = some (.slice S1 r.a.s.length c1) := hk2.cell 0
      have g0 := hk2.frozen 0
      have p1 : World.cell? w9 ⟨(w.heap.size + 1), 1, none⟩ = some (.slice N1 r.a.n.length c2) := hk2.cell 1
      have g1 := hk2.frozen 1
      have p2 : World.cell? w9 ⟨(w.heap.size + 1), 2, none⟩ = some (.slice G1 r.a.g.length c3) := hk2.cell 2
      have g2 := hk2.frozen 2
      have p3 : World.cell? w9 ⟨(w.heap.size + 1), 3, none⟩ = some (.slice D r.d.length c4) := hk2.cell 3
      have g3 := hk2.frozen 3
      have p4 : World.cell? w9 ⟨(w.heap.size + 1), 4, none⟩ = some (.slice T r.t.length c5) := hk2.cell 4
      have g4 := hk2.frozen 4
      have gl := hk2.lt
      go_wp2
      go_loopg [5] r.t.length (fun gk i wr => ∃ k n : Nat, k + gk = r.t.length ∧ i = .int .i64 k ∧ wr = w9.drewN n ∧ Hid (∀ j, j < k → -1 ≤ r.t.getD j 0 ∧ r.t.getD j 0 < (C : Int)))
      case atStart => exact ⟨0, 0, by omega, rfl, rfl, Lib.hid (by intro j hj; omega)⟩
      case round =>
        obtain ⟨k, n, hk, rfl, rfl, hall⟩ := hrel
        have hk' : k ≤ r.t.length := by omega
        have HK2 := Lib.hid hk
        clear hk
        by_cases hlt : k < r.t.length
        · obtain ⟨bt, ot, hTe, htl, htc⟩ := hrE.t (by omega)
          have htk := htc k hlt
          have HNX := Lib.hid (fun h => all_lt_succ (p := fun j => -1 ≤ r.t.getD j 0 ∧ r.t.getD j 0 < (C : Int)) hall.out h)
          have HANk := Lib.hid (HAN.out k hlt)
          clear htc HAN
          subst hTe
          generalize r.t.getD k 0 = x at *
          by_cases hx1 : x < -1
          · have dx : decide (x < -1) = true := decide_eq_true hx1
            have HR := Lib.hid (HANk.out (.inl hx1))
            clear hx1
            go_wp2
            go_quiet (fail)
            go_wp2
            go_ret
            exact ⟨ret_bool HR.out.symm, by first | exact below_drewN hB9 _ | exact below_drewN (below_drewN hB9 _) _⟩
          have dx : decide (x < -1) = false := decide_eq_false hx1
          by_cases hx2 : (C : Int) ≤ x
          · have dx2 : decide ((r.d.length : Int) ≤ x) = true := by rw [HDC.out]; exact decide_eq_true hx2
            have HR := Lib.hid (HANk.out (.inr hx2))
            clear hx1 hx2
            go_wp2
            go_quiet (fail)
            go_wp2
            go_ret
            exact ⟨ret_bool HR.out.symm, by first | exact below_drewN hB9 _ | exact below_drewN (below_drewN hB9 _) _⟩
          have dx2 : decide ((r.d.length : Int) ≤ x) = false := by rw [HDC.out]; exact decide_eq_false hx2
          have HX := Lib.hid (HNX.out ⟨by omega, by omega⟩)
          clear hx1 hx2
          go_wp2
          go_quiet (fail)
          go_wp2
          go_roundg (gk - 1)
          case rel => exact ⟨k + 1, _, by have := HK2.out; omega, by go_num, rfl, HX⟩
          case measure => have := HK2.out; omega
        · have hat := atB_yes (C := C) (t := r.t) (fun j hj => hall.out j (by omega))
          have HRES := Lib.hid (HAY.out hat)
          clear hall HAY hat HAN HK2 p0 p1 p2 p3 p4 g0 g1 g2 g3 g4 gl
          obtain ⟨w5, hw5⟩ : ∃ w5, w5 = w9.drewN n := ⟨_, rfl⟩
          have hb5 : Below w9.heap.size w9 w5 := by rw [hw5]; exact below_drewN (Below.refl _ _) _
          rw [← hw5]
          clear hw5
          have hB5 := bstep hB9 hb5
          replace hk1 := hk1.keep hb5
          replace hk2 := hk2.keep hb5
          replace hxE := hxE.keep hb5
          replace hyE := hyE.keep hb5
          replace hrE := hrE.keep hb5
          have HH := Lib.hid (fun W (hW : Below w5.heap.size w5 W) => (show W.cell? ⟨w.heap.size + 1, 0, none⟩ = some (.slice S1 r.a.s.length c1) ∧ W.cell? ⟨w.heap.size + 1, 1, none⟩ = some (.slice N1 r.a.n.length c2) ∧ W.cell? ⟨w.heap.size + 1, 2, none⟩ = some (.slice G1 r.a.g.length c3) ∧ w.heap.size + 1 < W.heap.size from ⟨(hk2.keep hW).cell 0, (hk2.keep hW).cell 1, (hk2.keep hW).cell 2, (hk2.keep hW).lt⟩))
          have q0 : World.cell? w5 ⟨w.heap.size, 0, none⟩ = some (.slice X xs.length cx) := hk1.cell 0
          have f0 := hk1.frozen 0
          have q1 : World.cell? w5 ⟨w.heap.size, 1, none⟩ = some (.slice Y ys.length cy) := hk1.cell 1
          have f1 := hk1.frozen 1
          have q2 : World.cell? w5 ⟨w.heap.size, 2, none⟩ = some (.int .i64 (M : Int)) := hk1.cell 2
          have f2 := hk1.frozen 2
          have q3 : World.cell? w5 ⟨w.heap.size, 3, none⟩ = some (.int .i64 (S : Int)) := hk1.cell 3
          have f3 := hk1.frozen 3
          have fl := hk1.lt
          have p0 : World.cell? w5 ⟨(w.heap.size + 1), 0, none⟩ = some (.slice S1 r.a.s.length c1) := hk2.cell 0
          have g0 := hk2.frozen 0
          have p1 : World.cell? w5 ⟨(w.heap.size + 1), 1, none⟩ = some (.slice N1 r.a.n.length c2) := hk2.cell 1
          have g1 := hk2.frozen 1
          have p2 : World.cell? w5 ⟨(w.heap.size + 1), 2, none⟩ = some (.slice G1 r.a.g.length c3) := hk2.cell 2
          have g2 := hk2.frozen 2
          have p3 : World.cell? w5 ⟨(w.heap.size + 1), 3, none⟩ = some (.slice D r.d.length c4) := hk2.cell 3
          have g3 := hk2.frozen 3
          have p4 : World.cell? w5 ⟨(w.heap.size + 1), 4, none⟩ = some (.slice T r.t.length c5) := hk2.cell 4
          have g4 := hk2.frozen 4
          have gl := hk2.lt
          go_wp2
          go_region_law
            ((first
              | (go_simp; go_at_call 31; (with_reducible refine (HS.out w5.drew (hxE.keep (Below.drew (Below.refl _ _))) (hyE.keep (Below.drew (Below.refl _ _))) (hrE.d.keep (Below.drew (Below.refl _ _)))).mono ?_); rintro e w6 ⟨S6, N6, G6, u1, u2, u3, rfl, ra6, _, hb6'⟩; have hb6 : Below w5.heap.size w5 w6 := bstep (Below.drew (Below.refl _ _)) hb6'; have k0 := (HH.out _ hb6).1; have k1 := (HH.out _ hb6).2.1; have k2 := (HH.out _ hb6).2.2.1; have kl := (HH.out _ hb6).2.2.2; have ra5 := hrE.a.keep hb6)
              | (go_simp; go_at_call 30; (with_reducible refine (HSM.out S6 N6 G6 u1 u2 u3 w6 ra5 ra6).mono ?_); rintro e w7 ⟨rfl, hb7⟩)
              | fail))
          all_goals
            go_wp2
            go_ret
            exact ⟨ret_bool HRES.out.symm, bstep (bstep hB5 hb6) hb7⟩
  · have dC : ((r.d.length : Int) != ((cdiv xs.length S : Nat) : Int)) = true := by simp; omega
    have HR := Lib.hid (show stateB xs ys M S r = false by rw [hSB, decide_eq_false hdC]; rfl)
    clear hSB hj hdC
    generalize cdiv xs.length S = C at *
    go_enter Try.func51, Try.ntmps51
    go_wp2_with fail
    rw [← hwE]
    clear hwE
    refine wp_region_tab (by kernel_rfl) (by kernel_rfl) (by kernel_rfl) (by kernel_rfl) (stT true false false (.pointer (some ⟨w.heap.size + 1, 3, none⟩)) (.slice D r.d.length c4) (.pointer (some ⟨w.heap.size + 1, 4, none⟩)) (.slice T r.t.length c5) (.agg #[.slice X xs.length cx, .slice Y ys.length cy, .int .i64 (M : Int), .int .i64 (S : Int)]) (r.d.length : Int) (C : Int) (r.t.length : Int)) ⟨?_, ?_, ?_, ?_, ?_, ?_, ?_, ?_, ?_, ?_, ?_, ?_, ?_, ?_, ?_, ?_, ?_, ?_, trivial⟩ ?_
    · exact tab_field (v := .pointer (some ⟨w.heap.size + 1, 0, none⟩)) rfl (by kernel_rfl) (by kernel_rfl) (by kernel_rfl) (fun w => by go_simp; kernel_rfl)
    · exact tab_load rfl (by kernel_rfl) (by kernel_rfl) (by kernel_rfl) (fun w hb => load_wD (i := 3) (hk2.keep hb) rfl)
    · exact tab_len (A := D) (n := r.d.length) (c := c4) Try.underlying40 rfl (by kernel_rfl) (by kernel_rfl) (by kernel_rfl) (by kernel_rfl)
    · exact tab_load rfl (by kernel_rfl) (by kernel_rfl) (by kernel_rfl) (fun w hb => load_wJ (hk1.keep hb))
    · exact tab_call rfl (by kernel_rfl) (by kernel_rfl) (by kernel_rfl) Try.call38 (fun w hbr => HC.out w)
    · exact tab_bin (k := .i64) (k' := .i64) (m := (r.d.length : Int)) (n := (C : Int)) rfl (by kernel_rfl) (by kernel_rfl) (by kernel_rfl) (by kernel_rfl) (fun w => by go_simp; kernel_rfl)
    · exact tab_move rfl (by kernel_rfl) (by kernel_rfl) (by kernel_rfl)
    · exact tab_not (by kernel_rfl) (by kernel_rfl)
    · exact tab_not (by kernel_rfl) (by kernel_rfl)
    · exact tab_not (by kernel_rfl) (by kernel_rfl)
    · exact tab_not (by kernel_rfl) (by kernel_rfl)
    · exact tab_pick rfl (by kernel_rfl) (by kernel_rfl) true (by kernel_rfl) (by kernel_rfl)
    · exact tab_move rfl (by kernel_rfl) (by kernel_rfl) (by kernel_rfl)
    · exact tab_not (by kernel_rfl) (by kernel_rfl)
    · exact tab_not (by kernel_rfl) (by kernel_rfl)
    · exact tab_not (by kernel_rfl) (by kernel_rfl)
    · exact tab_not (by kernel_rfl) (by kernel_rfl)
    · exact tab_pick rfl (by kernel_rfl) (by kernel_rfl) true (by kernel_rfl) (by kernel_rfl)
    intro w9 hb9
    generalize hTT : stT _ _ _ _ _ _ _ _ _ _ _ = TT
    have h17 : TT 17 = .bool true := by rw [← hTT]; rfl
    clear hTT
    generalize hF : putL TT 0 _ _ = aF
    have hfr : aF = ⟨#[.agg #[.slice X xs.length cx, .slice Y ys.length cy, .int .i64 (M : Int), .int .i64 (S : Int)], .agg #[.slice S1 r.a.s.length c1, .slice N1 r.a.n.length c2, .slice G1 r.a.g.length c3, .slice D r.d.length c4, .slice T r.t.length c5], .pointer (some ⟨w.heap.size, 0, none⟩), .pointer (some ⟨w.heap.size + 1, 0, none⟩), .bool false, undef, TT 0, TT 1, TT 2, TT 3, TT 4, TT 5, TT 6, TT 7, TT 8, TT 9, TT 10, TT 11, TT 12, TT 13, TT 14, TT 15, TT 16, TT 17, undef, undef, undef, undef, undef, undef, undef, undef, undef, undef, undef, undef, undef, undef, undef, undef, undef, undef, undef, undef, undef, undef, undef, undef, undef, undef, undef, undef, undef, undef, undef], []⟩ := by rw [← hF]; kernel_rfl
    rw [hfr, h17]
    clear hF hfr h17
    go_wp2
    go_ret
    exact ⟨ret_bool HR.out.symm, bstep hbE hb9⟩
end Wk
end Go.Proofs.Ytdekbncpodjgnaa
namespace Go.Proofs.Ytdekbncpodjgnaa
open Go.RowKit Runs Lagc Reg
set_option linter.unusedVariables false
set_option linter.unusedSimpArgs false
namespace Wk
open Lagw

set_option maxRecDepth 20000 in
set_option maxHeartbeats 1000000 in
theorem next_take_any {xs ys : List Int} {M S : Nat} (hj : Job xs ys M S) (X Y S1 N1 G1 D T : Option Addr) (cx cy c1 c2 c3 c4 c5 : Nat) (d : List Bool) (t : List Int) (u b : Int) (w : World) (hx : RI .i64 w X xs) (hy : RI .i64 w Y ys) (hG : Good19 (cdiv xs.length S) d t) (hr : RW w S1 N1 G1 D T ⟨sumA xs ys M S d, d, t⟩) :
    Calls Try.prog 52 #[.agg #[.slice X xs.length cx, .slice Y ys.length cy, .int .i64 (M : Int), .int .i64 (S : Int)], .agg #[.slice S1 (sumA xs ys M S d).s.length c1, .slice N1 (sumA xs ys M S d).n.length c2, .slice G1 (sumA xs ys M S d).g.length c3, .slice D d.length c4, .slice T t.length c5], .agg #[.int .u8 1, .int .i64 u, .int .i64 b]] w (RetW w (stW xs ys M S (stepS d t ⟨1, u, b⟩))) := by
  have hAT := hG.at_
  have hfA := (sumA_is hj hG.d).fine
  have hOK := Lib.hid (fun d2 t2 (h : stepS d t ⟨1, u, b⟩ = ((d2, t2), 0)) => stW_ok (xs := xs) (ys := ys) (M := M) (S := S) h)
  have hNO := Lib.hid (fun x (h : stepS d t ⟨1, u, b⟩ = (([], []), x)) (hx : x ≠ 0) => stW_no (xs := xs) (ys := ys) (M := M) (S := S) h hx)
  generalize stW xs ys M S (stepS d t ⟨1, u, b⟩) = RES at *
  generalize hGS : sumA xs ys M S = SM at *
  generalize haD : SM d = a at *
  obtain ⟨wE, hwE⟩ : ∃ wE, wE = (((w.alloc (.cells #[.slice X xs.length cx, .slice Y ys.length cy, .int .i64 (M : Int), .int .i64 (S : Int)] 24)).alloc (.cells #[.slice S1 a.s.length c1, .slice N1 a.n.length c2, .slice G1 a.g.length c3, .slice D d.length c4, .slice T t.length c5] 42)).alloc (.cells #[.int .u8 1, .int .i64 u, .int .i64 b] 54)).alloc (.cells #[.slice .none 0 0, .slice .none 0 0, .slice .none 0 0, .slice .none 0 0, .slice .none 0 0] 42) := ⟨_, rfl⟩
  have hk1 : Blk wE w.heap.size 24 #[.slice X xs.length cx, .slice Y ys.length cy, .int .i64 (M : Int), .int .i64 (S : Int)] := by rw [hwE]; exact (((Blk.new _ _ _).alloc _).alloc _).alloc _
  have hk2 : Blk wE (w.heap.size + 1) 42 #[.slice S1 a.s.length c1, .slice N1 a.n.length c2, .slice G1 a.g.length c3, .slice D d.length c4, .slice T t.length c5] := by rw [hwE]; exact ((Blk.newAt _ _ (by simp)).alloc _).alloc _
  have hk3 : Blk wE (w.heap.size + 2) 54 #[.int .u8 1, .int .i64 u, .int .i64 b] := by rw [hwE]; exact (Blk.newAt _ _ (by simp)).alloc _
  have hk4 : Blk wE (w.heap.size + 3) 42 #[.slice .none 0 0, .slice .none 0 0, .slice .none 0 0, .slice .none 0 0, .slice .none 0 0] := by rw [hwE]; exact Blk.newAt _ _ (by simp)
  have hbE : Below w.heap.size w wE := by rw [hwE]; exact balloc (balloc (balloc (balloc (Below.refl _ _) _) _) _) _
  have hsE : wE.heap.size = w.heap.size + 4 := by rw [hwE]; simp
  have hxE := hx.keep hbE
  have hyE := hy.keep hbE
  have hrE := hr.keep hbE
  have ht0 : 0 < t.length := hG.t0
  have ht6 := hG.t6
  have hdC := hG.d
  have hc64 := hj.c
  have HTW := Lib.hid (fun w hx => twin19_any S1 N1 G1 D T c1 c2 c3 c4 c5 ⟨a, d, t⟩ w hx (by have := hfA.ls; simp only; omega) (by have := hfA.ls; have := hfA.ln; simp only; omega) (by have := hfA.lg; simp only; omega) (by simp only; omega) (by simp only; omega))
  clear hr hfA hc64 hdC
  cases hev : isEvB d.length t.length 1 u b
  · have HR := Lib.hid (hNO.out 2 (step_ev hev) (by decide))
    have hcase : decide (u < 0) = true ∨ (decide (u < 0) = false ∧ decide ((t.length : Int) ≤ u) = true) ∨ (decide (u < 0) = false ∧ decide ((t.length : Int) ≤ u) = false ∧ 0 ≤ u ∧ u < t.length ∧ (decide (b < 0) = true ∨ (decide (b < 0) = false ∧ decide ((d.length : Int) ≤ b) = true))) := by
      unfold isEvB at hev
      rw [if_pos rfl] at hev
      simp only [Bool.and_eq_false_iff, decide_eq_false_iff_not, decide_eq_true_eq] at hev ⊢
      omega
    clear hev hNO hOK hAT
    rcases hcase with p1 | ⟨p1, p2⟩ | ⟨p1, p2, p5, p6, p3⟩
    · go_enter Try.func52, Try.ntmps52
      go_wp2_with fail
      rw [← hwE]
      clear hwE
      have p0 : World.cell? wE ⟨(w.heap.size + 1), 0, none⟩ = some (.slice S1 a.s.length c1) := hk2.cell 0
      have g0 := hk2.frozen 0
      have p1 : World.cell? wE ⟨(w.heap.size + 1), 1, none⟩ = some (.slice N1 a.n.length c2) := hk2.cell 1
      have g1 := hk2.frozen 1
      have p2 : World.cell? wE ⟨(w.heap.size + 1), 2, none⟩ = some (.slice G1 a.g.length c3) := hk2.cell 2
      have g2 := hk2.frozen 2
      have p3 : World.cell? wE ⟨(w.heap.size + 1), 3, none⟩ = some (.slice D d.length c4) := hk2.cell 3
      have g3 := hk2.frozen 3
      have p4 : World.cell? wE ⟨(w.heap.size + 1), 4, none⟩ = some (.slice T t.length c5) := hk2.cell 4
      have g4 := hk2.frozen 4
      have gl := hk2.lt
      go_wp2_with fail
      refine (HTW.out _ hrE).mono ?_
      rintro _ w2 ⟨S2, N2, G2, D2, T2, z1, z2, z3, z4, z5, rfl, hC, hb2⟩
      have hB2 := bstep hbE hb2
      have hs2 := hb2.size
      clear p0 p1 p2 p3 p4 g0 g1 g2 g3 g4 gl
      replace hk1 := hk1.keep hb2
      replace hk2 := hk2.keep hb2
      replace hk3 := hk3.keep hb2
      replace hk4 := hk4.keep hb2
      replace hxE := hxE.keep hb2
      replace hyE := hyE.keep hb2
      replace hrE := hrE.keep hb2
      obtain ⟨gT, cuT, rfl, hgT, _⟩ := made_blk hC.t ht0
      have e0 : World.cell? w2 ⟨(w.heap.size + 2), 0, none⟩ = some (.int .u8 1) := hk3.cell 0
      have ef0 := hk3.frozen 0
      have e1 : World.cell? w2 ⟨(w.heap.size + 2), 1, none⟩ = some (.int .i64 u) := hk3.cell 1
      have ef1 := hk3.frozen 1
      have e2 : World.cell? w2 ⟨(w.heap.size + 2), 2, none⟩ = some (.int .i64 b) := hk3.cell 2
      have ef2 := hk3.frozen 2
      have efl := hk3.lt
      have p0 : World.cell? w2 ⟨(w.heap.size + 1), 0, none⟩ = some (.slice S1 a.s.length c1) := hk2.cell 0
      have g0 := hk2.frozen 0
      have p1 : World.cell? w2 ⟨(w.heap.size + 1), 1, none⟩ = some (.slice N1 a.n.length c2) := hk2.cell 1
      have g1 := hk2.frozen 1
      have p2 : World.cell? w2 ⟨(w.heap.size + 1), 2, none⟩ = some (.slice G1 a.g.length c3) := hk2.cell 2
      have g2 := hk2.frozen 2
      have p3 : World.cell? w2 ⟨(w.heap.size + 1), 3, none⟩ = some (.slice D d.length c4) := hk2.cell 3
      have g3 := hk2.frozen 3
      have p4 : World.cell? w2 ⟨(w.heap.size + 1), 4, none⟩ = some (.slice T t.length c5) := hk2.cell 4
      have g4 := hk2.frozen 4
      have gl := hk2.lt
      have q0 : World.cell? w2 ⟨(w.heap.size + 3), 0, none⟩ = some (.slice none 0 0) := hk4.cell 0
      have f0 := hk4.frozen 0
      have q1 : World.cell? w2 ⟨(w.heap.size + 3), 1, none⟩ = some (.slice none 0 0) := hk4.cell 1
      have f1 := hk4.frozen 1
      have q2 : World.cell? w2 ⟨(w.heap.size + 3), 2, none⟩ = some (.slice none 0 0) := hk4.cell 2
      have f2 := hk4.frozen 2
      have q3 : World.cell? w2 ⟨(w.heap.size + 3), 3, none⟩ = some (.slice none 0 0) := hk4.cell 3
      have f3 := hk4.frozen 3
      have q4 : World.cell? w2 ⟨(w.heap.size + 3), 4, none⟩ = some (.slice none 0 0) := hk4.cell 4
      have f4 := hk4.frozen 4
      have fl := hk4.lt
      go_wp2
      exact bodyPost_ret (v := .tuple #[.agg #[.slice none 0 0, .slice none 0 0, .slice none 0 0, .slice none 0 0, .slice none 0 0], .int .i64 2]) (by simp [results, Try.results52, go_sem, q0, q1, q2, q3, q4, f0, f1, f2, f3, f4, fl]) rfl ((none_fin HR.out hB2 (by omega) _ _ _ _ _).alloc _)
    · go_enter Try.func52, Try.ntmps52
      go_wp2_with fail
      rw [← hwE]
      clear hwE
      have p0 : World.cell? wE ⟨(w.heap.size + 1), 0, none⟩ = some (.slice S1 a.s.length c1) := hk2.cell 0
      have g0 := hk2.frozen 0
      have p1 : World.cell? wE ⟨(w.heap.size + 1), 1, none⟩ = some (.slice N1 a.n.length c2) := hk2.cell 1
      have g1 := hk2.frozen 1
      have p2 : World.cell? wE ⟨(w.heap.size + 1), 2, none⟩ = some (.slice G1 a.g.length c3) := hk2.cell 2
      have g2 := hk2.frozen 2
      have p3 : World.cell? wE ⟨(w.heap.size + 1), 3, none⟩ = some (.slice D d.length c4) := hk2.cell 3
      have g3 := hk2.frozen 3
      have p4 : World.cell? wE ⟨(w.heap.size + 1), 4, none⟩ = some (.slice T t.length c5) := hk2.cell 4
      have g4 := hk2.frozen 4
      have gl := hk2.lt
      go_wp2_with fail
      refine (HTW.out _ hrE).mono ?_
      rintro _ w2 ⟨S2, N2, G2, D2, T2, z1, z2, z3, z4, z5, rfl, hC, hb2⟩
      have hB2 := bstep hbE hb2
      have hs2 := hb2.size
      clear p0 p1 p2 p3 p4 g0 g1 g2 g3 g4 gl
      replace hk1 := hk1.keep hb2
      replace hk2 := hk2.keep hb2
      replace hk3 := hk3.keep hb2
      replace hk4 := hk4.keep hb2
      replace hxE := hxE.keep hb2
      replace hyE := hyE.keep hb2
      replace hrE := hrE.keep hb2
      obtain ⟨gT, cuT, rfl, hgT, _⟩ := made_blk hC.t ht0
      have e0 : World.cell? w2 ⟨(w.heap.size + 2), 0, none⟩ = some (.int .u8 1) := hk3.cell 0
      have ef0 := hk3.frozen 0
      have e1 : World.cell? w2 ⟨(w.heap.size + 2), 1, none⟩ = some (.int .i64 u) := hk3.cell 1
      have ef1 := hk3.frozen 1
      have e2 : World.cell? w2 ⟨(w.heap.size + 2), 2, none⟩ = some (.int .i64 b) := hk3.cell 2
      have ef2 := hk3.frozen 2
      have efl := hk3.lt
      have p0 : World.cell? w2 ⟨(w.heap.size + 1), 0, none⟩ = some (.slice S1 a.s.length c1) := hk2.cell 0
      have g0 := hk2.frozen 0
      have p1 : World.cell? w2 ⟨(w.heap.size + 1), 1, none⟩ = some (.slice N1 a.n.length c2) := hk2.cell 1
      have g1 := hk2.frozen 1
      have p2 : World.cell? w2 ⟨(w.heap.size + 1), 2, none⟩ = some (.slice G1 a.g.length c3) := hk2.cell 2
      have g2 := hk2.frozen 2
      have p3 : World.cell? w2 ⟨(w.heap.size + 1), 3, none⟩ = some (.slice D d.length c4) := hk2.cell 3
      have g3 := hk2.frozen 3
      have p4 : World.cell? w2 ⟨(w.heap.size + 1), 4, none⟩ = some (.slice T t.length c5) := hk2.cell 4
      have g4 := hk2.frozen 4
      have gl := hk2.lt
      have q0 : World.cell? w2 ⟨(w.heap.size + 3), 0, none⟩ = some (.slice none 0 0) := hk4.cell 0
      have f0 := hk4.frozen 0
      have q1 : World.cell? w2 ⟨(w.heap.size + 3), 1, none⟩ = some (.slice none 0 0) := hk4.cell 1
      have f1 := hk4.frozen 1
      have q2 : World.cell? w2 ⟨(w.heap.size + 3), 2, none⟩ = some (.slice none 0 0) := hk4.cell 2
      have f2 := hk4.frozen 2
      have q3 : World.cell? w2 ⟨(w.heap.size + 3), 3, none⟩ = some (.slice none 0 0) := hk4.cell 3
      have f3 := hk4.frozen 3
      have q4 : World.cell? w2 ⟨(w.heap.size + 3), 4, none⟩ = some (.slice none 0 0) := hk4.cell 4
      have f4 := hk4.frozen 4
      have fl := hk4.lt
      go_wp2
      exact bodyPost_ret (v := .tuple #[.agg #[.slice none 0 0, .slice none 0 0, .slice none 0 0, .slice none 0 0, .slice none 0 0], .int .i64 2]) (by simp [results, Try.results52, go_sem, q0, q1, q2, q3, q4, f0, f1, f2, f3, f4, fl]) rfl ((none_fin HR.out hB2 (by omega) _ _ _ _ _).alloc _)
    · obtain ⟨U, rfl⟩ : ∃ U : Nat, u = U := ⟨u.toNat, by omega⟩
      have hU : U < t.length := by omega
      rcases p3 with p3 | ⟨p3, p4⟩
      · go_enter Try.func52, Try.ntmps52
        go_wp2_with fail
        rw [← hwE]
        clear hwE
        have p0 : World.cell? wE ⟨(w.heap.size + 1), 0, none⟩ = some (.slice S1 a.s.length c1) := hk2.cell 0
        have g0 := hk2.frozen 0
        have p1 : World.cell? wE ⟨(w.heap.size + 1), 1, none⟩ = some (.slice N1 a.n.length c2) := hk2.cell 1
        have g1 := hk2.frozen 1
        have p2 : World.cell? wE ⟨(w.heap.size + 1), 2, none⟩ = some (.slice G1 a.g.length c3) := hk2.cell 2
        have g2 := hk2.frozen 2
        have p3 : World.cell? wE ⟨(w.heap.size + 1), 3, none⟩ = some (.slice D d.length c4) := hk2.cell 3
        have g3 := hk2.frozen 3
        have p4 : World.cell? wE ⟨(w.heap.size + 1), 4, none⟩ = some (.slice T t.length c5) := hk2.cell 4
        have g4 := hk2.frozen 4
        have gl := hk2.lt
        go_wp2_with fail
        refine (HTW.out _ hrE).mono ?_
        rintro _ w2 ⟨S2, N2, G2, D2, T2, z1, z2, z3, z4, z5, rfl, hC, hb2⟩
        have hB2 := bstep hbE hb2
        have hs2 := hb2.size
        clear p0 p1 p2 p3 p4 g0 g1 g2 g3 g4 gl
        replace hk1 := hk1.keep hb2
        replace hk2 := hk2.keep hb2
        replace hk3 := hk3.keep hb2
        replace hk4 := hk4.keep hb2
        replace hxE := hxE.keep hb2
        replace hyE := hyE.keep hb2
        replace hrE := hrE.keep hb2
        obtain ⟨gT, cuT, rfl, hgT, _⟩ := made_blk hC.t ht0
        have e0 : World.cell? w2 ⟨(w.heap.size + 2), 0, none⟩ = some (.int .u8 1) := hk3.cell 0
        have ef0 := hk3.frozen 0
        have e1 : World.cell? w2 ⟨(w.heap.size + 2), 1, none⟩ = some (.int .i64 (U : Int)) := hk3.cell 1
        have ef1 := hk3.frozen 1
        have e2 : World.cell? w2 ⟨(w.heap.size + 2), 2, none⟩ = some (.int .i64 b) := hk3.cell 2
        have ef2 := hk3.frozen 2
        have efl := hk3.lt
        have p0 : World.cell? w2 ⟨(w.heap.size + 1), 0, none⟩ = some (.slice S1 a.s.length c1) := hk2.cell 0
        have g0 := hk2.frozen 0
        have p1 : World.cell? w2 ⟨(w.heap.size + 1), 1, none⟩ = some (.slice N1 a.n.length c2) := hk2.cell 1
        have g1 := hk2.frozen 1
        have p2 : World.cell? w2 ⟨(w.heap.size + 1), 2, none⟩ = some (.slice G1 a.g.length c3) := hk2.cell 2
        have g2 := hk2.frozen 2
        have p3 : World.cell? w2 ⟨(w.heap.size + 1), 3, none⟩ = some (.slice D d.length c4) := hk2.cell 3
        have g3 := hk2.frozen 3
        have p4 : World.cell? w2 ⟨(w.heap.size + 1), 4, none⟩ = some (.slice T t.length c5) := hk2.cell 4
        have g4 := hk2.frozen 4
        have gl := hk2.lt
        have q0 : World.cell? w2 ⟨(w.heap.size + 3), 0, none⟩ = some (.slice none 0 0) := hk4.cell 0
        have f0 := hk4.frozen 0
        have q1 : World.cell? w2 ⟨(w.heap.size + 3), 1, none⟩ = some (.slice none 0 0) := hk4.cell 1
        have f1 := hk4.frozen 1
        have q2 : World.cell? w2 ⟨(w.heap.size + 3), 2, none⟩ = some (.slice none 0 0) := hk4.cell 2
        have f2 := hk4.frozen 2
        have q3 : World.cell? w2 ⟨(w.heap.size + 3), 3, none⟩ = some (.slice none 0 0) := hk4.cell 3
        have f3 := hk4.frozen 3
        have q4 : World.cell? w2 ⟨(w.heap.size + 3), 4, none⟩ = some (.slice none 0 0) := hk4.cell 4
        have f4 := hk4.frozen 4
        have fl := hk4.lt
        obtain ⟨bt, ot, rfl, htl, htc⟩ := hrE.t (by simp only; omega)
        have htk := htc U hU
        simp only at htk
        clear htc
        go_wp2
        exact bodyPost_ret (v := .tuple #[.agg #[.slice none 0 0, .slice none 0 0, .slice none 0 0, .slice none 0 0, .slice none 0 0], .int .i64 2]) (by simp [results, Try.results52, go_sem, q0, q1, q2, q3, q4, f0, f1, f2, f3, f4, fl]) rfl ((none_fin HR.out hB2 (by omega) _ _ _ _ _).alloc _)
      · go_enter Try.func52, Try.ntmps52
        go_wp2_with fail
        rw [← hwE]
        clear hwE
        have p0 : World.cell? wE ⟨(w.heap.size + 1), 0, none⟩ = some (.slice S1 a.s.length c1) := hk2.cell 0
        have g0 := hk2.frozen 0
        have p1 : World.cell? wE ⟨(w.heap.size + 1), 1, none⟩ = some (.slice N1 a.n.length c2) := hk2.cell 1
        have g1 := hk2.frozen 1
        have p2 : World.cell? wE ⟨(w.heap.size + 1), 2, none⟩ = some (.slice G1 a.g.length c3) := hk2.cell 2
        have g2 := hk2.frozen 2
        have p3 : World.cell? wE ⟨(w.heap.size + 1), 3, none⟩ = some (.slice D d.length c4) := hk2.cell 3
        have g3 := hk2.frozen 3
        have p4 : World.cell? wE ⟨(w.heap.size + 1), 4, none⟩ = some (.slice T t.length c5) := hk2.cell 4
        have g4 := hk2.frozen 4
        have gl := hk2.lt
        go_wp2_with fail
        refine (HTW.out _ hrE).mono ?_
        rintro _ w2 ⟨S2, N2, G2, D2, T2, z1, z2, z3, z4, z5, rfl, hC, hb2⟩
        have hB2 := bstep hbE hb2
        have hs2 := hb2.size
        clear p0 p1 p2 p3 p4 g0 g1 g2 g3 g4 gl
        replace hk1 := hk1.keep hb2
        replace hk2 := hk2.keep hb2
        replace hk3 := hk3.keep hb2
        replace hk4 := hk4.keep hb2
        replace hxE := hxE.keep hb2
        replace hyE := hyE.keep hb2
        replace hrE := hrE.keep hb2
        obtain ⟨gT, cuT, rfl, hgT, _⟩ := made_blk hC.t ht0
        have e0 : World.cell? w2 ⟨(w.heap.size + 2), 0, none⟩ = some (.int .u8 1) := hk3.cell 0
        have ef0 := hk3.frozen 0
        have e1 : World.cell? w2 ⟨(w.heap.size + 2), 1, none⟩ = some (.int .i64 (U : Int)) := hk3.cell 1
        have ef1 := hk3.frozen 1
        have e2 : World.cell? w2 ⟨(w.heap.size + 2), 2, none⟩ = some (.int .i64 b) := hk3.cell 2
        have ef2 := hk3.frozen 2
        have efl := hk3.lt
        have p0 : World.cell? w2 ⟨(w.heap.size + 1), 0, none⟩ = some (.slice S1 a.s.length c1) := hk2.cell 0
        have g0 := hk2.frozen 0
        have p1 : World.cell? w2 ⟨(w.heap.size + 1), 1, none⟩ = some (.slice N1 a.n.length c2) := hk2.cell 1
        have g1 := hk2.frozen 1
        have p2 : World.cell? w2 ⟨(w.heap.size + 1), 2, none⟩ = some (.slice G1 a.g.length c3) := hk2.cell 2
        have g2 := hk2.frozen 2
        have p3 : World.cell? w2 ⟨(w.heap.size + 1), 3, none⟩ = some (.slice D d.length c4) := hk2.cell 3
        have g3 := hk2.frozen 3
        have p4 : World.cell? w2 ⟨(w.heap.size + 1), 4, none⟩ = some (.slice T t.length c5) := hk2.cell 4
        have g4 := hk2.frozen 4
        have gl := hk2.lt
        have q0 : World.cell? w2 ⟨(w.heap.size + 3), 0, none⟩ = some (.slice none 0 0) := hk4.cell 0
        have f0 := hk4.frozen 0
        have q1 : World.cell? w2 ⟨(w.heap.size + 3), 1, none⟩ = some (.slice none 0 0) := hk4.cell 1
        have f1 := hk4.frozen 1
        have q2 : World.cell? w2 ⟨(w.heap.size + 3), 2, none⟩ = some (.slice none 0 0) := hk4.cell 2
        have f2 := hk4.frozen 2
        have q3 : World.cell? w2 ⟨(w.heap.size + 3), 3, none⟩ = some (.slice none 0 0) := hk4.cell 3
        have f3 := hk4.frozen 3
        have q4 : World.cell? w2 ⟨(w.heap.size + 3), 4, none⟩ = some (.slice none 0 0) := hk4.cell 4
        have f4 := hk4.frozen 4
        have fl := hk4.lt
        obtain ⟨bt, ot, rfl, htl, htc⟩ := hrE.t (by simp only; omega)
        have htk := htc U hU
        simp only at htk
        clear htc
        go_wp2
        exact bodyPost_ret (v := .tuple #[.agg #[.slice none 0 0, .slice none 0 0, .slice none 0 0, .slice none 0 0, .slice none 0 0], .int .i64 2]) (by simp [results, Try.results52, go_sem, q0, q1, q2, q3, q4, f0, f1, f2, f3, f4, fl]) rfl ((none_fin HR.out hB2 (by omega) _ _ _ _ _).alloc _)
  obtain ⟨hu0, hu1, hb0, hb1⟩ := ev_take hev
  obtain ⟨U, rfl⟩ : ∃ U : Nat, u = U := ⟨u.toNat, by omega⟩
  obtain ⟨B, rfl⟩ : ∃ B : Nat, b = B := ⟨b.toNat, by omega⟩
  have hU : U < t.length := by omega
  have hB : B < d.length := by omega
  have hst := step_take (d := d) (t := t) hU hB
  have p1 : decide ((U : Int) < 0) = false := decide_eq_false (by omega)
  have p2 : decide ((t.length : Int) ≤ (U : Int)) = false := decide_eq_false (by omega)
  have p3 : decide ((B : Int) < 0) = false := decide_eq_false (by omega)
  have p4 : decide ((d.length : Int) ≤ (B : Int)) = false := decide_eq_false (by omega)
  have hge : -1 ≤ t.getD U 0 := by rw [getD_lt _ _ hU]; exact (hAT _ (List.getElem_mem hU)).1
  have eD : d.getD B true = d.getD B false := by rw [getD_lt _ _ hB, getD_lt _ _ hB]
  rw [eD] at hst
  clear hu0 hu1 hb0 hb1 hev hAT eD
  by_cases h1 : t.getD U 0 = -1
  · have hx1 : decide (0 ≤ t.getD U 0) = false := decide_eq_false (by omega)
    have HT := Lib.hid h1
    cases h2 : d.getD B false
    · rw [h1, h2, if_neg (by decide)] at hst
      have HR := Lib.hid (hOK.out _ _ hst)
      have HD := Lib.hid h2
      clear hst h1 h2 hNO hOK hge
      go_enter Try.func52, Try.ntmps52
      go_wp2_with fail
      rw [← hwE]
      clear hwE
      have p0 : World.cell? wE ⟨(w.heap.size + 1), 0, none⟩ = some (.slice S1 a.s.length c1) := hk2.cell 0
      have g0 := hk2.frozen 0
      have p1 : World.cell? wE ⟨(w.heap.size + 1), 1, none⟩ = some (.slice N1 a.n.length c2) := hk2.cell 1
      have g1 := hk2.frozen 1
      have p2 : World.cell? wE ⟨(w.heap.size + 1), 2, none⟩ = some (.slice G1 a.g.length c3) := hk2.cell 2
      have g2 := hk2.frozen 2
      have p3 : World.cell? wE ⟨(w.heap.size + 1), 3, none⟩ = some (.slice D d.length c4) := hk2.cell 3
      have g3 := hk2.frozen 3
      have p4 : World.cell? wE ⟨(w.heap.size + 1), 4, none⟩ = some (.slice T t.length c5) := hk2.cell 4
      have g4 := hk2.frozen 4
      have gl := hk2.lt
      go_wp2_with fail
      refine (HTW.out _ hrE).mono ?_
      rintro _ w2 ⟨S2, N2, G2, D2, T2, z1, z2, z3, z4, z5, rfl, hC, hb2⟩
      have hB2 := bstep hbE hb2
      have hs2 := hb2.size
      clear p0 p1 p2 p3 p4 g0 g1 g2 g3 g4 gl
      replace hk1 := hk1.keep hb2
      replace hk2 := hk2.keep hb2
      replace hk3 := hk3.keep hb2
      replace hk4 := hk4.keep hb2
      replace hxE := hxE.keep hb2
      replace hyE := hyE.keep hb2
      replace hrE := hrE.keep hb2
      obtain ⟨gT, cuT, rfl, hgT, _⟩ := made_blk hC.t ht0
      have e0 : World.cell? w2 ⟨(w.heap.size + 2), 0, none⟩ = some (.int .u8 1) := hk3.cell 0
      have ef0 := hk3.frozen 0
      have e1 : World.cell? w2 ⟨(w.heap.size + 2), 1, none⟩ = some (.int .i64 (U : Int)) := hk3.cell 1
      have ef1 := hk3.frozen 1
      have e2 : World.cell? w2 ⟨(w.heap.size + 2), 2, none⟩ = some (.int .i64 (B : Int)) := hk3.cell 2
      have ef2 := hk3.frozen 2
      have efl := hk3.lt
      have p0 : World.cell? w2 ⟨(w.heap.size + 1), 0, none⟩ = some (.slice S1 a.s.length c1) := hk2.cell 0
      have g0 := hk2.frozen 0
      have p1 : World.cell? w2 ⟨(w.heap.size + 1), 1, none⟩ = some (.slice N1 a.n.length c2) := hk2.cell 1
      have g1 := hk2.frozen 1
      have p2 : World.cell? w2 ⟨(w.heap.size + 1), 2, none⟩ = some (.slice G1 a.g.length c3) := hk2.cell 2
      have g2 := hk2.frozen 2
      have p3 : World.cell? w2 ⟨(w.heap.size + 1), 3, none⟩ = some (.slice D d.length c4) := hk2.cell 3
      have g3 := hk2.frozen 3
      have p4 : World.cell? w2 ⟨(w.heap.size + 1), 4, none⟩ = some (.slice T t.length c5) := hk2.cell 4
      have g4 := hk2.frozen 4
      have gl := hk2.lt
      have q0 : World.cell? w2 ⟨(w.heap.size + 3), 0, none⟩ = some (.slice none 0 0) := hk4.cell 0
      have f0 := hk4.frozen 0
      have q1 : World.cell? w2 ⟨(w.heap.size + 3), 1, none⟩ = some (.slice none 0 0) := hk4.cell 1
      have f1 := hk4.frozen 1
      have q2 : World.cell? w2 ⟨(w.heap.size + 3), 2, none⟩ = some (.slice none 0 0) := hk4.cell 2
      have f2 := hk4.frozen 2
      have q3 : World.cell? w2 ⟨(w.heap.size + 3), 3, none⟩ = some (.slice none 0 0) := hk4.cell 3
      have f3 := hk4.frozen 3
      have q4 : World.cell? w2 ⟨(w.heap.size + 3), 4, none⟩ = some (.slice none 0 0) := hk4.cell 4
      have f4 := hk4.frozen 4
      have fl := hk4.lt
      obtain ⟨bt, ot, rfl, htl, htc⟩ := hrE.t (by simp only; omega)
      have htk := htc U hU
      obtain ⟨bd, od, rfl, hdl, hdc⟩ := hrE.d (by simp only; omega)
      have hdk := hdc B hB
      simp only [HT.out] at htk hx1
      simp only [HD.out] at hdk
      clear htc hdc
      obtain ⟨m1, m2, m3, m4⟩ := made_cell (ev := fun x => Value.int .i64 x) (fun _ => rfl) hC.t hU
      simp only at m1
      have t1 : ¬ gT = w.heap.size + 3 := by omega
      have t2 : ¬ gT = w2.heap.size := by omega
      have t3 : ¬ w.heap.size + 3 = gT := by omega
      have t4 : ¬ w2.heap.size = gT := by omega
      go_wp2
      refine bodyPost_ret (v := .tuple #[.agg #[.slice S2 a.s.length z1, .slice N2 a.n.length z2, .slice G2 a.g.length z3, .slice D2 d.length z4, .slice (some ⟨gT, 0, none⟩) t.length z5], .int .i64 0]) (by simp [results, Try.results52, go_sem, q0, q1, q2, q3, q4, f0, f1, f2, f3, f4, fl, t1, t2, t3, t4]) rfl ?_
      rw [HR.out, haD]
      have hC3 := hC.setT (k := U) hU (B : Int)
      have hfin := (work_fin (w := w) (x := 0) (c1 := z1) (c2 := z2) (c3 := z3) (c4 := z4) (c5 := z5) hC3.rw_ (hk4.far (p := ⟨gT, U, none⟩) t3 _) (hB2.setCell (p := ⟨gT, U, none⟩) (by simp only; omega) _) (by omega)).alloc (.cells #[.slice S2 a.s.length z1, .slice N2 a.n.length z2, .slice G2 a.g.length z3, .slice D2 d.length z4, .slice (some ⟨gT, 0, none⟩) t.length z5] 42)
      simp only [List.length_set] at hfin
      exact hfin
    · rw [if_pos (.inr h2)] at hst
      have HR := Lib.hid (hNO.out _ hst (by decide))
      have HD := Lib.hid h2
      clear hst h1 h2 hNO hOK hge
      go_enter Try.func52, Try.ntmps52
      go_wp2_with fail
      rw [← hwE]
      clear hwE
      have p0 : World.cell? wE ⟨(w.heap.size + 1), 0, none⟩ = some (.slice S1 a.s.length c1) := hk2.cell 0
      have g0 := hk2.frozen 0
      have p1 : World.cell? wE ⟨(w.heap.size + 1), 1, none⟩ = some (.slice N1 a.n.length c2) := hk2.cell 1
      have g1 := hk2.frozen 1
      have p2 : World.cell? wE ⟨(w.heap.size + 1), 2, none⟩ = some (.slice G1 a.g.length c3) := hk2.cell 2
      have g2 := hk2.frozen 2
      have p3 : World.cell? wE ⟨(w.heap.size + 1), 3, none⟩ = some (.slice D d.length c4) := hk2.cell 3
      have g3 := hk2.frozen 3
      have p4 : World.cell? wE ⟨(w.heap.size + 1), 4, none⟩ = some (.slice T t.length c5) := hk2.cell 4
      have g4 := hk2.frozen 4
      have gl := hk2.lt
      go_wp2_with fail
      refine (HTW.out _ hrE).mono ?_
      rintro _ w2 ⟨S2, N2, G2, D2, T2, z1, z2, z3, z4, z5, rfl, hC, hb2⟩
      have hB2 := bstep hbE hb2
      have hs2 := hb2.size
      clear p0 p1 p2 p3 p4 g0 g1 g2 g3 g4 gl
      replace hk1 := hk1.keep hb2
      replace hk2 := hk2.keep hb2
      replace hk3 := hk3.keep hb2
      replace hk4 := hk4.keep hb2
      replace hxE := hxE.keep hb2
      replace hyE := hyE.keep hb2
      replace hrE := hrE.keep hb2
      obtain ⟨gT, cuT, rfl, hgT, _⟩ := made_blk hC.t ht0
      have e0 : World.cell? w2 ⟨(w.heap.size + 2), 0, none⟩ = some (.int .u8 1) := hk3.cell 0
      have ef0 := hk3.frozen 0
      have e1 : World.cell? w2 ⟨(w.heap.size + 2), 1, none⟩ = some (.int .i64 (U : Int)) := hk3.cell 1
      have ef1 := hk3.frozen 1
      have e2 : World.cell? w2 ⟨(w.heap.size + 2), 2, none⟩ = some (.int .i64 (B : Int)) := hk3.cell 2
      have ef2 := hk3.frozen 2
      have efl := hk3.lt
      have p0 : World.cell? w2 ⟨(w.heap.size + 1), 0, none⟩ = some (.slice S1 a.s.length c1) := hk2.cell 0
      have g0 := hk2.frozen 0
      have p1 : World.cell? w2 ⟨(w.heap.size + 1), 1, none⟩ = some (.slice N1 a.n.length c2) := hk2.cell 1
      have g1 := hk2.frozen 1
      have p2 : World.cell? w2 ⟨(w.heap.size + 1), 2, none⟩ = some (.slice G1 a.g.length c3) := hk2.cell 2
      have g2 := hk2.frozen 2
      have p3 : World.cell? w2 ⟨(w.heap.size + 1), 3, none⟩ = some (.slice D d.length c4) := hk2.cell 3
      have g3 := hk2.frozen 3
      have p4 : World.cell? w2 ⟨(w.heap.size + 1), 4, none⟩ = some (.slice T t.length c5) := hk2.cell 4
      have g4 := hk2.frozen 4
      have gl := hk2.lt
      have q0 : World.cell? w2 ⟨(w.heap.size + 3), 0, none⟩ = some (.slice none 0 0) := hk4.cell 0
      have f0 := hk4.frozen 0
      have q1 : World.cell? w2 ⟨(w.heap.size + 3), 1, none⟩ = some (.slice none 0 0) := hk4.cell 1
      have f1 := hk4.frozen 1
      have q2 : World.cell? w2 ⟨(w.heap.size + 3), 2, none⟩ = some (.slice none 0 0) := hk4.cell 2
      have f2 := hk4.frozen 2
      have q3 : World.cell? w2 ⟨(w.heap.size + 3), 3, none⟩ = some (.slice none 0 0) := hk4.cell 3
      have f3 := hk4.frozen 3
      have q4 : World.cell? w2 ⟨(w.heap.size + 3), 4, none⟩ = some (.slice none 0 0) := hk4.cell 4
      have f4 := hk4.frozen 4
      have fl := hk4.lt
      obtain ⟨bt, ot, rfl, htl, htc⟩ := hrE.t (by simp only; omega)
      have htk := htc U hU
      obtain ⟨bd, od, rfl, hdl, hdc⟩ := hrE.d (by simp only; omega)
      have hdk := hdc B hB
      simp only [HT.out] at htk hx1
      simp only [HD.out] at hdk
      clear htc hdc
      go_wp2
      exact bodyPost_ret (v := .tuple #[.agg #[.slice none 0 0, .slice none 0 0, .slice none 0 0, .slice none 0 0, .slice none 0 0], .int .i64 36]) (by simp [results, Try.results52, go_sem, q0, q1, q2, q3, q4, f0, f1, f2, f3, f4, fl]) rfl ((none_fin HR.out hB2 (by omega) _ _ _ _ _).alloc _)
  · have hx1 : decide (0 ≤ t.getD U 0) = true := decide_eq_true (by omega)
    rw [if_pos (.inl h1)] at hst
    have HR := Lib.hid (hNO.out _ hst (by decide))
    clear hst h1 hNO hOK hge
    go_enter Try.func52, Try.ntmps52
    go_wp2_with fail
    rw [← hwE]
    clear hwE
    have p0 : World.cell? wE ⟨(w.heap.size + 1), 0, none⟩ = some (.slice S1 a.s.length c1) := hk2.cell 0
    have g0 := hk2.frozen 0
    have p1 : World.cell? wE ⟨(w.heap.size + 1), 1, none⟩ = some (.slice N1 a.n.length c2) := hk2.cell 1
    have g1 := hk2.frozen 1
    have p2 : World.cell? wE ⟨(w.heap.size + 1), 2, none⟩ = some (.slice G1 a.g.length c3) := hk2.cell 2
    have g2 := hk2.frozen 2
    have p3 : World.cell? wE ⟨(w.heap.size + 1), 3, none⟩ = some (.slice D d.length c4) := hk2.cell 3
    have g3 := hk2.frozen 3
    have p4 : World.cell? wE ⟨(w.heap.size + 1), 4, none⟩ = some (.slice T t.length c5) := hk2.cell 4
    have g4 := hk2.frozen 4
    have gl := hk2.lt
    go_wp2_with fail
    refine (HTW.out _ hrE).mono ?_
    rintro _ w2 ⟨S2, N2, G2, D2, T2, z1, z2, z3, z4, z5, rfl, hC, hb2⟩
    have hB2 := bstep hbE hb2
    have hs2 := hb2.size
    clear p0 p1 p2 p3 p4 g0 g1 g2 g3 g4 gl
    replace hk1 := hk1.keep hb2
    replace hk2 := hk2.keep hb2
    replace hk3 := hk3.keep hb2
    replace hk4 := hk4.keep hb2
    replace hxE := hxE.keep hb2
    replace hyE := hyE.keep hb2
    replace hrE := hrE.keep hb2
    obtain ⟨gT, cuT, rfl, hgT, _⟩ := made_blk hC.t ht0
    have e0 : World.cell? w2 ⟨(w.heap.size + 2), 0, none⟩ = some (.int .u8 1) := hk3.cell 0
    have ef0 := hk3.frozen 0
    have e1 : World.cell? w2 ⟨(w.heap.size + 2), 1, none⟩ = some (.int .i64 (U : Int)) := hk3.cell 1
    have ef1 := hk3.frozen 1
    have e2 : World.cell? w2 ⟨(w.heap.size + 2), 2, none⟩ = some (.int .i64 (B : Int)) := hk3.cell 2
    have ef2 := hk3.frozen 2
    have efl := hk3.lt
    have p0 : World.cell? w2 ⟨(w.heap.size + 1), 0, none⟩ = some (.slice S1 a.s.length c1) := hk2.cell 0
    have g0 := hk2.frozen 0
    have p1 : World.cell? w2 ⟨(w.heap.size + 1), 1, none⟩ = some (.slice N1 a.n.length c2) := hk2.cell 1
    have g1 := hk2.frozen 1
    have p2 : World.cell? w2 ⟨(w.heap.size + 1), 2, none⟩ = some (.slice G1 a.g.length c3) := hk2.cell 2
    have g2 := hk2.frozen 2
    have p3 : World.cell? w2 ⟨(w.heap.size + 1), 3, none⟩ = some (.slice D d.length c4) := hk2.cell 3
    have g3 := hk2.frozen 3
    have p4 : World.cell? w2 ⟨(w.heap.size + 1), 4, none⟩ = some (.slice T t.length c5) := hk2.cell 4
    have g4 := hk2.frozen 4
    have gl := hk2.lt
    have q0 : World.cell? w2 ⟨(w.heap.size + 3), 0, none⟩ = some (.slice none 0 0) := hk4.cell 0
    have f0 := hk4.frozen 0
    have q1 : World.cell? w2 ⟨(w.heap.size + 3), 1, none⟩ = some (.slice none 0 0) := hk4.cell 1
    have f1 := hk4.frozen 1
    have q2 : World.cell? w2 ⟨(w.heap.size + 3), 2, none⟩ = some (.slice none 0 0) := hk4.cell 2
    have f2 := hk4.frozen 2
    have q3 : World.cell? w2 ⟨(w.heap.size + 3), 3, none⟩ = some (.slice none 0 0) := hk4.cell 3
    have f3 := hk4.frozen 3
    have q4 : World.cell? w2 ⟨(w.heap.size + 3), 4, none⟩ = some (.slice none 0 0) := hk4.cell 4
    have f4 := hk4.frozen 4
    have fl := hk4.lt
    obtain ⟨bt, ot, rfl, htl, htc⟩ := hrE.t (by simp only; omega)
    have htk := htc U hU
    simp only at htk
    clear htc
    generalize t.getD U 0 = tv at *
    go_wp2
    exact bodyPost_ret (v := .tuple #[.agg #[.slice none 0 0, .slice none 0 0, .slice none 0 0, .slice none 0 0, .slice none 0 0], .int .i64 36]) (by simp [results, Try.results52, go_sem, q0, q1, q2, q3, q4, f0, f1, f2, f3, f4, fl]) rfl ((none_fin HR.out hB2 (by omega) _ _ _ _ _).alloc _)
end Wk
end Go.Proofs.Ytdekbncpodjgnaa
namespace Go.Proofs.Ytdekbncpodjgnaa
open Go.RowKit Runs Lagc Reg
set_option linter.unusedVariables false
set_option linter.unusedSimpArgs false
namespace Wk
open Lagw

set_option maxRecDepth 20000 in
set_option maxHeartbeats 1000000 in
theorem next_fail_any {xs ys : List Int} {M S : Nat} (hj : Job xs ys M S) (X Y S1 N1 G1 D T : Option Addr) (cx cy c1 c2 c3 c4 c5 : Nat) (d : List Bool) (t : List Int) (u b : Int) (w : World) (hx : RI .i64 w X xs) (hy : RI .i64 w Y ys) (hG : Good19 (cdiv xs.length S) d t) (hr : RW w S1 N1 G1 D T ⟨sumA xs ys M S d, d, t⟩) :
    Calls Try.prog 52 #[.agg #[.slice X xs.length cx, .slice Y ys.length cy, .int .i64 (M : Int), .int .i64 (S : Int)], .agg #[.slice S1 (sumA xs ys M S d).s.length c1, .slice N1 (sumA xs ys M S d).n.length c2, .slice G1 (sumA xs ys M S d).g.length c3, .slice D d.length c4, .slice T t.length c5], .agg #[.int .u8 3, .int .i64 u, .int .i64 b]] w (RetW w (stW xs ys M S (stepS d t ⟨3, u, b⟩))) := by
  have hAT := hG.at_
  have hfA := (sumA_is hj hG.d).fine
  have hOK := Lib.hid (fun d2 t2 (h : stepS d t ⟨3, u, b⟩ = ((d2, t2), 0)) => stW_ok (xs := xs) (ys := ys) (M := M) (S := S) h)
  have hNO := Lib.hid (fun x (h : stepS d t ⟨3, u, b⟩ = (([], []), x)) (hx : x ≠ 0) => stW_no (xs := xs) (ys := ys) (M := M) (S := S) h hx)
  generalize stW xs ys M S (stepS d t ⟨3, u, b⟩) = RES at *
  generalize hGS : sumA xs ys M S = SM at *
  generalize haD : SM d = a at *
  obtain ⟨wE, hwE⟩ : ∃ wE, wE = (((w.alloc (.cells #[.slice X xs.length cx, .slice Y ys.length cy, .int .i64 (M : Int), .int .i64 (S : Int)] 24)).alloc (.cells #[.slice S1 a.s.length c1, .slice N1 a.n.length c2, .slice G1 a.g.length c3, .slice D d.length c4, .slice T t.length c5] 42)).alloc (.cells #[.int .u8 3, .int .i64 u, .int .i64 b] 54)).alloc (.cells #[.slice .none 0 0, .slice .none 0 0, .slice .none 0 0, .slice .none 0 0, .slice .none 0 0] 42) := ⟨_, rfl⟩
  have hk1 : Blk wE w.heap.size 24 #[.slice X xs.length cx, .slice Y ys.length cy, .int .i64 (M : Int), .int .i64 (S : Int)] := by rw [hwE]; exact (((Blk.new _ _ _).alloc _).alloc _).alloc _
  have hk2 : Blk wE (w.heap.size + 1) 42 #[.slice S1 a.s.length c1, .slice N1 a.n.length c2, .slice G1 a.g.length c3, .slice D d.length c4, .slice T t.length c5] := by rw [hwE]; exact ((Blk.newAt _ _ (by simp)).alloc _).alloc _
  have hk3 : Blk wE (w.heap.size + 2) 54 #[.int .u8 3, .int .i64 u, .int .i64 b] := by rw [hwE]; exact (Blk.newAt _ _ (by simp)).alloc _
  have hk4 : Blk wE (w.heap.size + 3) 42 #[.slice .none 0 0, .slice .none 0 0, .slice .none 0 0, .slice .none 0 0, .slice .none 0 0] := by rw [hwE]; exact Blk.newAt _ _ (by simp)
  have hbE : Below w.heap.size w wE := by rw [hwE]; exact balloc (balloc (balloc (balloc (Below.refl _ _) _) _) _) _
  have hsE : wE.heap.size = w.heap.size + 4 := by rw [hwE]; simp
  have hxE := hx.keep hbE
  have hyE := hy.keep hbE
  have hrE := hr.keep hbE
  have ht0 : 0 < t.length := hG.t0
  have ht6 := hG.t6
  have hdC := hG.d
  have hc64 := hj.c
  have HTW := Lib.hid (fun w hx => twin19_any S1 N1 G1 D T c1 c2 c3 c4 c5 ⟨a, d, t⟩ w hx (by have := hfA.ls; simp only; omega) (by have := hfA.ls; have := hfA.ln; simp only; omega) (by have := hfA.lg; simp only; omega) (by simp only; omega) (by simp only; omega))
  clear hr hfA hc64 hdC
  cases hev : isEvB d.length t.length 3 u b
  · have HR := Lib.hid (hNO.out 2 (step_ev hev) (by decide))
    have hcase : decide (u < 0) = true ∨ (decide (u < 0) = false ∧ decide ((t.length : Int) ≤ u) = true) ∨ (decide (u < 0) = false ∧ decide ((t.length : Int) ≤ u) = false ∧ 0 ≤ u ∧ u < t.length ∧ (b != 0) = true) := by
      unfold isEvB at hev
      rw [if_neg (by decide), if_pos (by decide)] at hev
      simp only [Bool.and_eq_false_iff, decide_eq_false_iff_not, decide_eq_true_eq, beq_eq_false_iff_ne, bne_iff_ne] at hev ⊢
      omega
    clear hev hNO hOK hAT
    rcases hcase with p1 | ⟨p1, p2⟩ | ⟨p1, p2, p5, p6, p3⟩
    · go_enter Try.func52, Try.ntmps52
      go_wp2_with fail
      rw [← hwE]
      clear hwE
      have p0 : World.cell? wE ⟨(w.heap.size + 1), 0, none⟩ = some (.slice S1 a.s.length c1) := hk2.cell 0
      have g0 := hk2.frozen 0
      have p1 : World.cell? wE ⟨(w.heap.size + 1), 1, none⟩ = some (.slice N1 a.n.length c2) := hk2.cell 1
      have g1 := hk2.frozen 1
      have p2 : World.cell? wE ⟨(w.heap.size + 1), 2, none⟩ = some (.slice G1 a.g.length c3) := hk2.cell 2
      have g2 := hk2.frozen 2
      have p3 : World.cell? wE ⟨(w.heap.size + 1), 3, none⟩ = some (.slice D d.length c4) := hk2.cell 3
      have g3 := hk2.frozen 3
      have p4 : World.cell? wE ⟨(w.heap.size + 1), 4, none⟩ = some (.slice T t.length c5) := hk2.cell 4
      have g4 := hk2.frozen 4
      have gl := hk2.lt
      go_wp2_with fail
      refine (HTW.out _ hrE).mono ?_
      rintro _ w2 ⟨S2, N2, G2, D2, T2, z1, z2, z3, z4, z5, rfl, hC, hb2⟩
      have hB2 := bstep hbE hb2
      have hs2 := hb2.size
      clear p0 p1 p2 p3 p4 g0 g1 g2 g3 g4 gl
      replace hk1 := hk1.keep hb2
      replace hk2 := hk2.keep hb2
      replace hk3 := hk3.keep hb2
      replace hk4 := hk4.keep hb2
      replace hxE := hxE.keep hb2
      replace hyE := hyE.keep hb2
      replace hrE := hrE.keep hb2
      obtain ⟨gT, cuT, rfl, hgT, _⟩ := made_blk hC.t ht0
      have e0 : World.cell? w2 ⟨(w.heap.size + 2), 0, none⟩ = some (.int .u8 3) := hk3.cell 0
      have ef0 := hk3.frozen 0
      have e1 : World.cell? w2 ⟨(w.heap.size + 2), 1, none⟩ = some (.int .i64 u) := hk3.cell 1
      have ef1 := hk3.frozen 1
      have e2 : World.cell? w2 ⟨(w.heap.size + 2), 2, none⟩ = some (.int .i64 b) := hk3.cell 2
      have ef2 := hk3.frozen 2
      have efl := hk3.lt
      have p0 : World.cell? w2 ⟨(w.heap.size + 1), 0, none⟩ = some (.slice S1 a.s.length c1) := hk2.cell 0
      have g0 := hk2.frozen 0
      have p1 : World.cell? w2 ⟨(w.heap.size + 1), 1, none⟩ = some (.slice N1 a.n.length c2) := hk2.cell 1
      have g1 := hk2.frozen 1
      have p2 : World.cell? w2 ⟨(w.heap.size + 1), 2, none⟩ = some (.slice G1 a.g.length c3) := hk2.cell 2
      have g2 := hk2.frozen 2
      have p3 : World.cell? w2 ⟨(w.heap.size + 1), 3, none⟩ = some (.slice D d.length c4) := hk2.cell 3
      have g3 := hk2.frozen 3
      have p4 : World.cell? w2 ⟨(w.heap.size + 1), 4, none⟩ = some (.slice T t.length c5) := hk2.cell 4
      have g4 := hk2.frozen 4
      have gl := hk2.lt
      have q0 : World.cell? w2 ⟨(w.heap.size + 3), 0, none⟩ = some (.slice none 0 0) := hk4.cell 0
      have f0 := hk4.frozen 0
      have q1 : World.cell? w2 ⟨(w.heap.size + 3), 1, none⟩ = some (.slice none 0 0) := hk4.cell 1
      have f1 := hk4.frozen 1
      have q2 : World.cell? w2 ⟨(w.heap.size + 3), 2, none⟩ = some (.slice none 0 0) := hk4.cell 2
      have f2 := hk4.frozen 2
      have q3 : World.cell? w2 ⟨(w.heap.size + 3), 3, none⟩ = some (.slice none 0 0) := hk4.cell 3
      have f3 := hk4.frozen 3
      have q4 : World.cell? w2 ⟨(w.heap.size + 3), 4, none⟩ = some (.slice none 0 0) := hk4.cell 4
      have f4 := hk4.frozen 4
      have fl := hk4.lt
      go_wp2
      exact bodyPost_ret (v := .tuple #[.agg #[.slice none 0 0, .slice none 0 0, .slice none 0 0, .slice none 0 0, .slice none 0 0], .int .i64 2]) (by simp [results, Try.results52, go_sem, q0, q1, q2, q3, q4, f0, f1, f2, f3, f4, fl]) rfl ((none_fin HR.out hB2 (by omega) _ _ _ _ _).alloc _)
    · go_enter Try.func52, Try.ntmps52
      go_wp2_with fail
      rw [← hwE]
      clear hwE
      have p0 : World.cell? wE ⟨(w.heap.size + 1), 0, none⟩ = some (.slice S1 a.s.length c1) := hk2.cell 0
      have g0 := hk2.frozen 0
      have p1 : World.cell? wE ⟨(w.heap.size + 1), 1, none⟩ = some (.slice N1 a.n.length c2) := hk2.cell 1
      have g1 := hk2.frozen 1
      have p2 : World.cell? wE ⟨(w.heap.size + 1), 2, none⟩ = some (.slice G1 a.g.length c3) := hk2.cell 2
      have g2 := hk2.frozen 2
      have p3 : World.cell? wE ⟨(w.heap.size + 1), 3, none⟩ = some (.slice D d.length c4) := hk2.cell 3
      have g3 := hk2.frozen 3
      have p4 : World.cell? wE ⟨(w.heap.size + 1), 4, none⟩ = some (.slice T t.length c5) := hk2.cell 4
      have g4 := hk2.frozen 4
      have gl := hk2.lt
      go_wp2_with fail
      refine (HTW.out _ hrE).mono ?_
      rintro _ w2 ⟨S2, N2, G2, D2, T2, z1, z2, z3, z4, z5, rfl, hC, hb2⟩
      have hB2 := bstep hbE hb2
      have hs2 := hb2.size
      clear p0 p1 p2 p3 p4 g0 g1 g2 g3 g4 gl
      replace hk1 := hk1.keep hb2
      replace hk2 := hk2.keep hb2
      replace hk3 := hk3.keep hb2
      replace hk4 := hk4.keep hb2
      replace hxE := hxE.keep hb2
      replace hyE := hyE.keep hb2
      replace hrE := hrE.keep hb2
      obtain ⟨gT, cuT, rfl, hgT, _⟩ := made_blk hC.t ht0
      have e0 : World.cell? w2 ⟨(w.heap.size + 2), 0, none⟩ = some (.int .u8 3) := hk3.cell 0
      have ef0 := hk3.frozen 0
      have e1 : World.cell? w2 ⟨(w.heap.size + 2), 1, none⟩ = some (.int .i64 u) := hk3.cell 1
      have ef1 := hk3.frozen 1
      have e2 : World.cell? w2 ⟨(w.heap.size + 2), 2, none⟩ = some (.int .i64 b) := hk3.cell 2
      have ef2 := hk3.frozen 2
      have efl := hk3.lt
      have p0 : World.cell? w2 ⟨(w.heap.size + 1), 0, none⟩ = some (.slice S1 a.s.length c1) := hk2.cell 0
      have g0 := hk2.frozen 0
      have p1 : World.cell? w2 ⟨(w.heap.size + 1), 1, none⟩ = some (.slice N1 a.n.length c2) := hk2.cell 1
      have g1 := hk2.frozen 1
      have p2 : World.cell? w2 ⟨(w.heap.size + 1), 2, none⟩ = some (.slice G1 a.g.length c3) := hk2.cell 2
      have g2 := hk2.frozen 2
      have p3 : World.cell? w2 ⟨(w.heap.size + 1), 3, none⟩ = some (.slice D d.length c4) := hk2.cell 3
      have g3 := hk2.frozen 3
      have p4 : World.cell? w2 ⟨(w.heap.size + 1), 4, none⟩ = some (.slice T t.length c5) := hk2.cell 4
      have g4 := hk2.frozen 4
      have gl := hk2.lt
      have q0 : World.cell? w2 ⟨(w.heap.size + 3), 0, none⟩ = some (.slice none 0 0) := hk4.cell 0
      have f0 := hk4.frozen 0
      have q1 : World.cell? w2 ⟨(w.heap.size + 3), 1, none⟩ = some (.slice none 0 0) := hk4.cell 1
      have f1 := hk4.frozen 1
      have q2 : World.cell? w2 ⟨(w.heap.size + 3), 2, none⟩ = some (.slice none 0 0) := hk4.cell 2
      have f2 := hk4.frozen 2
      have q3 : World.cell? w2 ⟨(w.heap.size + 3), 3, none⟩ = some (.slice none 0 0) := hk4.cell 3
      have f3 := hk4.frozen 3
      have q4 : World.cell? w2 ⟨(w.heap.size + 3), 4, none⟩ = some (.slice none 0 0) := hk4.cell 4
      have f4 := hk4.frozen 4
      have fl := hk4.lt
      go_wp2
      exact bodyPost_ret (v := .tuple #[.agg #[.slice none 0 0, .slice none 0 0, .slice none 0 0, .slice none 0 0, .slice none 0 0], .int .i64 2]) (by simp [results, Try.results52, go_sem, q0, q1, q2, q3, q4, f0, f1, f2, f3, f4, fl]) rfl ((none_fin HR.out hB2 (by omega) _ _ _ _ _).alloc _)
    · obtain ⟨U, rfl⟩ : ∃ U : Nat, u = U := ⟨u.toNat, by omega⟩
      have hU : U < t.length := by omega
      go_enter Try.func52, Try.ntmps52
      go_wp2_with fail
      rw [← hwE]
      clear hwE
      have p0 : World.cell? wE ⟨(w.heap.size + 1), 0, none⟩ = some (.slice S1 a.s.length c1) := hk2.cell 0
      have g0 := hk2.frozen 0
      have p1 : World.cell? wE ⟨(w.heap.size + 1), 1, none⟩ = some (.slice N1 a.n.length c2) := hk2.cell 1
      have g1 := hk2.frozen 1
      have p2 : World.cell? wE ⟨(w.heap.size + 1), 2, none⟩ = some (.slice G1 a.g.length c3) := hk2.cell 2
      have g2 := hk2.frozen 2
      have p3 : World.cell? wE ⟨(w.heap.size + 1), 3, none⟩ = some (.slice D d.length c4) := hk2.cell 3
      have g3 := hk2.frozen 3
      have p4 : World.cell? wE ⟨(w.heap.size + 1), 4, none⟩ = some (.slice T t.length c5) := hk2.cell 4
      have g4 := hk2.frozen 4
      have gl := hk2.lt
      go_wp2_with fail
      refine (HTW.out _ hrE).mono ?_
      rintro _ w2 ⟨S2, N2, G2, D2, T2, z1, z2, z3, z4, z5, rfl, hC, hb2⟩
      have hB2 := bstep hbE hb2
      have hs2 := hb2.size
      clear p0 p1 p2 p3 p4 g0 g1 g2 g3 g4 gl
      replace hk1 := hk1.keep hb2
      replace hk2 := hk2.keep hb2
      replace hk3 := hk3.keep hb2
      replace hk4 := hk4.keep hb2
      replace hxE := hxE.keep hb2
      replace hyE := hyE.keep hb2
      replace hrE := hrE.keep hb2
      obtain ⟨gT, cuT, rfl, hgT, _⟩ := made_blk hC.t ht0
      have e0 : World.cell? w2 ⟨(w.heap.size + 2), 0, none⟩ = some (.int .u8 3) := hk3.cell 0
      have ef0 := hk3.frozen 0
      have e1 : World.cell? w2 ⟨(w.heap.size + 2), 1, none⟩ = some (.int .i64 (U : Int)) := hk3.cell 1
      have ef1 := hk3.frozen 1
      have e2 : World.cell? w2 ⟨(w.heap.size + 2), 2, none⟩ = some (.int .i64 b) := hk3.cell 2
      have ef2 := hk3.frozen 2
      have efl := hk3.lt
      have p0 : World.cell? w2 ⟨(w.heap.size + 1), 0, none⟩ = some (.slice S1 a.s.length c1) := hk2.cell 0
      have g0 := hk2.frozen 0
      have p1 : World.cell? w2 ⟨(w.heap.size + 1), 1, none⟩ = some (.slice N1 a.n.length c2) := hk2.cell 1
      have g1 := hk2.frozen 1
      have p2 : World.cell? w2 ⟨(w.heap.size + 1), 2, none⟩ = some (.slice G1 a.g.length c3) := hk2.cell 2
      have g2 := hk2.frozen 2
      have p3 : World.cell? w2 ⟨(w.heap.size + 1), 3, none⟩ = some (.slice D d.length c4) := hk2.cell 3
      have g3 := hk2.frozen 3
      have p4 : World.cell? w2 ⟨(w.heap.size + 1), 4, none⟩ = some (.slice T t.length c5) := hk2.cell 4
      have g4 := hk2.frozen 4
      have gl := hk2.lt
      have q0 : World.cell? w2 ⟨(w.heap.size + 3), 0, none⟩ = some (.slice none 0 0) := hk4.cell 0
      have f0 := hk4.frozen 0
      have q1 : World.cell? w2 ⟨(w.heap.size + 3), 1, none⟩ = some (.slice none 0 0) := hk4.cell 1
      have f1 := hk4.frozen 1
      have q2 : World.cell? w2 ⟨(w.heap.size + 3), 2, none⟩ = some (.slice none 0 0) := hk4.cell 2
      have f2 := hk4.frozen 2
      have q3 : World.cell? w2 ⟨(w.heap.size + 3), 3, none⟩ = some (.slice none 0 0) := hk4.cell 3
      have f3 := hk4.frozen 3
      have q4 : World.cell? w2 ⟨(w.heap.size + 3), 4, none⟩ = some (.slice none 0 0) := hk4.cell 4
      have f4 := hk4.frozen 4
      have fl := hk4.lt
      obtain ⟨bt, ot, rfl, htl, htc⟩ := hrE.t (by simp only; omega)
      have htk := htc U hU
      simp only at htk
      clear htc
      go_wp2
      exact bodyPost_ret (v := .tuple #[.agg #[.slice none 0 0, .slice none 0 0, .slice none 0 0, .slice none 0 0, .slice none 0 0], .int .i64 2]) (by simp [results, Try.results52, go_sem, q0, q1, q2, q3, q4, f0, f1, f2, f3, f4, fl]) rfl ((none_fin HR.out hB2 (by omega) _ _ _ _ _).alloc _)
  obtain ⟨hu0, hu1, rfl⟩ := ev_done (by decide) hev
  obtain ⟨U, rfl⟩ : ∃ U : Nat, u = U := ⟨u.toNat, by omega⟩
  have hU : U < t.length := by omega
  have hst := step_done (d := d) (t := t) (k := 3) (by decide) hU
  have p1 : decide ((U : Int) < 0) = false := decide_eq_false (by omega)
  have p2 : decide ((t.length : Int) ≤ (U : Int)) = false := decide_eq_false (by omega)
  have hge := hAT t[U] (List.getElem_mem hU)
  have eT : t.getD U 0 = t[U] := getD_lt _ _ hU
  rw [eT] at hst
  clear hu0 hu1 hev hAT
  by_cases h1 : t[U] = -1
  · rw [if_pos h1] at hst
    have HR := Lib.hid (hNO.out _ hst (by decide))
    have HT := Lib.hid (eT.trans h1)
    clear hst h1 hNO hOK hge eT
    go_enter Try.func52, Try.ntmps52
    go_wp2_with fail
    rw [← hwE]
    clear hwE
    have p0 : World.cell? wE ⟨(w.heap.size + 1), 0, none⟩ = some (.slice S1 a.s.length c1) := hk2.cell 0
    have g0 := hk2.frozen 0
    have p1 : World.cell? wE ⟨(w.heap.size + 1), 1, none⟩ = some (.slice N1 a.n.length c2) := hk2.cell 1
    have g1 := hk2.frozen 1
    have p2 : World.cell? wE ⟨(w.heap.size + 1), 2, none⟩ = some (.slice G1 a.g.length c3) := hk2.cell 2
    have g2 := hk2.frozen 2
    have p3 : World.cell? wE ⟨(w.heap.size + 1), 3, none⟩ = some (.slice D d.length c4) := hk2.cell 3
    have g3 := hk2.frozen 3
    have p4 : World.cell? wE ⟨(w.heap.size + 1), 4, none⟩ = some (.slice T t.length c5) := hk2.cell 4
    have g4 := hk2.frozen 4
    have gl := hk2.lt
    go_wp2_with fail
    refine (HTW.out _ hrE).mono ?_
    rintro _ w2 ⟨S2, N2, G2, D2, T2, z1, z2, z3, z4, z5, rfl, hC, hb2⟩
    have hB2 := bstep hbE hb2
    have hs2 := hb2.size
    clear p0 p1 p2 p3 p4 g0 g1 g2 g3 g4 gl
    replace hk1 := hk1.keep hb2
    replace hk2 := hk2.keep hb2
    replace hk3 := hk3.keep hb2
    replace hk4 := hk4.keep hb2
    replace hxE := hxE.keep hb2
    replace hyE := hyE.keep hb2
    replace hrE := hrE.keep hb2
    obtain ⟨gT, cuT, rfl, hgT, _⟩ := made_blk hC.t ht0
    have e0 : World.cell? w2 ⟨(w.heap.size + 2), 0, none⟩ = some (.int .u8 3) := hk3.cell 0
    have ef0 := hk3.frozen 0
    have e1 : World.cell? w2 ⟨(w.heap.size + 2), 1, none⟩ = some (.int .i64 (U : Int)) := hk3.cell 1
    have ef1 := hk3.frozen 1
    have e2 : World.cell? w2 ⟨(w.heap.size + 2), 2, none⟩ = some (.int .i64 0) := hk3.cell 2
    have ef2 := hk3.frozen 2
    have efl := hk3.lt
    have p0 : World.cell? w2 ⟨(w.heap.size + 1), 0, none⟩ = some (.slice S1 a.s.length c1) := hk2.cell 0
    have g0 := hk2.frozen 0
    have p1 : World.cell? w2 ⟨(w.heap.size + 1), 1, none⟩ = some (.slice N1 a.n.length c2) := hk2.cell 1
    have g1 := hk2.frozen 1
    have p2 : World.cell? w2 ⟨(w.heap.size + 1), 2, none⟩ = some (.slice G1 a.g.length c3) := hk2.cell 2
    have g2 := hk2.frozen 2
    have p3 : World.cell? w2 ⟨(w.heap.size + 1), 3, none⟩ = some (.slice D d.length c4) := hk2.cell 3
    have g3 := hk2.frozen 3
    have p4 : World.cell? w2 ⟨(w.heap.size + 1), 4, none⟩ = some (.slice T t.length c5) := hk2.cell 4
    have g4 := hk2.frozen 4
    have gl := hk2.lt
    have q0 : World.cell? w2 ⟨(w.heap.size + 3), 0, none⟩ = some (.slice none 0 0) := hk4.cell 0
    have f0 := hk4.frozen 0
    have q1 : World.cell? w2 ⟨(w.heap.size + 3), 1, none⟩ = some (.slice none 0 0) := hk4.cell 1
    have f1 := hk4.frozen 1
    have q2 : World.cell? w2 ⟨(w.heap.size + 3), 2, none⟩ = some (.slice none 0 0) := hk4.cell 2
    have f2 := hk4.frozen 2
    have q3 : World.cell? w2 ⟨(w.heap.size + 3), 3, none⟩ = some (.slice none 0 0) := hk4.cell 3
    have f3 := hk4.frozen 3
    have q4 : World.cell? w2 ⟨(w.heap.size + 3), 4, none⟩ = some (.slice none 0 0) := hk4.cell 4
    have f4 := hk4.frozen 4
    have fl := hk4.lt
    obtain ⟨bt, ot, rfl, htl, htc⟩ := hrE.t (by simp only; omega)
    have htk := htc U hU
    simp only [HT.out] at htk
    clear htc
    go_wp2
    exact bodyPost_ret (v := .tuple #[.agg #[.slice none 0 0, .slice none 0 0, .slice none 0 0, .slice none 0 0, .slice none 0 0], .int .i64 36]) (by simp [results, Try.results52, go_sem, q0, q1, q2, q3, q4, f0, f1, f2, f3, f4, fl]) rfl ((none_fin HR.out hB2 (by omega) _ _ _ _ _).alloc _)
  rw [if_neg h1] at hst
  obtain ⟨A, hA⟩ : ∃ A : Nat, t[U] = A := ⟨t[U].toNat, by omega⟩
  have hAd : A < d.length := by have := hG.d; omega
  have hx1 : decide ((A : Int) < 0) = false := decide_eq_false (by omega)
  rw [hA, Int.toNat_natCast] at hst
  have HT := Lib.hid (eT.trans hA)
  clear h1 hNO hA eT hge
  rw [if_neg (by decide)] at hst
  have HR := Lib.hid (hOK.out _ _ hst)
  clear hst hOK
  go_enter Try.func52, Try.ntmps52
  go_wp2_with fail
  rw [← hwE]
  clear hwE
  have p0 : World.cell? wE ⟨(w.heap.size + 1), 0, none⟩ = some (.slice S1 a.s.length c1) := hk2.cell 0
  have g0 := hk2.frozen 0
  have p1 : World.cell? wE ⟨(w.heap.size + 1), 1, none⟩ = some (.slice N1 a.n.length c2) := hk2.cell 1
  have g1 := hk2.frozen 1
  have p2 : World.cell? wE ⟨(w.heap.size + 1), 2, none⟩ = some (.slice G1 a.g.length c3) := hk2.cell 2
  have g2 := hk2.frozen 2
  have p3 : World.cell? wE ⟨(w.heap.size + 1), 3, none⟩ = some (.slice D d.length c4) := hk2.cell 3
  have g3 := hk2.frozen 3
  have p4 : World.cell? wE ⟨(w.heap.size + 1), 4, none⟩ = some (.slice T t.length c5) := hk2.cell 4
  have g4 := hk2.frozen 4
  have gl := hk2.lt
  go_wp2_with fail
  refine (HTW.out _ hrE).mono ?_
  rintro _ w2 ⟨S2, N2, G2, D2, T2, z1, z2, z3, z4, z5, rfl, hC, hb2⟩
  have hB2 := bstep hbE hb2
  have hs2 := hb2.size
  clear p0 p1 p2 p3 p4 g0 g1 g2 g3 g4 gl
  replace hk1 := hk1.keep hb2
  replace hk2 := hk2.keep hb2
  replace hk3 := hk3.keep hb2
  replace hk4 := hk4.keep hb2
  replace hxE := hxE.keep hb2
  replace hyE := hyE.keep hb2
  replace hrE := hrE.keep hb2
  obtain ⟨gT, cuT, rfl, hgT, _⟩ := made_blk hC.t ht0
  have e0 : World.cell? w2 ⟨(w.heap.size + 2), 0, none⟩ = some (.int .u8 3) := hk3.cell 0
  have ef0 := hk3.frozen 0
  have e1 : World.cell? w2 ⟨(w.heap.size + 2), 1, none⟩ = some (.int .i64 (U : Int)) := hk3.cell 1
  have ef1 := hk3.frozen 1
  have e2 : World.cell? w2 ⟨(w.heap.size + 2), 2, none⟩ = some (.int .i64 0) := hk3.cell 2
  have ef2 := hk3.frozen 2
  have efl := hk3.lt
  have p0 : World.cell? w2 ⟨(w.heap.size + 1), 0, none⟩ = some (.slice S1 a.s.length c1) := hk2.cell 0
  have g0 := hk2.frozen 0
  have p1 : World.cell? w2 ⟨(w.heap.size + 1), 1, none⟩ = some (.slice N1 a.n.length c2) := hk2.cell 1
  have g1 := hk2.frozen 1
  have p2 : World.cell? w2 ⟨(w.heap.size + 1), 2, none⟩ = some (.slice G1 a.g.length c3) := hk2.cell 2
  have g2 := hk2.frozen 2
  have p3 : World.cell? w2 ⟨(w.heap.size + 1), 3, none⟩ = some (.slice D d.length c4) := hk2.cell 3
  have g3 := hk2.frozen 3
  have p4 : World.cell? w2 ⟨(w.heap.size + 1), 4, none⟩ = some (.slice T t.length c5) := hk2.cell 4
  have g4 := hk2.frozen 4
  have gl := hk2.lt
  have q0 : World.cell? w2 ⟨(w.heap.size + 3), 0, none⟩ = some (.slice none 0 0) := hk4.cell 0
  have f0 := hk4.frozen 0
  have q1 : World.cell? w2 ⟨(w.heap.size + 3), 1, none⟩ = some (.slice none 0 0) := hk4.cell 1
  have f1 := hk4.frozen 1
  have q2 : World.cell? w2 ⟨(w.heap.size + 3), 2, none⟩ = some (.slice none 0 0) := hk4.cell 2
  have f2 := hk4.frozen 2
  have q3 : World.cell? w2 ⟨(w.heap.size + 3), 3, none⟩ = some (.slice none 0 0) := hk4.cell 3
  have f3 := hk4.frozen 3
  have q4 : World.cell? w2 ⟨(w.heap.size + 3), 4, none⟩ = some (.slice none 0 0) := hk4.cell 4
  have f4 := hk4.frozen 4
  have fl := hk4.lt
  obtain ⟨bt, ot, rfl, htl, htc⟩ := hrE.t (by simp only; omega)
  have htk := htc U hU
  simp only [HT.out] at htk
  clear htc
  obtain ⟨m1, m2, m3, m4⟩ := made_cell (ev := fun x => Value.int .i64 x) (fun _ => rfl) hC.t hU
  simp only at m1
  have t1 : ¬ gT = w.heap.size + 3 := by omega
  have t2 : ¬ gT = w2.heap.size := by omega
  have t3 : ¬ w.heap.size + 3 = gT := by omega
  have t4 : ¬ w2.heap.size = gT := by omega
  go_wp2
  refine bodyPost_ret (v := .tuple #[.agg #[.slice S2 a.s.length z1, .slice N2 a.n.length z2, .slice G2 a.g.length z3, .slice D2 d.length z4, .slice (some ⟨gT, 0, none⟩) t.length z5], .int .i64 0]) (by simp [results, Try.results52, go_sem, q0, q1, q2, q3, q4, f0, f1, f2, f3, f4, fl, t1, t2, t3, t4]) rfl ?_
  rw [HR.out, haD]
  have hC3 := hC.setT (k := U) hU (-1)
  have hfin := (work_fin (w := w) (x := 0) (c1 := z1) (c2 := z2) (c3 := z3) (c4 := z4) (c5 := z5) hC3.rw_ (hk4.far (p := ⟨gT, U, none⟩) t3 _) (hB2.setCell (p := ⟨gT, U, none⟩) (by simp only; omega) _) (by omega)).alloc (.cells #[.slice S2 a.s.length z1, .slice N2 a.n.length z2, .slice G2 a.g.length z3, .slice D2 d.length z4, .slice (some ⟨gT, 0, none⟩) t.length z5] 42)
  simp only [List.length_set] at hfin
  exact hfin
end Wk
end Go.Proofs.Ytdekbncpodjgnaa
namespace Go.Proofs.Ytdekbncpodjgnaa
open Go.RowKit Runs Lagc Reg
set_option linter.unusedVariables false
set_option linter.unusedSimpArgs false
namespace Wk
open Lagw

set_option maxRecDepth 20000 in
set_option maxHeartbeats 1000000 in
theorem next_done_any {xs ys : List Int} {M S : Nat} (hj : Job xs ys M S) (X Y S1 N1 G1 D T : Option Addr) (cx cy c1 c2 c3 c4 c5 : Nat) (d : List Bool) (t : List Int) (u b : Int) (w : World) (hx : RI .i64 w X xs) (hy : RI .i64 w Y ys) (hG : Good19 (cdiv xs.length S) d t) (hr : RW w S1 N1 G1 D T ⟨sumA xs ys M S d, d, t⟩) :
    Calls Try.prog 52 #[.agg #[.slice X xs.length cx, .slice Y ys.length cy, .int .i64 (M : Int), .int .i64 (S : Int)], .agg #[.slice S1 (sumA xs ys M S d).s.length c1, .slice N1 (sumA xs ys M S d).n.length c2, .slice G1 (sumA xs ys M S d).g.length c3, .slice D d.length c4, .slice T t.length c5], .agg #[.int .u8 2, .int .i64 u, .int .i64 b]] w (RetW w (stW xs ys M S (stepS d t ⟨2, u, b⟩))) := by
  have hAT := hG.at_
  have HSM : Hid (∀ A, A < d.length → ∀ D' c4 w, RI .i64 w X xs → RI .i64 w Y ys → RBo w D' (d.set A true) → Calls Try.prog 31 #[.agg #[.slice X xs.length cx, .slice Y ys.length cy, .int .i64 (M : Int), .int .i64 (S : Int)], .slice D' d.length c4] w fun e w' => ∃ S1 N1 G1 c1 c2 c3, e = .returned (.agg #[.slice S1 (sumA xs ys M S (d.set A true)).s.length c1, .slice N1 (sumA xs ys M S (d.set A true)).n.length c2, .slice G1 (sumA xs ys M S (d.set A true)).g.length c3]) ∧ RA w' S1 N1 G1 (sumA xs ys M S (d.set A true)) ∧ FA w.heap.size S1 N1 G1 ∧ Below w.heap.size w w') := Lib.hid (fun A hA D' c4 w hx hy hd => by
    have h := summed_any hj X Y D' cx cy c4 (d.set A true) w hx hy hd (by rw [List.length_set]; exact hG.d)
    rw [List.length_set] at h
    exact h)
  have hfA := (sumA_is hj hG.d).fine
  have hOK := Lib.hid (fun d2 t2 (h : stepS d t ⟨2, u, b⟩ = ((d2, t2), 0)) => stW_ok (xs := xs) (ys := ys) (M := M) (S := S) h)
  have hNO := Lib.hid (fun x (h : stepS d t ⟨2, u, b⟩ = (([], []), x)) (hx : x ≠ 0) => stW_no (xs := xs) (ys := ys) (M := M) (S := S) h hx)
  generalize stW xs ys M S (stepS d t ⟨2, u, b⟩) = RES at *
  generalize hGS : sumA xs ys M S = SM at *
  generalize haD : SM d = a at *
  obtain ⟨wE, hwE⟩ : ∃ wE, wE = (((w.alloc (.cells #[.slice X xs.length cx, .slice Y ys.length cy, .int .i64 (M : Int), .int .i64 (S : Int)] 24)).alloc (.cells #[.slice S1 a.s.length c1, .slice N1 a.n.length c2, .slice G1 a.g.length c3, .slice D d.length c4, .slice T t.length c5] 42)).alloc (.cells #[.int .u8 2, .int .i64 u, .int .i64 b] 54)).alloc (.cells #[.slice .none 0 0, .slice .none 0 0, .slice .none 0 0, .slice .none 0 0, .slice .none 0 0] 42) := ⟨_, rfl⟩
  have hk1 : Blk wE w.heap.size 24 #[.slice X xs.length cx, .slice Y ys.length cy, .int .i64 (M : Int), .int .i64 (S : Int)] := by rw [hwE]; exact (((Blk.new _ _ _).alloc _).alloc _).alloc _
  have hk2 : Blk wE (w.heap.size + 1) 42 #[.slice S1 a.s.length c1, .slice N1 a.n.length c2, .slice G1 a.g.length c3, .slice D d.length c4, .slice T t.length c5] := by rw [hwE]; exact ((Blk.newAt _ _ (by simp)).alloc _).alloc _
  have hk3 : Blk wE (w.heap.size + 2) 54 #[.int .u8 2, .int .i64 u, .int .i64 b] := by rw [hwE]; exact (Blk.newAt _ _ (by simp)).alloc _
  have hk4 : Blk wE (w.heap.size + 3) 42 #[.slice .none 0 0, .slice .none 0 0, .slice .none 0 0, .slice .none 0 0, .slice .none 0 0] := by rw [hwE]; exact Blk.newAt _ _ (by simp)
  have hbE : Below w.heap.size w wE := by rw [hwE]; exact balloc (balloc (balloc (balloc (Below.refl _ _) _) _) _) _
  have hsE : wE.heap.size = w.heap.size + 4 := by rw [hwE]; simp
  have hxE := hx.keep hbE
  have hyE := hy.keep hbE
  have hrE := hr.keep hbE
  have ht0 : 0 < t.length := hG.t0
  have ht6 := hG.t6
  have hdC := hG.d
  have hc64 := hj.c
  have HTW := Lib.hid (fun w hx => twin19_any S1 N1 G1 D T c1 c2 c3 c4 c5 ⟨a, d, t⟩ w hx (by have := hfA.ls; simp only; omega) (by have := hfA.ls; have := hfA.ln; simp only; omega) (by have := hfA.lg; simp only; omega) (by simp only; omega) (by simp only; omega))
  clear hr hfA hc64 hdC
  cases hev : isEvB d.length t.length 2 u b
  · have HR := Lib.hid (hNO.out 2 (step_ev hev) (by decide))
    have hcase : decide (u < 0) = true ∨ (decide (u < 0) = false ∧ decide ((t.length : Int) ≤ u) = true) ∨ (decide (u < 0) = false ∧ decide ((t.length : Int) ≤ u) = false ∧ 0 ≤ u ∧ u < t.length ∧ (b != 0) = true) := by
      unfold isEvB at hev
      rw [if_neg (by decide), if_pos (by decide)] at hev
      simp only [Bool.and_eq_false_iff, decide_eq_false_iff_not, decide_eq_true_eq, beq_eq_false_iff_ne, bne_iff_ne] at hev ⊢
      omega
    clear hev hNO hOK hAT
    rcases hcase with p1 | ⟨p1, p2⟩ | ⟨p1, p2, p5, p6, p3⟩
    · go_enter Try.func52, Try.ntmps52
      go_wp2_with fail
      rw [← hwE]
      clear hwE
      have p0 : World.cell? wE ⟨(w.heap.size + 1), 0, none⟩ = some (.slice S1 a.s.length c1) := hk2.cell 0
      have g0 := hk2.frozen 0
      have p1 : World.cell? wE ⟨(w.heap.size + 1), 1, none⟩ = some (.slice N1 a.n.length c2) := hk2.cell 1
      have g1 := hk2.frozen 1
      have p2 : World.cell? wE ⟨(w.heap.size + 1), 2, none⟩ = some (.slice G1 a.g.length c3) := hk2.cell 2
      have g2 := hk2.frozen 2
      have p3 : World.cell? wE ⟨(w.heap.size + 1), 3, none⟩ = some (.slice D d.length c4) := hk2.cell 3
      have g3 := hk2.frozen 3
      have p4 : World.cell? wE ⟨(w.heap.size + 1), 4, none⟩ = some (.slice T t.length c5) := hk2.cell 4
      have g4 := hk2.frozen 4
      have gl := hk2.lt
      go_wp2_with fail
      refine (HTW.out _ hrE).mono ?_
      rintro _ w2 ⟨S2, N2, G2, D2, T2, z1, z2, z3, z4, z5, rfl, hC, hb2⟩
      have hB2 := bstep hbE hb2
      have hs2 := hb2.size
      clear p0 p1 p2 p3 p4 g0 g1 g2 g3 g4 gl
      replace hk1 := hk1.keep hb2
      replace hk2 := hk2.keep hb2
      replace hk3 := hk3.keep hb2
      replace hk4 := hk4.keep hb2
      replace hxE := hxE.keep hb2
      replace hyE := hyE.keep hb2
      replace hrE := hrE.keep hb2
      obtain ⟨gT, cuT, rfl, hgT, _⟩ := made_blk hC.t ht0
      have e0 : World.cell? w2 ⟨(w.heap.size + 2), 0, none⟩ = some (.int .u8 2) := hk3.cell 0
      have ef0 := hk3.frozen 0
      have e1 : World.cell? w2 ⟨(w.heap.size + 2), 1, none⟩ = some (.int .i64 u) := hk3.cell 1
      have ef1 := hk3.frozen 1
      have e2 : World.cell? w2 ⟨(w.heap.size + 2), 2, none⟩ = some (.int .i64 b) := hk3.cell 2
      have ef2 := hk3.frozen 2
      have efl := hk3.lt
      have p0 : World.cell? w2 ⟨(w.heap.size + 1), 0, none⟩ = some (.slice S1 a.s.length c1) := hk2.cell 0
      have g0 := hk2.frozen 0
      have p1 : World.cell? w2 ⟨(w.heap.size + 1), 1, none⟩ = some (.slice N1 a.n.length c2) := hk2.cell 1
      have g1 := hk2.frozen 1
      have p2 : World.cell? w2 ⟨(w.heap.size + 1), 2, none⟩ = some (.slice G1 a.g.length c3) := hk2.cell 2
      have g2 := hk2.frozen 2
      have p3 : World.cell? w2 ⟨(w.heap.size + 1), 3, none⟩ = some (.slice D d.length c4) := hk2.cell 3
      have g3 := hk2.frozen 3
      have p4 : World.cell? w2 ⟨(w.heap.size + 1), 4, none⟩ = some (.slice T t.length c5) := hk2.cell 4
      have g4 := hk2.frozen 4
      have gl := hk2.lt
      have q0 : World.cell? w2 ⟨(w.heap.size + 3), 0, none⟩ = some (.slice none 0 0) := hk4.cell 0
      have f0 := hk4.frozen 0
      have q1 : World.cell? w2 ⟨(w.heap.size + 3), 1, none⟩ = some (.slice none 0 0) := hk4.cell 1
      have f1 := hk4.frozen 1
      have q2 : World.cell? w2 ⟨(w.heap.size + 3), 2, none⟩ = some (.slice none 0 0) := hk4.cell 2
      have f2 := hk4.frozen 2
      have q3 : World.cell? w2 ⟨(w.heap.size + 3), 3, none⟩ = some (.slice none 0 0) := hk4.cell 3
      have f3 := hk4.frozen 3
      have q4 : World.cell? w2 ⟨(w.heap.size + 3), 4, none⟩ = some (.slice none 0 0) := hk4.cell 4
      have f4 := hk4.frozen 4
      have fl := hk4.lt
      go_wp2
      exact bodyPost_ret (v := .tuple #[.agg #[.slice none 0 0, .slice none 0 0, .slice none 0 0, .slice none 0 0, .slice none 0 0], .int .i64 2]) (by simp [results, Try.results52, go_sem, q0, q1, q2, q3, q4, f0, f1, f2, f3, f4, fl]) rfl ((none_fin HR.out hB2 (by omega) _ _ _ _ _).alloc _)
    · go_enter Try.func52, Try.ntmps52
      go_wp2_with fail
      rw [← hwE]
      clear hwE
      have p0 : World.cell? wE ⟨(w.heap.size + 1), 0, none⟩ = some (.slice S1 a.s.length c1) := hk2.cell 0
      have g0 := hk2.frozen 0
      have p1 : World.cell? wE ⟨(w.heap.size + 1), 1, none⟩ = some (.slice N1 a.n.length c2) := hk2.cell 1
      have g1 := hk2.frozen 1
      have p2 : World.cell? wE ⟨(w.heap.size + 1), 2, none⟩ = some (.slice G1 a.g.length c3) := hk2.cell 2
      have g2 := hk2.frozen 2
      have p3 : World.cell? wE ⟨(w.heap.size + 1), 3, none⟩ = some (.slice D d.length c4) := hk2.cell 3
      have g3 := hk2.frozen 3
      have p4 : World.cell? wE ⟨(w.heap.size + 1), 4, none⟩ = some (.slice T t.length c5) := hk2.cell 4
      have g4 := hk2.frozen 4
      have gl := hk2.lt
      go_wp2_with fail
      refine (HTW.out _ hrE).mono ?_
      rintro _ w2 ⟨S2, N2, G2, D2, T2, z1, z2, z3, z4, z5, rfl, hC, hb2⟩
      have hB2 := bstep hbE hb2
      have hs2 := hb2.size
      clear p0 p1 p2 p3 p4 g0 g1 g2 g3 g4 gl
      replace hk1 := hk1.keep hb2
      replace hk2 := hk2.keep hb2
      replace hk3 := hk3.keep hb2
      replace hk4 := hk4.keep hb2
      replace hxE := hxE.keep hb2
      replace hyE := hyE.keep hb2
      replace hrE := hrE.keep hb2
      obtain ⟨gT, cuT, rfl, hgT, _⟩ := made_blk hC.t ht0
      have e0 : World.cell? w2 ⟨(w.heap.size + 2), 0, none⟩ = some (.int .u8 2) := hk3.cell 0
      have ef0 := hk3.frozen 0
      have e1 : World.cell? w2 ⟨(w.heap.size + 2), 1, none⟩ = some (.int .i64 u) := hk3.cell 1
      have ef1 := hk3.frozen 1
      have e2 : World.cell? w2 ⟨(w.heap.size + 2), 2, none⟩ = some (.int .i64 b) := hk3.cell 2
      have ef2 := hk3.frozen 2
      have efl := hk3.lt
      have p0 : World.cell? w2 ⟨(w.heap.size + 1), 0, none⟩ = some (.slice S1 a.s.length c1) := hk2.cell 0
      have g0 := hk2.frozen 0
      have p1 : World.cell? w2 ⟨(w.heap.size + 1), 1, none⟩ = some (.slice N1 a.n.length c2) := hk2.cell 1
      have g1 := hk2.frozen 1
      have p2 : World.cell? w2 ⟨(w.heap.size + 1), 2, none⟩ = some (.slice G1 a.g.length c3) := hk2.cell 2
      have g2 := hk2.frozen 2
      have p3 : World.cell? w2 ⟨(w.heap.size + 1), 3, none⟩ = some (.slice D d.length c4) := hk2.cell 3
      have g3 := hk2.frozen 3
      have p4 : World.cell? w2 ⟨(w.heap.size + 1), 4, none⟩ = some (.slice T t.length c5) := hk2.cell 4
      have g4 := hk2.frozen 4
      have gl := hk2.lt
      have q0 : World.cell? w2 ⟨(w.heap.size + 3), 0, none⟩ = some (.slice none 0 0) := hk4.cell 0
      have f0 := hk4.frozen 0
      have q1 : World.cell? w2 ⟨(w.heap.size + 3), 1, none⟩ = some (.slice none 0 0) := hk4.cell 1
      have f1 := hk4.frozen 1
      have q2 : World.cell? w2 ⟨(w.heap.size + 3), 2, none⟩ = some (.slice none 0 0) := hk4.cell 2
      have f2 := hk4.frozen 2
      have q3 : World.cell? w2 ⟨(w.heap.size + 3), 3, none⟩ = some (.slice none 0 0) := hk4.cell 3
      have f3 := hk4.frozen 3
      have q4 : World.cell? w2 ⟨(w.heap.size + 3), 4, none⟩ = some (.slice none 0 0) := hk4.cell 4
      have f4 := hk4.frozen 4
      have fl := hk4.lt
      go_wp2
      exact bodyPost_ret (v := .tuple #[.agg #[.slice none 0 0, .slice none 0 0, .slice none 0 0, .slice none 0 0, .slice none 0 0], .int .i64 2]) (by simp [results, Try.results52, go_sem, q0, q1, q2, q3, q4, f0, f1, f2, f3, f4, fl]) rfl ((none_fin HR.out hB2 (by omega) _ _ _ _ _).alloc _)
    · obtain ⟨U, rfl⟩ : ∃ U : Nat, u = U := ⟨u.toNat, by omega⟩
      have hU : U < t.length := by omega
      go_enter Try.func52, Try.ntmps52
      go_wp2_with fail
      rw [← hwE]
      clear hwE
      have p0 : World.cell? wE ⟨(w.heap.size + 1), 0, none⟩ = some (.slice S1 a.s.length c1) := hk2.cell 0
      have g0 := hk2.frozen 0
      have p1 : World.cell? wE ⟨(w.heap.size + 1), 1, none⟩ = some (.slice N1 a.n.length c2) := hk2.cell 1
      have g1 := hk2.frozen 1
      have p2 : World.cell? wE ⟨(w.heap.size + 1), 2, none⟩ = some (.slice G1 a.g.length c3) := hk2.cell 2
      have g2 := hk2.frozen 2
      have p3 : World.cell? wE ⟨(w.heap.size + 1), 3, none⟩ = some (.slice D d.length c4) := hk2.cell 3
      have g3 := hk2.frozen 3
      have p4 : World.cell? wE ⟨(w.heap.size + 1), 4, none⟩ = some (.slice T t.length c5) := hk2.cell 4
      have g4 := hk2.frozen 4
      have gl := hk2.lt
      go_wp2_with fail
      refine (HTW.out _ hrE).mono ?_
      rintro _ w2 ⟨S2, N2, G2, D2, T2, z1, z2, z3, z4, z5, rfl, hC, hb2⟩
      have hB2 := bstep hbE hb2
      have hs2 := hb2.size
      clear p0 p1 p2 p3 p4 g0 g1 g2 g3 g4 gl
      replace hk1 := hk1.keep hb2
      replace hk2 := hk2.keep hb2
      replace hk3 := hk3.keep hb2
      replace hk4 := hk4.keep hb2
      replace hxE := hxE.keep hb2
      replace hyE := hyE.keep hb2
      replace hrE := hrE.keep hb2
      obtain ⟨gT, cuT, rfl, hgT, _⟩ := made_blk hC.t ht0
      have e0 : World.cell? w2 ⟨(w.heap.size + 2), 0, none⟩ = some (.int .u8 2) := hk3.cell 0
      have ef0 := hk3.frozen 0
      have e1 : World.cell? w2 ⟨(w.heap.size + 2), 1, none⟩ = some (.int .i64 (U : Int)) := hk3.cell 1
      have ef1 := hk3.frozen 1
      have e2 : World.cell? w2 ⟨(w.heap.size + 2), 2, none⟩ = some (.int .i64 b) := hk3.cell 2
      have ef2 := hk3.frozen 2
      have efl := hk3.lt
      have p0 : World.cell? w2 ⟨(w.heap.size + 1), 0, none⟩ = some (.slice S1 a.s.length c1) := hk2.cell 0
      have g0 := hk2.frozen 0
      have p1 : World.cell? w2 ⟨(w.heap.size + 1), 1, none⟩ = some (.slice N1 a.n.length c2) := hk2.cell 1
      have g1 := hk2.frozen 1
      have p2 : World.cell? w2 ⟨(w.heap.size + 1), 2, none⟩ = some (.slice G1 a.g.length c3) := hk2.cell 2
      have g2 := hk2.frozen 2
      have p3 : World.cell? w2 ⟨(w.heap.size + 1), 3, none⟩ = some (.slice D d.length c4) := hk2.cell 3
      have g3 := hk2.frozen 3
      have p4 : World.cell? w2 ⟨(w.heap.size + 1), 4, none⟩ = some (.slice T t.length c5) := hk2.cell 4
      have g4 := hk2.frozen 4
      have gl := hk2.lt
      have q0 : World.cell? w2 ⟨(w.heap.size + 3), 0, none⟩ = some (.slice none 0 0) := hk4.cell 0
      have f0 := hk4.frozen 0
      have q1 : World.cell? w2 ⟨(w.heap.size + 3), 1, none⟩ = some (.slice none 0 0) := hk4.cell 1
      have f1 := hk4.frozen 1
      have q2 : World.cell? w2 ⟨(w.heap.size + 3), 2, none⟩ = some (.slice none 0 0) := hk4.cell 2
      have f2 := hk4.frozen 2
      have q3 : World.cell? w2 ⟨(w.heap.size + 3), 3, none⟩ = some (.slice none 0 0) := hk4.cell 3
      have f3 := hk4.frozen 3
      have q4 : World.cell? w2 ⟨(w.heap.size + 3), 4, none⟩ = some (.slice none 0 0) := hk4.cell 4
      have f4 := hk4.frozen 4
      have fl := hk4.lt
      obtain ⟨bt, ot, rfl, htl, htc⟩ := hrE.t (by simp only; omega)
      have htk := htc U hU
      simp only at htk
      clear htc
      go_wp2
      exact bodyPost_ret (v := .tuple #[.agg #[.slice none 0 0, .slice none 0 0, .slice none 0 0, .slice none 0 0, .slice none 0 0], .int .i64 2]) (by simp [results, Try.results52, go_sem, q0, q1, q2, q3, q4, f0, f1, f2, f3, f4, fl]) rfl ((none_fin HR.out hB2 (by omega) _ _ _ _ _).alloc _)
  obtain ⟨hu0, hu1, rfl⟩ := ev_done (by decide) hev
  obtain ⟨U, rfl⟩ : ∃ U : Nat, u = U := ⟨u.toNat, by omega⟩
  have hU : U < t.length := by omega
  have hst := step_done (d := d) (t := t) (k := 2) (by decide) hU
  have p1 : decide ((U : Int) < 0) = false := decide_eq_false (by omega)
  have p2 : decide ((t.length : Int) ≤ (U : Int)) = false := decide_eq_false (by omega)
  have hge := hAT t[U] (List.getElem_mem hU)
  have eT : t.getD U 0 = t[U] := getD_lt _ _ hU
  rw [eT] at hst
  clear hu0 hu1 hev hAT
  by_cases h1 : t[U] = -1
  · rw [if_pos h1] at hst
    have HR := Lib.hid (hNO.out _ hst (by decide))
    have HT := Lib.hid (eT.trans h1)
    clear hst h1 hNO hOK hge eT
    go_enter Try.func52, Try.ntmps52
    go_wp2_with fail
    rw [← hwE]
    clear hwE
    have p0 : World.cell? wE ⟨(w.heap.size + 1), 0, none⟩ = some (.slice S1 a.s.length c1) := hk2.cell 0
    have g0 := hk2.frozen 0
    have p1 : World.cell? wE ⟨(w.heap.size + 1), 1, none⟩ = some (.slice N1 a.n.length c2) := hk2.cell 1
    have g1 := hk2.frozen 1
    have p2 : World.cell? wE ⟨(w.heap.size + 1), 2, none⟩ = some (.slice G1 a.g.length c3) := hk2.cell 2
    have g2 := hk2.frozen 2
    have p3 : World.cell? wE ⟨(w.heap.size + 1), 3, none⟩ = some (.slice D d.length c4) := hk2.cell 3
    have g3 := hk2.frozen 3
    have p4 : World.cell? wE ⟨(w.heap.size + 1), 4, none⟩ = some (.slice T t.length c5) := hk2.cell 4
    have g4 := hk2.frozen 4
    have gl := hk2.lt
    go_wp2_with fail
    refine (HTW.out _ hrE).mono ?_
    rintro _ w2 ⟨S2, N2, G2, D2, T2, z1, z2, z3, z4, z5, rfl, hC, hb2⟩
    have hB2 := bstep hbE hb2
    have hs2 := hb2.size
    clear p0 p1 p2 p3 p4 g0 g1 g2 g3 g4 gl
    replace hk1 := hk1.keep hb2
    replace hk2 := hk2.keep hb2
    replace hk3 := hk3.keep hb2
    replace hk4 := hk4.keep hb2
    replace hxE := hxE.keep hb2
    replace hyE := hyE.keep hb2
    replace hrE := hrE.keep hb2
    obtain ⟨gT, cuT, rfl, hgT, _⟩ := made_blk hC.t ht0
    have e0 : World.cell? w2 ⟨(w.heap.size + 2), 0, none⟩ = some (.int .u8 2) := hk3.cell 0
    have ef0 := hk3.frozen 0
    have e1 : World.cell? w2 ⟨(w.heap.size + 2), 1, none⟩ = some (.int .i64 (U : Int)) := hk3.cell 1
    have ef1 := hk3.frozen 1
    have e2 : World.cell? w2 ⟨(w.heap.size + 2), 2, none⟩ = some (.int .i64 0) := hk3.cell 2
    have ef2 := hk3.frozen 2
    have efl := hk3.lt
    have p0 : World.cell? w2 ⟨(w.heap.size + 1), 0, none⟩ = some (.slice S1 a.s.length c1) := hk2.cell 0
    have g0 := hk2.frozen 0
    have p1 : World.cell? w2 ⟨(w.heap.size + 1), 1, none⟩ = some (.slice N1 a.n.length c2) := hk2.cell 1
    have g1 := hk2.frozen 1
    have p2 : World.cell? w2 ⟨(w.heap.size + 1), 2, none⟩ = some (.slice G1 a.g.length c3) := hk2.cell 2
    have g2 := hk2.frozen 2
    have p3 : World.cell? w2 ⟨(w.heap.size + 1), 3, none⟩ = some (.slice D d.length c4) := hk2.cell 3
    have g3 := hk2.frozen 3
    have p4 : World.cell? w2 ⟨(w.heap.size + 1), 4, none⟩ = some (.slice T t.length c5) := hk2.cell 4
    have g4 := hk2.frozen 4
    have gl := hk2.lt
    have q0 : World.cell? w2 ⟨(w.heap.size + 3), 0, none⟩ = some (.slice none 0 0) := hk4.cell 0
    have f0 := hk4.frozen 0
    have q1 : World.cell? w2 ⟨(w.heap.size + 3), 1, none⟩ = some (.slice none 0 0) := hk4.cell 1
    have f1 := hk4.frozen 1
    have q2 : World.cell? w2 ⟨(w.heap.size + 3), 2, none⟩ = some (.slice none 0 0) := hk4.cell 2
    have f2 := hk4.frozen 2
    have q3 : World.cell? w2 ⟨(w.heap.size + 3), 3, none⟩ = some (.slice none 0 0) := hk4.cell 3
    have f3 := hk4.frozen 3
    have q4 : World.cell? w2 ⟨(w.heap.size + 3), 4, none⟩ = some (.slice none 0 0) := hk4.cell 4
    have f4 := hk4.frozen 4
    have fl := hk4.lt
    obtain ⟨bt, ot, rfl, htl, htc⟩ := hrE.t (by simp only; omega)
    have htk := htc U hU
    simp only [HT.out] at htk
    clear htc
    go_wp2
    exact bodyPost_ret (v := .tuple #[.agg #[.slice none 0 0, .slice none 0 0, .slice none 0 0, .slice none 0 0, .slice none 0 0], .int .i64 36]) (by simp [results, Try.results52, go_sem, q0, q1, q2, q3, q4, f0, f1, f2, f3, f4, fl]) rfl ((none_fin HR.out hB2 (by omega) _ _ _ _ _).alloc _)
  rw [if_neg h1] at hst
  obtain ⟨A, hA⟩ : ∃ A : Nat, t[U] = A := ⟨t[U].toNat, by omega⟩
  have hAd : A < d.length := by have := hG.d; omega
  have hx1 : decide ((A : Int) < 0) = false := decide_eq_false (by omega)
  rw [hA, Int.toNat_natCast] at hst
  have HT := Lib.hid (eT.trans hA)
  clear h1 hNO hA eT hge
  rw [if_pos rfl] at hst
  cases h2 : d.getD A false
  · have HR := Lib.hid (hOK.out _ _ hst)
    have HD := Lib.hid h2
    have HSMA := Lib.hid (HSM.out A hAd)
    clear hst hOK h2 HSM
    generalize SM (d.set A true) = a2 at *
    have hrd : ∃ bd od, D = some ⟨bd, od, none⟩ ∧ bd < wE.heap.size := by
      obtain ⟨bd, od, e, h, _⟩ := hrE.d (by simp only; omega)
      exact ⟨bd, od, e, h⟩
    obtain ⟨bd, od, hDe, hdl⟩ := hrd
    replace hDe := Lib.hid hDe
    go_enter Try.func52, Try.ntmps52
    go_wp2_with fail
    rw [← hwE]
    clear hwE
    have p0 : World.cell? wE ⟨(w.heap.size + 1), 0, none⟩ = some (.slice S1 a.s.length c1) := hk2.cell 0
    have g0 := hk2.frozen 0
    have p1 : World.cell? wE ⟨(w.heap.size + 1), 1, none⟩ = some (.slice N1 a.n.length c2) := hk2.cell 1
    have g1 := hk2.frozen 1
    have p2 : World.cell? wE ⟨(w.heap.size + 1), 2, none⟩ = some (.slice G1 a.g.length c3) := hk2.cell 2
    have g2 := hk2.frozen 2
    have p3 : World.cell? wE ⟨(w.heap.size + 1), 3, none⟩ = some (.slice D d.length c4) := hk2.cell 3
    have g3 := hk2.frozen 3
    have p4 : World.cell? wE ⟨(w.heap.size + 1), 4, none⟩ = some (.slice T t.length c5) := hk2.cell 4
    have g4 := hk2.frozen 4
    have gl := hk2.lt
    go_wp2_with fail
    refine (HTW.out _ hrE).mono ?_
    rintro _ w2 ⟨S2, N2, G2, D2, T2, z1, z2, z3, z4, z5, rfl, hC, hb2⟩
    have hB2 := bstep hbE hb2
    have hs2 := hb2.size
    clear p0 p1 p2 p3 p4 g0 g1 g2 g3 g4 gl
    replace hk1 := hk1.keep hb2
    replace hk2 := hk2.keep hb2
    replace hk3 := hk3.keep hb2
    replace hk4 := hk4.keep hb2
    replace hxE := hxE.keep hb2
    replace hyE := hyE.keep hb2
    replace hrE := hrE.keep hb2
    obtain ⟨gT, cuT, rfl, hgT, _⟩ := made_blk hC.t ht0
    have e0 : World.cell? w2 ⟨(w.heap.size + 2), 0, none⟩ = some (.int .u8 2) := hk3.cell 0
    have ef0 := hk3.frozen 0
    have e1 : World.cell? w2 ⟨(w.heap.size + 2), 1, none⟩ = some (.int .i64 (U : Int)) := hk3.cell 1
    have ef1 := hk3.frozen 1
    have e2 : World.cell? w2 ⟨(w.heap.size + 2), 2, none⟩ = some (.int .i64 0) := hk3.cell 2
    have ef2 := hk3.frozen 2
    have efl := hk3.lt
    have p0 : World.cell? w2 ⟨(w.heap.size + 1), 0, none⟩ = some (.slice S1 a.s.length c1) := hk2.cell 0
    have g0 := hk2.frozen 0
    have p1 : World.cell? w2 ⟨(w.heap.size + 1), 1, none⟩ = some (.slice N1 a.n.length c2) := hk2.cell 1
    have g1 := hk2.frozen 1
    have p2 : World.cell? w2 ⟨(w.heap.size + 1), 2, none⟩ = some (.slice G1 a.g.length c3) := hk2.cell 2
    have g2 := hk2.frozen 2
    have p3 : World.cell? w2 ⟨(w.heap.size + 1), 3, none⟩ = some (.slice D d.length c4) := hk2.cell 3
    have g3 := hk2.frozen 3
    have p4 : World.cell? w2 ⟨(w.heap.size + 1), 4, none⟩ = some (.slice T t.length c5) := hk2.cell 4
    have g4 := hk2.frozen 4
    have gl := hk2.lt
    have q0 : World.cell? w2 ⟨(w.heap.size + 3), 0, none⟩ = some (.slice none 0 0) := hk4.cell 0
    have f0 := hk4.frozen 0
    have q1 : World.cell? w2 ⟨(w.heap.size + 3), 1, none⟩ = some (.slice none 0 0) := hk4.cell 1
    have f1 := hk4.frozen 1
    have q2 : World.cell? w2 ⟨(w.heap.size + 3), 2, none⟩ = some (.slice none 0 0) := hk4.cell 2
    have f2 := hk4.frozen 2
    have q3 : World.cell? w2 ⟨(w.heap.size + 3), 3, none⟩ = some (.slice none 0 0) := hk4.cell 3
    have f3 := hk4.frozen 3
    have q4 : World.cell? w2 ⟨(w.heap.size + 3), 4, none⟩ = some (.slice none 0 0) := hk4.cell 4
    have f4 := hk4.frozen 4
    have fl := hk4.lt
    obtain ⟨bt, ot, rfl, htl, htc⟩ := hrE.t (by simp only; omega)
    have htk := htc U hU
    simp only [HT.out] at htk
    obtain ⟨bd', od', eD, hdl', hdc⟩ := hrE.d (by simp only; omega)
    have hDo := hDe.out
    clear hDe
    subst hDo
    cases eD
    have hdk := hdc A hAd
    simp only [HD.out] at hdk
    clear htc hdc
    obtain ⟨m1, m2, m3, m4⟩ := made_cell (ev := fun x => Value.int .i64 x) (fun _ => rfl) hC.t hU
    simp only at m1
    obtain ⟨gD, cuD, rfl, hgD, hkD, _⟩ := made_blk hC.d (by simp only; omega)
    obtain ⟨n1, n2, n3, n4⟩ := made_cell (ev := fun x => Value.bool x) (fun _ => rfl) hC.d hAd
    simp only at n1
    have nDT : gT ≠ gD := made_type hC.t ht0 hkD (by decide)
    have t1 : ¬ gT = w.heap.size + 3 := by omega
    have t2 : ¬ gT = w2.heap.size := by omega
    have t3 : ¬ w.heap.size + 3 = gT := by omega
    have t4 : ¬ w2.heap.size = gT := by omega
    have t5 : ¬ gT = gD := nDT
    have t6 : ¬ gD = gT := fun e => nDT e.symm
    have t7 : ¬ gT = w.heap.size := by omega
    have t8 : ¬ w.heap.size = gT := by omega
    have s1 : ¬ gD = w2.heap.size := by omega
    have s2 : ¬ w2.heap.size = gD := by omega
    have s3 : ¬ gD = w.heap.size + 3 := by omega
    have s4 : ¬ w.heap.size + 3 = gD := by omega
    have s7 : ¬ gD = w.heap.size := by omega
    have s8 : ¬ w.heap.size = gD := by omega
    have r1 : ¬ gT = bd := by omega
    have r2 : ¬ bd = gT := by omega
    have j0 : World.cell? w2 ⟨w.heap.size, 0, none⟩ = some (.slice X xs.length cx) := hk1.cell 0
    have jf0 := hk1.frozen 0
    have j1 : World.cell? w2 ⟨w.heap.size, 1, none⟩ = some (.slice Y ys.length cy) := hk1.cell 1
    have jf1 := hk1.frozen 1
    have j2 : World.cell? w2 ⟨w.heap.size, 2, none⟩ = some (.int .i64 (M : Int)) := hk1.cell 2
    have jf2 := hk1.frozen 2
    have j3 : World.cell? w2 ⟨w.heap.size, 3, none⟩ = some (.int .i64 (S : Int)) := hk1.cell 3
    have jf3 := hk1.frozen 3
    have jfl := hk1.lt
    go_wp2_with fail
    obtain ⟨wV, hwV⟩ : ∃ wV, wV = ((w2.setCell ⟨gT, U, none⟩ (.int .i64 (-1))).setCell ⟨gD, A, none⟩ (.bool true)).alloc (.cells #[.slice S2 a.s.length z1, .slice N2 a.n.length z2, .slice G2 a.g.length z3, .slice (some ⟨gD, 0, none⟩) d.length z4, .slice (some ⟨gT, 0, none⟩) t.length z5] 42) := ⟨_, rfl⟩
    have hkV : Blk wV w2.heap.size 42 #[.slice S2 a.s.length z1, .slice N2 a.n.length z2, .slice G2 a.g.length z3, .slice (some ⟨gD, 0, none⟩) d.length z4, .slice (some ⟨gT, 0, none⟩) t.length z5] := by rw [hwV]; exact Blk.newAt _ _ (by simp [World.setCell])
    have hkR : Blk wV (w.heap.size + 3) 42 #[.slice none 0 0, .slice none 0 0, .slice none 0 0, .slice none 0 0, .slice none 0 0] := by rw [hwV]; exact ((hk4.far (p := ⟨gT, U, none⟩) t3 _).far (p := ⟨gD, A, none⟩) s4 _).alloc _
    have hCV : CW wE.heap.size wV S2 N2 G2 (some ⟨gD, 0, none⟩) (some ⟨gT, 0, none⟩) z1 z2 z3 z4 z5 ⟨a, d.set A true, t.set U (-1)⟩ := by rw [hwV]; exact (((hC.setT (k := U) hU (-1)).setD (k := A) hAd true)).keep (balloc (Below.refl _ _) _)
    have hBV : Below w.heap.size w wV := by rw [hwV]; exact balloc ((hB2.setCell (p := ⟨gT, U, none⟩) (by simp only; omega) _).setCell (p := ⟨gD, A, none⟩) (by simp only; omega) _) _
    have hsV : wV.heap.size = w2.heap.size + 1 := by rw [hwV]; simp [World.setCell]
    rw [← hwV]
    clear hwV hk1 hk3 m1 m2 m3 n1 n2 j0 j1 j2 j3 jf0 jf1 jf2 jf3 jfl q0 q1 q2 q3 q4 f0 f1 f2 f3 f4 fl hxE hyE hkD htk hdk hrE
    clear e0 e1 e2 ef0 ef1 ef2 efl
    refine (HSMA.out (some ⟨gD, 0, none⟩) z4 _ (hx.keep hBV) (hy.keep hBV) hCV.rw_.d).mono ?_
    rintro _ w5 ⟨S5, N5, G5, y1, y2, y3, rfl, ra5, fa5, hb5⟩
    have hkV5 := hkV.keep hb5
    have hkR5 := hkR.keep hb5
    have hC5 := hCV.keep hb5
    have hB5 := bstep hBV hb5
    have p0 : World.cell? w5 ⟨w2.heap.size, 0, none⟩ = some (.slice S2 a.s.length z1) := hkV5.cell 0
    have g0 := hkV5.frozen 0
    have p1 : World.cell? w5 ⟨w2.heap.size, 1, none⟩ = some (.slice N2 a.n.length z2) := hkV5.cell 1
    have g1 := hkV5.frozen 1
    have p2 : World.cell? w5 ⟨w2.heap.size, 2, none⟩ = some (.slice G2 a.g.length z3) := hkV5.cell 2
    have g2 := hkV5.frozen 2
    have p3 : World.cell? w5 ⟨w2.heap.size, 3, none⟩ = some (.slice (some ⟨gD, 0, none⟩) d.length z4) := hkV5.cell 3
    have g3 := hkV5.frozen 3
    have p4 : World.cell? w5 ⟨w2.heap.size, 4, none⟩ = some (.slice (some ⟨gT, 0, none⟩) t.length z5) := hkV5.cell 4
    have g4 := hkV5.frozen 4
    have gl := hkV5.lt
    have q0 : World.cell? w5 ⟨(w.heap.size + 3), 0, none⟩ = some (.slice none 0 0) := hkR5.cell 0
    have f0 := hkR5.frozen 0
    have q1 : World.cell? w5 ⟨(w.heap.size + 3), 1, none⟩ = some (.slice none 0 0) := hkR5.cell 1
    have f1 := hkR5.frozen 1
    have q2 : World.cell? w5 ⟨(w.heap.size + 3), 2, none⟩ = some (.slice none 0 0) := hkR5.cell 2
    have f2 := hkR5.frozen 2
    have q3 : World.cell? w5 ⟨(w.heap.size + 3), 3, none⟩ = some (.slice none 0 0) := hkR5.cell 3
    have f3 := hkR5.frozen 3
    have q4 : World.cell? w5 ⟨(w.heap.size + 3), 4, none⟩ = some (.slice none 0 0) := hkR5.cell 4
    have f4 := hkR5.frozen 4
    have fl := hkR5.lt
    have s5 : ¬ w2.heap.size = w.heap.size + 3 := by omega
    have s6 : ¬ w.heap.size + 3 = w2.heap.size := by omega
    go_wp2
    refine bodyPost_ret (v := .tuple #[.agg #[.slice S5 a2.s.length y1, .slice N5 a2.n.length y2, .slice G5 a2.g.length y3, .slice (some ⟨gD, 0, none⟩) d.length z4, .slice (some ⟨gT, 0, none⟩) t.length z5], .int .i64 0]) (by simp [results, Try.results52, go_sem, q0, q1, q2, q3, q4, f0, f1, f2, f3, f4, fl, p0, p1, p2, p3, p4, s1, s2, s3, s4, s5, s6]) rfl ?_
    rw [HR.out]
    have k1' := hkV5.put 0 (.slice S5 a2.s.length y1)
    have k2' := k1'.put 1 (.slice N5 a2.n.length y2)
    have k3' := k2'.put 2 (.slice G5 a2.g.length y3)
    have hC6 := ((hC5.far (p := ⟨w2.heap.size, 0, none⟩) hkV5 (.slice S5 a2.s.length y1)).far (p := ⟨w2.heap.size, 1, none⟩) k1' (.slice N5 a2.n.length y2)).far (p := ⟨w2.heap.size, 2, none⟩) k2' (.slice G5 a2.g.length y3)
    have ra6 := ((ra5.far fa5 (p := ⟨w2.heap.size, 0, none⟩) (by simp only; omega) (.slice S5 a2.s.length y1)).far fa5 (p := ⟨w2.heap.size, 1, none⟩) (by simp only; omega) (.slice N5 a2.n.length y2)).far fa5 (p := ⟨w2.heap.size, 2, none⟩) (by simp only; omega) (.slice G5 a2.g.length y3)
    have hkR6 := ((hkR5.far (p := ⟨w2.heap.size, 0, none⟩) s6 (.slice S5 a2.s.length y1)).far (p := ⟨w2.heap.size, 1, none⟩) s6 (.slice N5 a2.n.length y2)).far (p := ⟨w2.heap.size, 2, none⟩) s6 (.slice G5 a2.g.length y3)
    have hB6 := ((hB5.setCell (p := ⟨w2.heap.size, 0, none⟩) (by simp only; omega) (.slice S5 a2.s.length y1)).setCell (p := ⟨w2.heap.size, 1, none⟩) (by simp only; omega) (.slice N5 a2.n.length y2)).setCell (p := ⟨w2.heap.size, 2, none⟩) (by simp only; omega) (.slice G5 a2.g.length y3)
    have hfin := work_fin (w := w) (x := 0) (c1 := y1) (c2 := y2) (c3 := y3) (c4 := z4) (c5 := z5) (r := ⟨a2, d.set A true, t.set U (-1)⟩) ⟨ra6, hC6.rw_.d, hC6.rw_.t⟩ hkR6 hB6 (by omega)
    simp only [List.length_set] at hfin
    exact hfin
  · have hset : d.set A true = d := by
      refine List.ext_getElem (by rw [List.length_set]) fun j h4 h5 => ?_
      rw [List.getElem_set]
      split
      · rename_i e; subst e; rw [getD_lt _ _ h5] at h2; exact h2.symm
      · rfl
    rw [hset] at hst
    have HR := Lib.hid (hOK.out _ _ hst)
    have HD := Lib.hid h2
    clear hst hOK h2 hset HSM
    have hrd : ∃ bd od, D = some ⟨bd, od, none⟩ ∧ bd < wE.heap.size := by
      obtain ⟨bd, od, e, h, _⟩ := hrE.d (by simp only; omega)
      exact ⟨bd, od, e, h⟩
    obtain ⟨bd, od, hDe, hdl⟩ := hrd
    replace hDe := Lib.hid hDe
    go_enter Try.func52, Try.ntmps52
    go_wp2_with fail
    rw [← hwE]
    clear hwE
    have p0 : World.cell? wE ⟨(w.heap.size + 1), 0, none⟩ = some (.slice S1 a.s.length c1) := hk2.cell 0
    have g0 := hk2.frozen 0
    have p1 : World.cell? wE ⟨(w.heap.size + 1), 1, none⟩ = some (.slice N1 a.n.length c2) := hk2.cell 1
    have g1 := hk2.frozen 1
    have p2 : World.cell? wE ⟨(w.heap.size + 1), 2, none⟩ = some (.slice G1 a.g.length c3) := hk2.cell 2
    have g2 := hk2.frozen 2
    have p3 : World.cell? wE ⟨(w.heap.size + 1), 3, none⟩ = some (.slice D d.length c4) := hk2.cell 3
    have g3 := hk2.frozen 3
    have p4 : World.cell? wE ⟨(w.heap.size + 1), 4, none⟩ = some (.slice T t.length c5) := hk2.cell 4
    have g4 := hk2.frozen 4
    have gl := hk2.lt
    go_wp2_with fail
    refine (HTW.out _ hrE).mono ?_
    rintro _ w2 ⟨S2, N2, G2, D2, T2, z1, z2, z3, z4, z5, rfl, hC, hb2⟩
    have hB2 := bstep hbE hb2
    have hs2 := hb2.size
    clear p0 p1 p2 p3 p4 g0 g1 g2 g3 g4 gl
    replace hk1 := hk1.keep hb2
    replace hk2 := hk2.keep hb2
    replace hk3 := hk3.keep hb2
    replace hk4 := hk4.keep hb2
    replace hxE := hxE.keep hb2
    replace hyE := hyE.keep hb2
    replace hrE := hrE.keep hb2
    obtain ⟨gT, cuT, rfl, hgT, _⟩ := made_blk hC.t ht0
    have e0 : World.cell? w2 ⟨(w.heap.size + 2), 0, none⟩ = some (.int .u8 2) := hk3.cell 0
    have ef0 := hk3.frozen 0
    have e1 : World.cell? w2 ⟨(w.heap.size + 2), 1, none⟩ = some (.int .i64 (U : Int)) := hk3.cell 1
    have ef1 := hk3.frozen 1
    have e2 : World.cell? w2 ⟨(w.heap.size + 2), 2, none⟩ = some (.int .i64 0) := hk3.cell 2
    have ef2 := hk3.frozen 2
    have efl := hk3.lt
    have p0 : World.cell? w2 ⟨(w.heap.size + 1), 0, none⟩ = some (.slice S1 a.s.length c1) := hk2.cell 0
    have g0 := hk2.frozen 0
    have p1 : World.cell? w2 ⟨(w.heap.size + 1), 1, none⟩ = some (.slice N1 a.n.length c2) := hk2.cell 1
    have g1 := hk2.frozen 1
    have p2 : World.cell? w2 ⟨(w.heap.size + 1), 2, none⟩ = some (.slice G1 a.g.length c3) := hk2.cell 2
    have g2 := hk2.frozen 2
    have p3 : World.cell? w2 ⟨(w.heap.size + 1), 3, none⟩ = some (.slice D d.length c4) := hk2.cell 3
    have g3 := hk2.frozen 3
    have p4 : World.cell? w2 ⟨(w.heap.size + 1), 4, none⟩ = some (.slice T t.length c5) := hk2.cell 4
    have g4 := hk2.frozen 4
    have gl := hk2.lt
    have q0 : World.cell? w2 ⟨(w.heap.size + 3), 0, none⟩ = some (.slice none 0 0) := hk4.cell 0
    have f0 := hk4.frozen 0
    have q1 : World.cell? w2 ⟨(w.heap.size + 3), 1, none⟩ = some (.slice none 0 0) := hk4.cell 1
    have f1 := hk4.frozen 1
    have q2 : World.cell? w2 ⟨(w.heap.size + 3), 2, none⟩ = some (.slice none 0 0) := hk4.cell 2
    have f2 := hk4.frozen 2
    have q3 : World.cell? w2 ⟨(w.heap.size + 3), 3, none⟩ = some (.slice none 0 0) := hk4.cell 3
    have f3 := hk4.frozen 3
    have q4 : World.cell? w2 ⟨(w.heap.size + 3), 4, none⟩ = some (.slice none 0 0) := hk4.cell 4
    have f4 := hk4.frozen 4
    have fl := hk4.lt
    obtain ⟨bt, ot, rfl, htl, htc⟩ := hrE.t (by simp only; omega)
    have htk := htc U hU
    simp only [HT.out] at htk
    obtain ⟨bd', od', eD, hdl', hdc⟩ := hrE.d (by simp only; omega)
    have hDo := hDe.out
    clear hDe
    subst hDo
    cases eD
    have hdk := hdc A hAd
    simp only [HD.out] at hdk
    clear htc hdc
    have r1 : ¬ gT = bd := by omega
    have r2 : ¬ bd = gT := by omega
    obtain ⟨m1, m2, m3, m4⟩ := made_cell (ev := fun x => Value.int .i64 x) (fun _ => rfl) hC.t hU
    simp only at m1
    have t1 : ¬ gT = w.heap.size + 3 := by omega
    have t2 : ¬ gT = w2.heap.size := by omega
    have t3 : ¬ w.heap.size + 3 = gT := by omega
    have t4 : ¬ w2.heap.size = gT := by omega
    go_wp2
    refine bodyPost_ret (v := .tuple #[.agg #[.slice S2 a.s.length z1, .slice N2 a.n.length z2, .slice G2 a.g.length z3, .slice D2 d.length z4, .slice (some ⟨gT, 0, none⟩) t.length z5], .int .i64 0]) (by simp [results, Try.results52, go_sem, q0, q1, q2, q3, q4, f0, f1, f2, f3, f4, fl, t1, t2, t3, t4]) rfl ?_
    rw [HR.out, haD]
    have hC3 := hC.setT (k := U) hU (-1)
    have hfin := (work_fin (w := w) (x := 0) (c1 := z1) (c2 := z2) (c3 := z3) (c4 := z4) (c5 := z5) hC3.rw_ (hk4.far (p := ⟨gT, U, none⟩) t3 _) (hB2.setCell (p := ⟨gT, U, none⟩) (by simp only; omega) _) (by omega)).alloc (.cells #[.slice S2 a.s.length z1, .slice N2 a.n.length z2, .slice G2 a.g.length z3, .slice D2 d.length z4, .slice (some ⟨gT, 0, none⟩) t.length z5] 42)
    simp only [List.length_set] at hfin
    exact hfin
end Wk
end Go.Proofs.Ytdekbncpodjgnaa
namespace Go.Proofs.Ytdekbncpodjgnaa
open Go.RowKit Runs Lagc Reg
set_option linter.unusedVariables false
set_option linter.unusedSimpArgs false
namespace Wk
open Lagw

def rstL (t : List Int) (k : Nat) : List Int := List.replicate k (-1) ++ t.drop k
theorem rst_zero (t : List Int) : rstL t 0 = t := by simp [rstL]
theorem rst_len {t : List Int} {k : Nat} (h : k ≤ t.length) : (rstL t k).length = t.length := by simp [rstL]; omega
theorem rst_end (t : List Int) : rstL t t.length = List.replicate t.length (-1) := by simp [rstL]
theorem rst_set {t : List Int} {k : Nat} (h : k < t.length) : (rstL t k).set k (-1) = rstL t (k + 1) := by
  unfold rstL
  rw [List.set_append_right _ _ (by simp), List.length_replicate, Nat.sub_self, List.drop_eq_getElem_cons h, List.set_cons_zero, List.replicate_succ', List.append_assoc]
  rfl
set_option maxRecDepth 20000 in
set_option maxHeartbeats 1000000 in
theorem next_restart_any {xs ys : List Int} {M S : Nat} (hj : Job xs ys M S) (X Y S1 N1 G1 D T : Option Addr) (cx cy c1 c2 c3 c4 c5 : Nat) (d : List Bool) (t : List Int) (u b : Int) (w : World) (hx : RI .i64 w X xs) (hy : RI .i64 w Y ys) (hG : Good19 (cdiv xs.length S) d t) (hr : RW w S1 N1 G1 D T ⟨sumA xs ys M S d, d, t⟩) :
    Calls Try.prog 52 #[.agg #[.slice X xs.length cx, .slice Y ys.length cy, .int .i64 (M : Int), .int .i64 (S : Int)], .agg #[.slice S1 (sumA xs ys M S d).s.length c1, .slice N1 (sumA xs ys M S d).n.length c2, .slice G1 (sumA xs ys M S d).g.length c3, .slice D d.length c4, .slice T t.length c5], .agg #[.int .u8 4, .int .i64 u, .int .i64 b]] w (RetW w (stW xs ys M S (stepS d t ⟨4, u, b⟩))) := by
  have hfA := (sumA_is hj hG.d).fine
  have hOK := Lib.hid (fun d2 t2 (h : stepS d t ⟨4, u, b⟩ = ((d2, t2), 0)) => stW_ok (xs := xs) (ys := ys) (M := M) (S := S) h)
  have hNO := Lib.hid (fun x (h : stepS d t ⟨4, u, b⟩ = (([], []), x)) (hx : x ≠ 0) => stW_no (xs := xs) (ys := ys) (M := M) (S := S) h hx)
  generalize stW xs ys M S (stepS d t ⟨4, u, b⟩) = RES at *
  generalize hGS : sumA xs ys M S = SM at *
  generalize haD : SM d = a at *
  obtain ⟨wE, hwE⟩ : ∃ wE, wE = (((w.alloc (.cells #[.slice X xs.length cx, .slice Y ys.length cy, .int .i64 (M : Int), .int .i64 (S : Int)] 24)).alloc (.cells #[.slice S1 a.s.length c1, .slice N1 a.n.length c2, .slice G1 a.g.length c3, .slice D d.length c4, .slice T t.length c5] 42)).alloc (.cells #[.int .u8 4, .int .i64 u, .int .i64 b] 54)).alloc (.cells #[.slice .none 0 0, .slice .none 0 0, .slice .none 0 0, .slice .none 0 0, .slice .none 0 0] 42) := ⟨_, rfl⟩
  have hk1 : Blk wE w.heap.size 24 #[.slice X xs.length cx, .slice Y ys.length cy, .int .i64 (M : Int), .int .i64 (S : Int)] := by rw [hwE]; exact (((Blk.new _ _ _).alloc _).alloc _).alloc _
  have hk2 : Blk wE (w.heap.size + 1) 42 #[.slice S1 a.s.length c1, .slice N1 a.n.length c2, .slice G1 a.g.length c3, .slice D d.length c4, .slice T t.length c5] := by rw [hwE]; exact ((Blk.newAt _ _ (by simp)).alloc _).alloc _
  have hk3 : Blk wE (w.heap.size + 2) 54 #[.int .u8 4, .int .i64 u, .int .i64 b] := by rw [hwE]; exact (Blk.newAt _ _ (by simp)).alloc _
  have hk4 : Blk wE (w.heap.size + 3) 42 #[.slice .none 0 0, .slice .none 0 0, .slice .none 0 0, .slice .none 0 0, .slice .none 0 0] := by rw [hwE]; exact Blk.newAt _ _ (by simp)
  have hbE : Below w.heap.size w wE := by rw [hwE]; exact balloc (balloc (balloc (balloc (Below.refl _ _) _) _) _) _
  have hsE : wE.heap.size = w.heap.size + 4 := by rw [hwE]; simp
  have hxE := hx.keep hbE
  have hyE := hy.keep hbE
  have hrE := hr.keep hbE
  have ht0 : 0 < t.length := hG.t0
  have ht6 := hG.t6
  have hdC := hG.d
  have hc64 := hj.c
  have HTW := Lib.hid (fun w hx => twin19_any S1 N1 G1 D T c1 c2 c3 c4 c5 ⟨a, d, t⟩ w hx (by have := hfA.ls; simp only; omega) (by have := hfA.ls; have := hfA.ln; simp only; omega) (by have := hfA.lg; simp only; omega) (by simp only; omega) (by simp only; omega))
  clear hr hfA hc64 hdC
  cases hev : isEvB d.length t.length 4 u b
  · have HR := Lib.hid (hNO.out 2 (step_ev hev) (by decide))
    have hcase : (u != 0) = true ∨ ((u != 0) = false ∧ (b != 0) = true) := by
      unfold isEvB at hev
      rw [if_neg (by decide), if_neg (by decide), if_pos rfl] at hev
      simp only [Bool.and_eq_false_iff, beq_eq_false_iff_ne, bne_iff_ne, bne_eq_false_iff_eq] at hev ⊢
      omega
    clear hev hNO hOK
    rcases hcase with p1' | ⟨p1', p2'⟩
    · go_enter Try.func52, Try.ntmps52
      go_wp2_with fail
      rw [← hwE]
      clear hwE
      have p0 : World.cell? wE ⟨(w.heap.size + 1), 0, none⟩ = some (.slice S1 a.s.length c1) := hk2.cell 0
      have g0 := hk2.frozen 0
      have p1 : World.cell? wE ⟨(w.heap.size + 1), 1, none⟩ = some (.slice N1 a.n.length c2) := hk2.cell 1
      have g1 := hk2.frozen 1
      have p2 : World.cell? wE ⟨(w.heap.size + 1), 2, none⟩ = some (.slice G1 a.g.length c3) := hk2.cell 2
      have g2 := hk2.frozen 2
      have p3 : World.cell? wE ⟨(w.heap.size + 1), 3, none⟩ = some (.slice D d.length c4) := hk2.cell 3
      have g3 := hk2.frozen 3
      have p4 : World.cell? wE ⟨(w.heap.size + 1), 4, none⟩ = some (.slice T t.length c5) := hk2.cell 4
      have g4 := hk2.frozen 4
      have gl := hk2.lt
      go_wp2_with fail
      refine (HTW.out _ hrE).mono ?_
      rintro _ w2 ⟨S2, N2, G2, D2, T2, z1, z2, z3, z4, z5, rfl, hC, hb2⟩
      have hB2 := bstep hbE hb2
      have hs2 := hb2.size
      clear p0 p1 p2 p3 p4 g0 g1 g2 g3 g4 gl
      replace hk1 := hk1.keep hb2
      replace hk2 := hk2.keep hb2
      replace hk3 := hk3.keep hb2
      replace hk4 := hk4.keep hb2
      replace hxE := hxE.keep hb2
      replace hyE := hyE.keep hb2
      replace hrE := hrE.keep hb2
      obtain ⟨gT, cuT, rfl, hgT, _⟩ := made_blk hC.t ht0
      have e0 : World.cell? w2 ⟨(w.heap.size + 2), 0, none⟩ = some (.int .u8 4) := hk3.cell 0
      have ef0 := hk3.frozen 0
      have e1 : World.cell? w2 ⟨(w.heap.size + 2), 1, none⟩ = some (.int .i64 u) := hk3.cell 1
      have ef1 := hk3.frozen 1
      have e2 : World.cell? w2 ⟨(w.heap.size + 2), 2, none⟩ = some (.int .i64 b) := hk3.cell 2
      have ef2 := hk3.frozen 2
      have efl := hk3.lt
      have p0 : World.cell? w2 ⟨(w.heap.size + 1), 0, none⟩ = some (.slice S1 a.s.length c1) := hk2.cell 0
      have g0 := hk2.frozen 0
      have p1 : World.cell? w2 ⟨(w.heap.size + 1), 1, none⟩ = some (.slice N1 a.n.length c2) := hk2.cell 1
      have g1 := hk2.frozen 1
      have p2 : World.cell? w2 ⟨(w.heap.size + 1), 2, none⟩ = some (.slice G1 a.g.length c3) := hk2.cell 2
      have g2 := hk2.frozen 2
      have p3 : World.cell? w2 ⟨(w.heap.size + 1), 3, none⟩ = some (.slice D d.length c4) := hk2.cell 3
      have g3 := hk2.frozen 3
      have p4 : World.cell? w2 ⟨(w.heap.size + 1), 4, none⟩ = some (.slice T t.length c5) := hk2.cell 4
      have g4 := hk2.frozen 4
      have gl := hk2.lt
      have q0 : World.cell? w2 ⟨(w.heap.size + 3), 0, none⟩ = some (.slice none 0 0) := hk4.cell 0
      have f0 := hk4.frozen 0
      have q1 : World.cell? w2 ⟨(w.heap.size + 3), 1, none⟩ = some (.slice none 0 0) := hk4.cell 1
      have f1 := hk4.frozen 1
      have q2 : World.cell? w2 ⟨(w.heap.size + 3), 2, none⟩ = some (.slice none 0 0) := hk4.cell 2
      have f2 := hk4.frozen 2
      have q3 : World.cell? w2 ⟨(w.heap.size + 3), 3, none⟩ = some (.slice none 0 0) := hk4.cell 3
      have f3 := hk4.frozen 3
      have q4 : World.cell? w2 ⟨(w.heap.size + 3), 4, none⟩ = some (.slice none 0 0) := hk4.cell 4
      have f4 := hk4.frozen 4
      have fl := hk4.lt
      go_wp2
      exact bodyPost_ret (v := .tuple #[.agg #[.slice none 0 0, .slice none 0 0, .slice none 0 0, .slice none 0 0, .slice none 0 0], .int .i64 2]) (by simp [results, Try.results52, go_sem, q0, q1, q2, q3, q4, f0, f1, f2, f3, f4, fl]) rfl ((none_fin HR.out hB2 (by omega) _ _ _ _ _).alloc _)
    · go_enter Try.func52, Try.ntmps52
      go_wp2_with fail
      rw [← hwE]
      clear hwE
      have p0 : World.cell? wE ⟨(w.heap.size + 1), 0, none⟩ = some (.slice S1 a.s.length c1) := hk2.cell 0
      have g0 := hk2.frozen 0
      have p1 : World.cell? wE ⟨(w.heap.size + 1), 1, none⟩ = some (.slice N1 a.n.length c2) := hk2.cell 1
      have g1 := hk2.frozen 1
      have p2 : World.cell? wE ⟨(w.heap.size + 1), 2, none⟩ = some (.slice G1 a.g.length c3) := hk2.cell 2
      have g2 := hk2.frozen 2
      have p3 : World.cell? wE ⟨(w.heap.size + 1), 3, none⟩ = some (.slice D d.length c4) := hk2.cell 3
      have g3 := hk2.frozen 3
      have p4 : World.cell? wE ⟨(w.heap.size + 1), 4, none⟩ = some (.slice T t.length c5) := hk2.cell 4
      have g4 := hk2.frozen 4
      have gl := hk2.lt
      go_wp2_with fail
      refine (HTW.out _ hrE).mono ?_
      rintro _ w2 ⟨S2, N2, G2, D2, T2, z1, z2, z3, z4, z5, rfl, hC, hb2⟩
      have hB2 := bstep hbE hb2
      have hs2 := hb2.size
      clear p0 p1 p2 p3 p4 g0 g1 g2 g3 g4 gl
      replace hk1 := hk1.keep hb2
      replace hk2 := hk2.keep hb2
      replace hk3 := hk3.keep hb2
      replace hk4 := hk4.keep hb2
      replace hxE := hxE.keep hb2
      replace hyE := hyE.keep hb2
      replace hrE := hrE.keep hb2
      obtain ⟨gT, cuT, rfl, hgT, _⟩ := made_blk hC.t ht0
      have e0 : World.cell? w2 ⟨(w.heap.size + 2), 0, none⟩ = some (.int .u8 4) := hk3.cell 0
      have ef0 := hk3.frozen 0
      have e1 : World.cell? w2 ⟨(w.heap.size + 2), 1, none⟩ = some (.int .i64 u) := hk3.cell 1
      have ef1 := hk3.frozen 1
      have e2 : World.cell? w2 ⟨(w.heap.size + 2), 2, none⟩ = some (.int .i64 b) := hk3.cell 2
      have ef2 := hk3.frozen 2
      have efl := hk3.lt
      have p0 : World.cell? w2 ⟨(w.heap.size + 1), 0, none⟩ = some (.slice S1 a.s.length c1) := hk2.cell 0
      have g0 := hk2.frozen 0
      have p1 : World.cell? w2 ⟨(w.heap.size + 1), 1, none⟩ = some (.slice N1 a.n.length c2) := hk2.cell 1
      have g1 := hk2.frozen 1
      have p2 : World.cell? w2 ⟨(w.heap.size + 1), 2, none⟩ = some (.slice G1 a.g.length c3) := hk2.cell 2
      have g2 := hk2.frozen 2
      have p3 : World.cell? w2 ⟨(w.heap.size + 1), 3, none⟩ = some (.slice D d.length c4) := hk2.cell 3
      have g3 := hk2.frozen 3
      have p4 : World.cell? w2 ⟨(w.heap.size + 1), 4, none⟩ = some (.slice T t.length c5) := hk2.cell 4
      have g4 := hk2.frozen 4
      have gl := hk2.lt
      have q0 : World.cell? w2 ⟨(w.heap.size + 3), 0, none⟩ = some (.slice none 0 0) := hk4.cell 0
      have f0 := hk4.frozen 0
      have q1 : World.cell? w2 ⟨(w.heap.size + 3), 1, none⟩ = some (.slice none 0 0) := hk4.cell 1
      have f1 := hk4.frozen 1
      have q2 : World.cell? w2 ⟨(w.heap.size + 3), 2, none⟩ = some (.slice none 0 0) := hk4.cell 2
      have f2 := hk4.frozen 2
      have q3 : World.cell? w2 ⟨(w.heap.size + 3), 3, none⟩ = some (.slice none 0 0) := hk4.cell 3
      have f3 := hk4.frozen 3
      have q4 : World.cell? w2 ⟨(w.heap.size + 3), 4, none⟩ = some (.slice none 0 0) := hk4.cell 4
      have f4 := hk4.frozen 4
      have fl := hk4.lt
      go_wp2
      exact bodyPost_ret (v := .tuple #[.agg #[.slice none 0 0, .slice none 0 0, .slice none 0 0, .slice none 0 0, .slice none 0 0], .int .i64 2]) (by simp [results, Try.results52, go_sem, q0, q1, q2, q3, q4, f0, f1, f2, f3, f4, fl]) rfl ((none_fin HR.out hB2 (by omega) _ _ _ _ _).alloc _)
  obtain ⟨rfl, rfl⟩ := ev_restart hev
  have HR := Lib.hid (hOK.out _ _ (step_restart (d := d) (t := t)))
  clear hev hNO hOK
  go_enter Try.func52, Try.ntmps52
  go_wp2_with fail
  rw [← hwE]
  clear hwE
  have p0 : World.cell? wE ⟨(w.heap.size + 1), 0, none⟩ = some (.slice S1 a.s.length c1) := hk2.cell 0
  have g0 := hk2.frozen 0
  have p1 : World.cell? wE ⟨(w.heap.size + 1), 1, none⟩ = some (.slice N1 a.n.length c2) := hk2.cell 1
  have g1 := hk2.frozen 1
  have p2 : World.cell? wE ⟨(w.heap.size + 1), 2, none⟩ = some (.slice G1 a.g.length c3) := hk2.cell 2
  have g2 := hk2.frozen 2
  have p3 : World.cell? wE ⟨(w.heap.size + 1), 3, none⟩ = some (.slice D d.length c4) := hk2.cell 3
  have g3 := hk2.frozen 3
  have p4 : World.cell? wE ⟨(w.heap.size + 1), 4, none⟩ = some (.slice T t.length c5) := hk2.cell 4
  have g4 := hk2.frozen 4
  have gl := hk2.lt
  go_wp2_with fail
  refine (HTW.out _ hrE).mono ?_
  rintro _ w2 ⟨S2, N2, G2, D2, T2, z1, z2, z3, z4, z5, rfl, hC, hb2⟩
  have hB2 := bstep hbE hb2
  have hs2 := hb2.size
  clear p0 p1 p2 p3 p4 g0 g1 g2 g3 g4 gl
  replace hk1 := hk1.keep hb2
  replace hk2 := hk2.keep hb2
  replace hk3 := hk3.keep hb2
  replace hk4 := hk4.keep hb2
  replace hxE := hxE.keep hb2
  replace hyE := hyE.keep hb2
  replace hrE := hrE.keep hb2
  obtain ⟨gT, cuT, rfl, hgT, _⟩ := made_blk hC.t ht0
  have e0 : World.cell? w2 ⟨(w.heap.size + 2), 0, none⟩ = some (.int .u8 4) := hk3.cell 0
  have ef0 := hk3.frozen 0
  have e1 : World.cell? w2 ⟨(w.heap.size + 2), 1, none⟩ = some (.int .i64 0) := hk3.cell 1
  have ef1 := hk3.frozen 1
  have e2 : World.cell? w2 ⟨(w.heap.size + 2), 2, none⟩ = some (.int .i64 0) := hk3.cell 2
  have ef2 := hk3.frozen 2
  have efl := hk3.lt
  have p0 : World.cell? w2 ⟨(w.heap.size + 1), 0, none⟩ = some (.slice S1 a.s.length c1) := hk2.cell 0
  have g0 := hk2.frozen 0
  have p1 : World.cell? w2 ⟨(w.heap.size + 1), 1, none⟩ = some (.slice N1 a.n.length c2) := hk2.cell 1
  have g1 := hk2.frozen 1
  have p2 : World.cell? w2 ⟨(w.heap.size + 1), 2, none⟩ = some (.slice G1 a.g.length c3) := hk2.cell 2
  have g2 := hk2.frozen 2
  have p3 : World.cell? w2 ⟨(w.heap.size + 1), 3, none⟩ = some (.slice D d.length c4) := hk2.cell 3
  have g3 := hk2.frozen 3
  have p4 : World.cell? w2 ⟨(w.heap.size + 1), 4, none⟩ = some (.slice T t.length c5) := hk2.cell 4
  have g4 := hk2.frozen 4
  have gl := hk2.lt
  have q0 : World.cell? w2 ⟨(w.heap.size + 3), 0, none⟩ = some (.slice none 0 0) := hk4.cell 0
  have f0 := hk4.frozen 0
  have q1 : World.cell? w2 ⟨(w.heap.size + 3), 1, none⟩ = some (.slice none 0 0) := hk4.cell 1
  have f1 := hk4.frozen 1
  have q2 : World.cell? w2 ⟨(w.heap.size + 3), 2, none⟩ = some (.slice none 0 0) := hk4.cell 2
  have f2 := hk4.frozen 2
  have q3 : World.cell? w2 ⟨(w.heap.size + 3), 3, none⟩ = some (.slice none 0 0) := hk4.cell 3
  have f3 := hk4.frozen 3
  have q4 : World.cell? w2 ⟨(w.heap.size + 3), 4, none⟩ = some (.slice none 0 0) := hk4.cell 4
  have f4 := hk4.frozen 4
  have fl := hk4.lt
  have hgl : gT < w2.heap.size := by
    obtain ⟨_, _, e, _, hk, _⟩ := made_blk hC.t ht0
    cases e
    exact hk.lt
  have t2 : ¬ gT = w2.heap.size := by omega
  have t4 : ¬ w2.heap.size = gT := by omega
  go_wp2
  go_loopg [9] t.length (fun gk i wr => ∃ k : Nat, k + gk = t.length ∧ i = .int .i64 k ∧ CW wE.heap.size wr S2 N2 G2 D2 (some ⟨gT, 0, none⟩) z1 z2 z3 z4 z5 ⟨a, d, rstL t k⟩ ∧ Blk wr w2.heap.size 42 #[.slice S2 a.s.length z1, .slice N2 a.n.length z2, .slice G2 a.g.length z3, .slice D2 d.length z4, .slice (some ⟨gT, 0, none⟩) t.length z5] ∧ Blk wr (w.heap.size + 3) 42 #[.slice none 0 0, .slice none 0 0, .slice none 0 0, .slice none 0 0, .slice none 0 0] ∧ Below w.heap.size w wr)
  case atStart => exact ⟨0, by omega, rfl, by rw [rst_zero]; exact hC.keep (balloc (Below.refl _ _) _), Blk.new _ _ _, hk4.alloc _, balloc hB2 _⟩
  case round =>
    obtain ⟨k, hk, rfl, hCk, hkO, hkR, hb⟩ := hrel
    have hk' : k ≤ t.length := by omega
    have HK := Lib.hid hk
    have hlen := rst_len hk'
    clear hk q0 q1 q2 q3 q4 f0 f1 f2 f3 f4 fl
    have p0 : World.cell? wr ⟨w2.heap.size, 0, none⟩ = some (.slice S2 a.s.length z1) := hkO.cell 0
    have g0 := hkO.frozen 0
    have p1 : World.cell? wr ⟨w2.heap.size, 1, none⟩ = some (.slice N2 a.n.length z2) := hkO.cell 1
    have g1 := hkO.frozen 1
    have p2 : World.cell? wr ⟨w2.heap.size, 2, none⟩ = some (.slice G2 a.g.length z3) := hkO.cell 2
    have g2 := hkO.frozen 2
    have p3 : World.cell? wr ⟨w2.heap.size, 3, none⟩ = some (.slice D2 d.length z4) := hkO.cell 3
    have g3 := hkO.frozen 3
    have p4 : World.cell? wr ⟨w2.heap.size, 4, none⟩ = some (.slice (some ⟨gT, 0, none⟩) t.length z5) := hkO.cell 4
    have g4 := hkO.frozen 4
    have gl := hkO.lt
    have hgT2 : w.heap.size ≤ gT := by omega
    by_cases hlt : k < t.length
    · obtain ⟨m1, m2, m3, m4⟩ := made_cell (ev := fun x => Value.int .i64 x) (fun _ => rfl) hCk.t (k := k) (by simp only; omega)
      have HS := Lib.hid (rst_set hlt)
      go_wp2
      go_roundg (gk - 1)
      case rel =>
        refine ⟨k + 1, by have := HK.out; omega, by go_num, ?_, hkO.far (p := ⟨gT, k, none⟩) t4 _, hkR.far (p := ⟨gT, k, none⟩) (by simp only; omega) _, hb.setCell (p := ⟨gT, k, none⟩) (by simp only; omega) _⟩
        have h := hCk.setT (k := k) (by simp only; omega) (-1)
        simp only [HS.out] at h
        exact h
      case measure => have := HK.out; omega
    · obtain rfl : k = t.length := by omega
      rw [rst_end] at hCk
      have q0 : World.cell? wr ⟨(w.heap.size + 3), 0, none⟩ = some (.slice none 0 0) := hkR.cell 0
      have f0 := hkR.frozen 0
      have q1 : World.cell? wr ⟨(w.heap.size + 3), 1, none⟩ = some (.slice none 0 0) := hkR.cell 1
      have f1 := hkR.frozen 1
      have q2 : World.cell? wr ⟨(w.heap.size + 3), 2, none⟩ = some (.slice none 0 0) := hkR.cell 2
      have f2 := hkR.frozen 2
      have q3 : World.cell? wr ⟨(w.heap.size + 3), 3, none⟩ = some (.slice none 0 0) := hkR.cell 3
      have f3 := hkR.frozen 3
      have q4 : World.cell? wr ⟨(w.heap.size + 3), 4, none⟩ = some (.slice none 0 0) := hkR.cell 4
      have f4 := hkR.frozen 4
      have fl := hkR.lt
      have n1 : ¬ w2.heap.size = w.heap.size + 3 := by omega
      have n2 : ¬ w.heap.size + 3 = w2.heap.size := by omega
      go_wp2
      refine bodyPost_ret (v := .tuple #[.agg #[.slice S2 a.s.length z1, .slice N2 a.n.length z2, .slice G2 a.g.length z3, .slice D2 d.length z4, .slice (some ⟨gT, 0, none⟩) t.length z5], .int .i64 0]) (by simp [results, Try.results52, go_sem, q0, q1, q2, q3, q4, f0, f1, f2, f3, f4, fl, n1, n2]) rfl ?_
      rw [HR.out, haD]
      have hfin := work_fin (w := w) (x := 0) (c1 := z1) (c2 := z2) (c3 := z3) (c4 := z4) (c5 := z5) hCk.rw_ hkR hb (by omega)
      simp only [List.length_replicate] at hfin
      exact hfin
set_option maxRecDepth 20000 in
set_option maxHeartbeats 1000000 in
theorem next_other_any {xs ys : List Int} {M S : Nat} (hj : Job xs ys M S) (X Y S1 N1 G1 D T : Option Addr) (cx cy c1 c2 c3 c4 c5 : Nat) (d : List Bool) (t : List Int) (k u b : Int) (k1 : ¬ k = 1) (k2 : ¬ (k = 2 ∨ k = 3)) (k4 : ¬ k = 4) (w : World) (hx : RI .i64 w X xs) (hy : RI .i64 w Y ys) (hG : Good19 (cdiv xs.length S) d t) (hr : RW w S1 N1 G1 D T ⟨sumA xs ys M S d, d, t⟩) :
    Calls Try.prog 52 #[.agg #[.slice X xs.length cx, .slice Y ys.length cy, .int .i64 (M : Int), .int .i64 (S : Int)], .agg #[.slice S1 (sumA xs ys M S d).s.length c1, .slice N1 (sumA xs ys M S d).n.length c2, .slice G1 (sumA xs ys M S d).g.length c3, .slice D d.length c4, .slice T t.length c5], .agg #[.int .u8 k, .int .i64 u, .int .i64 b]] w (RetW w (stW xs ys M S (stepS d t ⟨k, u, b⟩))) := by
  have hfA := (sumA_is hj hG.d).fine
  have hOK := Lib.hid (fun d2 t2 (h : stepS d t ⟨k, u, b⟩ = ((d2, t2), 0)) => stW_ok (xs := xs) (ys := ys) (M := M) (S := S) h)
  have hNO := Lib.hid (fun x (h : stepS d t ⟨k, u, b⟩ = (([], []), x)) (hx : x ≠ 0) => stW_no (xs := xs) (ys := ys) (M := M) (S := S) h hx)
  generalize stW xs ys M S (stepS d t ⟨k, u, b⟩) = RES at *
  generalize hGS : sumA xs ys M S = SM at *
  generalize haD : SM d = a at *
  obtain ⟨wE, hwE⟩ : ∃ wE, wE = (((w.alloc (.cells #[.slice X xs.length cx, .slice Y ys.length cy, .int .i64 (M : Int), .int .i64 (S : Int)] 24)).alloc (.cells #[.slice S1 a.s.length c1, .slice N1 a.n.length c2, .slice G1 a.g.length c3, .slice D d.length c4, .slice T t.length c5] 42)).alloc (.cells #[.int .u8 k, .int .i64 u, .int .i64 b] 54)).alloc (.cells #[.slice .none 0 0, .slice .none 0 0, .slice .none 0 0, .slice .none 0 0, .slice .none 0 0] 42) := ⟨_, rfl⟩
  have hk1 : Blk wE w.heap.size 24 #[.slice X xs.length cx, .slice Y ys.length cy, .int .i64 (M : Int), .int .i64 (S : Int)] := by rw [hwE]; exact (((Blk.new _ _ _).alloc _).alloc _).alloc _
  have hk2 : Blk wE (w.heap.size + 1) 42 #[.slice S1 a.s.length c1, .slice N1 a.n.length c2, .slice G1 a.g.length c3, .slice D d.length c4, .slice T t.length c5] := by rw [hwE]; exact ((Blk.newAt _ _ (by simp)).alloc _).alloc _
  have hk3 : Blk wE (w.heap.size + 2) 54 #[.int .u8 k, .int .i64 u, .int .i64 b] := by rw [hwE]; exact (Blk.newAt _ _ (by simp)).alloc _
  have hk4 : Blk wE (w.heap.size + 3) 42 #[.slice .none 0 0, .slice .none 0 0, .slice .none 0 0, .slice .none 0 0, .slice .none 0 0] := by rw [hwE]; exact Blk.newAt _ _ (by simp)
  have hbE : Below w.heap.size w wE := by rw [hwE]; exact balloc (balloc (balloc (balloc (Below.refl _ _) _) _) _) _
  have hsE : wE.heap.size = w.heap.size + 4 := by rw [hwE]; simp
  have hxE := hx.keep hbE
  have hyE := hy.keep hbE
  have hrE := hr.keep hbE
  have ht0 : 0 < t.length := hG.t0
  have ht6 := hG.t6
  have hdC := hG.d
  have hc64 := hj.c
  have HTW := Lib.hid (fun w hx => twin19_any S1 N1 G1 D T c1 c2 c3 c4 c5 ⟨a, d, t⟩ w hx (by have := hfA.ls; simp only; omega) (by have := hfA.ls; have := hfA.ln; simp only; omega) (by have := hfA.lg; simp only; omega) (by simp only; omega) (by simp only; omega))
  clear hr hfA hc64 hdC
  have hev : isEvB d.length t.length k u b = false := by
    cases hev : isEvB d.length t.length k u b
    · rfl
    · have := ev_kind hev
      omega
  have HR := Lib.hid (hNO.out 2 (step_ev hev) (by decide))
  have e4 : (k == 4) = false := by rw [beq_eq_false_iff_ne]; exact k4
  have hcase : decide (k < 1) = true ∨ (decide (k < 1) = false ∧ decide (3 < k) = true) := by
    simp only [decide_eq_true_eq, decide_eq_false_iff_not]
    omega
  clear hev hNO hOK k1 k2 k4
  rcases hcase with p1' | ⟨p1', p2'⟩
  · go_enter Try.func52, Try.ntmps52
    go_wp2_with fail
    rw [← hwE]
    clear hwE
    have p0 : World.cell? wE ⟨(w.heap.size + 1), 0, none⟩ = some (.slice S1 a.s.length c1) := hk2.cell 0
    have g0 := hk2.frozen 0
    have p1 : World.cell? wE ⟨(w.heap.size + 1), 1, none⟩ = some (.slice N1 a.n.length c2) := hk2.cell 1
    have g1 := hk2.frozen 1
    have p2 : World.cell? wE ⟨(w.heap.size + 1), 2, none⟩ = some (.slice G1 a.g.length c3) := hk2.cell 2
    have g2 := hk2.frozen 2
    have p3 : World.cell? wE ⟨(w.heap.size + 1), 3, none⟩ = some (.slice D d.length c4) := hk2.cell 3
    have g3 := hk2.frozen 3
    have p4 : World.cell? wE ⟨(w.heap.size + 1), 4, none⟩ = some (.slice T t.length c5) := hk2.cell 4
    have g4 := hk2.frozen 4
    have gl := hk2.lt
    go_wp2_with fail
    refine (HTW.out _ hrE).mono ?_
    rintro _ w2 ⟨S2, N2, G2, D2, T2, z1, z2, z3, z4, z5, rfl, hC, hb2⟩
    have hB2 := bstep hbE hb2
    have hs2 := hb2.size
    clear p0 p1 p2 p3 p4 g0 g1 g2 g3 g4 gl
    replace hk1 := hk1.keep hb2
    replace hk2 := hk2.keep hb2
    replace hk3 := hk3.keep hb2
    replace hk4 := hk4.keep hb2
    replace hxE := hxE.keep hb2
    replace hyE := hyE.keep hb2
    replace hrE := hrE.keep hb2
    obtain ⟨gT, cuT, rfl, hgT, _⟩ := made_blk hC.t ht0
    have e0 : World.cell? w2 ⟨(w.heap.size + 2), 0, none⟩ = some (.int .u8 k) := hk3.cell 0
    have ef0 := hk3.frozen 0
    have e1 : World.cell? w2 ⟨(w.heap.size + 2), 1, none⟩ = some (.int .i64 u) := hk3.cell 1
    have ef1 := hk3.frozen 1
    have e2 : World.cell? w2 ⟨(w.heap.size + 2), 2, none⟩ = some (.int .i64 b) := hk3.cell 2
    have ef2 := hk3.frozen 2
    have efl := hk3.lt
    have p0 : World.cell? w2 ⟨(w.heap.size + 1), 0, none⟩ = some (.slice S1 a.s.length c1) := hk2.cell 0
    have g0 := hk2.frozen 0
    have p1 : World.cell? w2 ⟨(w.heap.size + 1), 1, none⟩ = some (.slice N1 a.n.length c2) := hk2.cell 1
    have g1 := hk2.frozen 1
    have p2 : World.cell? w2 ⟨(w.heap.size + 1), 2, none⟩ = some (.slice G1 a.g.length c3) := hk2.cell 2
    have g2 := hk2.frozen 2
    have p3 : World.cell? w2 ⟨(w.heap.size + 1), 3, none⟩ = some (.slice D d.length c4) := hk2.cell 3
    have g3 := hk2.frozen 3
    have p4 : World.cell? w2 ⟨(w.heap.size + 1), 4, none⟩ = some (.slice T t.length c5) := hk2.cell 4
    have g4 := hk2.frozen 4
    have gl := hk2.lt
    have q0 : World.cell? w2 ⟨(w.heap.size + 3), 0, none⟩ = some (.slice none 0 0) := hk4.cell 0
    have f0 := hk4.frozen 0
    have q1 : World.cell? w2 ⟨(w.heap.size + 3), 1, none⟩ = some (.slice none 0 0) := hk4.cell 1
    have f1 := hk4.frozen 1
    have q2 : World.cell? w2 ⟨(w.heap.size + 3), 2, none⟩ = some (.slice none 0 0) := hk4.cell 2
    have f2 := hk4.frozen 2
    have q3 : World.cell? w2 ⟨(w.heap.size + 3), 3, none⟩ = some (.slice none 0 0) := hk4.cell 3
    have f3 := hk4.frozen 3
    have q4 : World.cell? w2 ⟨(w.heap.size + 3), 4, none⟩ = some (.slice none 0 0) := hk4.cell 4
    have f4 := hk4.frozen 4
    have fl := hk4.lt
    go_wp2
    exact bodyPost_ret (v := .tuple #[.agg #[.slice none 0 0, .slice none 0 0, .slice none 0 0, .slice none 0 0, .slice none 0 0], .int .i64 2]) (by simp [results, Try.results52, go_sem, q0, q1, q2, q3, q4, f0, f1, f2, f3, f4, fl]) rfl ((none_fin HR.out hB2 (by omega) _ _ _ _ _).alloc _)
  · go_enter Try.func52, Try.ntmps52
    go_wp2_with fail
    rw [← hwE]
    clear hwE
    have p0 : World.cell? wE ⟨(w.heap.size + 1), 0, none⟩ = some (.slice S1 a.s.length c1) := hk2.cell 0
    have g0 := hk2.frozen 0
    have p1 : World.cell? wE ⟨(w.heap.size + 1), 1, none⟩ = some (.slice N1 a.n.length c2) := hk2.cell 1
    have g1 := hk2.frozen 1
    have p2 : World.cell? wE ⟨(w.heap.size + 1), 2, none⟩ = some (.slice G1 a.g.length c3) := hk2.cell 2
    have g2 := hk2.frozen 2
    have p3 : World.cell? wE ⟨(w.heap.size + 1), 3, none⟩ = some (.slice D d.length c4) := hk2.cell 3
    have g3 := hk2.frozen 3
    have p4 : World.cell? wE ⟨(w.heap.size + 1), 4, none⟩ = some (.slice T t.length c5) := hk2.cell 4
    have g4 := hk2.frozen 4
    have gl := hk2.lt
    go_wp2_with fail
    refine (HTW.out _ hrE).mono ?_
    rintro _ w2 ⟨S2, N2, G2, D2, T2, z1, z2, z3, z4, z5, rfl, hC, hb2⟩
    have hB2 := bstep hbE hb2
    have hs2 := hb2.size
    clear p0 p1 p2 p3 p4 g0 g1 g2 g3 g4 gl
    replace hk1 := hk1.keep hb2
    replace hk2 := hk2.keep hb2
    replace hk3 := hk3.keep hb2
    replace hk4 := hk4.keep hb2
    replace hxE := hxE.keep hb2
    replace hyE := hyE.keep hb2
    replace hrE := hrE.keep hb2
    obtain ⟨gT, cuT, rfl, hgT, _⟩ := made_blk hC.t ht0
    have e0 : World.cell? w2 ⟨(w.heap.size + 2), 0, none⟩ = some (.int .u8 k) := hk3.cell 0
    have ef0 := hk3.frozen 0
    have e1 : World.cell? w2 ⟨(w.heap.size + 2), 1, none⟩ = some (.int .i64 u) := hk3.cell 1
    have ef1 := hk3.frozen 1
    have e2 : World.cell? w2 ⟨(w.heap.size + 2), 2, none⟩ = some (.int .i64 b) := hk3.cell 2
    have ef2 := hk3.frozen 2
    have efl := hk3.lt
    have p0 : World.cell? w2 ⟨(w.heap.size + 1), 0, none⟩ = some (.slice S1 a.s.length c1) := hk2.cell 0
    have g0 := hk2.frozen 0
    have p1 : World.cell? w2 ⟨(w.heap.size + 1), 1, none⟩ = some (.slice N1 a.n.length c2) := hk2.cell 1
    have g1 := hk2.frozen 1
    have p2 : World.cell? w2 ⟨(w.heap.size + 1), 2, none⟩ = some (.slice G1 a.g.length c3) := hk2.cell 2
    have g2 := hk2.frozen 2
    have p3 : World.cell? w2 ⟨(w.heap.size + 1), 3, none⟩ = some (.slice D d.length c4) := hk2.cell 3
    have g3 := hk2.frozen 3
    have p4 : World.cell? w2 ⟨(w.heap.size + 1), 4, none⟩ = some (.slice T t.length c5) := hk2.cell 4
    have g4 := hk2.frozen 4
    have gl := hk2.lt
    have q0 : World.cell? w2 ⟨(w.heap.size + 3), 0, none⟩ = some (.slice none 0 0) := hk4.cell 0
    have f0 := hk4.frozen 0
    have q1 : World.cell? w2 ⟨(w.heap.size + 3), 1, none⟩ = some (.slice none 0 0) := hk4.cell 1
    have f1 := hk4.frozen 1
    have q2 : World.cell? w2 ⟨(w.heap.size + 3), 2, none⟩ = some (.slice none 0 0) := hk4.cell 2
    have f2 := hk4.frozen 2
    have q3 : World.cell? w2 ⟨(w.heap.size + 3), 3, none⟩ = some (.slice none 0 0) := hk4.cell 3
    have f3 := hk4.frozen 3
    have q4 : World.cell? w2 ⟨(w.heap.size + 3), 4, none⟩ = some (.slice none 0 0) := hk4.cell 4
    have f4 := hk4.frozen 4
    have fl := hk4.lt
    go_wp2
    exact bodyPost_ret (v := .tuple #[.agg #[.slice none 0 0, .slice none 0 0, .slice none 0 0, .slice none 0 0, .slice none 0 0], .int .i64 2]) (by simp [results, Try.results52, go_sem, q0, q1, q2, q3, q4, f0, f1, f2, f3, f4, fl]) rfl ((none_fin HR.out hB2 (by omega) _ _ _ _ _).alloc _)
theorem next_any {xs ys : List Int} {M S : Nat} (hj : Job xs ys M S) (X Y S1 N1 G1 D T : Option Addr) (cx cy c1 c2 c3 c4 c5 : Nat) (d : List Bool) (t : List Int) (k u b : Int) (w : World) (hx : RI .i64 w X xs) (hy : RI .i64 w Y ys) (hG : Good19 (cdiv xs.length S) d t) (hr : RW w S1 N1 G1 D T ⟨sumA xs ys M S d, d, t⟩) :
    Calls Try.prog 52 #[.agg #[.slice X xs.length cx, .slice Y ys.length cy, .int .i64 (M : Int), .int .i64 (S : Int)], .agg #[.slice S1 (sumA xs ys M S d).s.length c1, .slice N1 (sumA xs ys M S d).n.length c2, .slice G1 (sumA xs ys M S d).g.length c3, .slice D d.length c4, .slice T t.length c5], .agg #[.int .u8 k, .int .i64 u, .int .i64 b]] w (RetW w (stW xs ys M S (stepS d t ⟨k, u, b⟩))) := by
  by_cases k1 : k = 1
  · subst k1
    exact next_take_any hj X Y S1 N1 G1 D T cx cy c1 c2 c3 c4 c5 d t u b w hx hy hG hr
  by_cases k2 : k = 2 ∨ k = 3
  · rcases k2 with rfl | rfl
    · exact next_done_any hj X Y S1 N1 G1 D T cx cy c1 c2 c3 c4 c5 d t u b w hx hy hG hr
    · exact next_fail_any hj X Y S1 N1 G1 D T cx cy c1 c2 c3 c4 c5 d t u b w hx hy hG hr
  by_cases k4 : k = 4
  · subst k4
    exact next_restart_any hj X Y S1 N1 G1 D T cx cy c1 c2 c3 c4 c5 d t u b w hx hy hG hr
  exact next_other_any hj X Y S1 N1 G1 D T cx cy c1 c2 c3 c4 c5 d t k u b k1 k2 k4 w hx hy hG hr
end Wk
end Go.Proofs.Ytdekbncpodjgnaa
