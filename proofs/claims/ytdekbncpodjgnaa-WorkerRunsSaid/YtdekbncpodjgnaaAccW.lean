/-
  Contract of the reference's Twin: a copy of an accumulator.
-/
import Derived.Test.YtdekbncpodjgnaaAccO
import Derived.Test.YtdekbncpodjgnaaPRg
import Derived.Deep.RegionLawGrows
namespace Go.Proofs.Ytdekbncpodjgnaa
open Go.RowKit Runs Lagc Reg
set_option linter.unusedVariables false
set_option linter.unusedSimpArgs false

theorem encP_one' {l : List (Int × Int)} : ∀ u ∈ l.flatMap encP, u.oneCell' = true := by
  intro u hu
  obtain ⟨y, _, hy⟩ := List.mem_flatMap.1 hu
  exact encP_one y u hy
theorem RL_news {w : World} {ad : Addr} {l : List (Int × Int)} (h : RL w (some ad) l) (hl : 0 < l.length) : ∀ j u, (l.flatMap encP)[j]? = some u → w.cell? (ad.add j) = some u := by
  obtain ⟨b, off, e, _, hc⟩ := h hl
  injection e with e
  subst e
  intro j u hu
  have hj : j < l.length * 2 := by
    have := (List.getElem?_eq_some_iff.1 hu).1
    rwa [flat_len encP 2 encP_len] at this
  have hk : j / 2 < l.length := by omega
  have h1 := flat_get encP 2 encP_len l (j / 2) (j % 2) (by omega) hk
  rw [Nat.div_add_mod' j 2, hu] at h1
  have h2 := hc (j / 2) hk
  rw [getD_lt _ _ hk] at h2
  have e2 : (⟨b, off, none⟩ : Addr).add j = ⟨b, off + j, none⟩ := by unfold Addr.add; split <;> simp_all
  rw [e2]
  have h3 : j % 2 = 0 ∨ j % 2 = 1 := by omega
  rcases h3 with h3 | h3
  · rw [h3] at h1
    simp only [encP, List.getElem?_cons_zero] at h1
    rw [show off + j = off + j / 2 * 2 by omega, h2.1, ← h1]
  · rw [h3] at h1
    simp only [encP, List.getElem?_cons_succ, List.getElem?_cons_zero] at h1
    rw [show off + j = off + j / 2 * 2 + 1 by omega, h2.2, ← h1]
theorem below_of_none {w w' : World} (h : w.grownBy w' none) : Below w.heap.size w w' := ⟨h.os, h.tape, h.output, h.size, fun k hk => h.block k hk (by simp)⟩
/-- 'append([]T{}, l...)' as one step of a region that draws. -/
theorem step_clone_RL {P : Program} {w : World} {ops : Array Oper} {o : Oper} {a : Act} {K : Act → World → Prop} {Q : Exit → Act → World → Prop} {E : Prop} (hgd : o.guard = none) (s x : Operand) (t : TypeId)
    (ho : o.op = .call { callee := .builtin .append, args := #[s, x], argTypes := #[t, t] })
    (e : TypeId) {i : TypeInfo} {z : Value} (bytes : Nat) (ht : P.underlying t = some (.slice e)) (hi : P.info? e = some i) (hz : i.zero = some z)
    (hsize : i.size = 2) (hby : i.bytes = bytes) (hzs : z.cells.size = 2) (g B : Nat) (hs : a.eval s = .slice (some ⟨g, 0, none⟩) 0 0) (hg : B ≤ g) (hB : B ≤ w.heap.size)
    (A : Option Addr) (c : Nat) (l : List (Int × Int)) (hx : a.eval x = .slice A l.length c) (hr : RL w A l) (h63 : l.length ≤ maxLen) (hbytes : l.length * bytes ≤ 140737488355328)
    (h : ∀ A' c' w', RL w' A' l → Fresh B A' → Below w.heap.size w w' → K (a.put o.dst (.slice A' l.length c')) w') :
    if Region.wanted o (yielded ops a.tmps) = true then Oper.wp P o a w K Q else E := by
  by_cases h0 : l.length = 0
  · have hw : Region.wanted o (yielded ops a.tmps) = true := by simp [Region.wanted, hgd]
    rw [if_pos hw]
    have hl : l = [] := List.length_eq_zero_iff.1 h0
    subst hl
    have hrun : (Builtin.append_ #[t, t] o.type #[.slice (some ⟨g, 0, none⟩) 0 0, .slice A 0 c]).run P w = .ok (.slice (some ⟨g, 0, none⟩) 0 0) w := by
      cases A <;> simp [Builtin.append_, run_underlying ht, sizeOf, typeInfo, hi, Builtin.lenOf, Builtin.firstCells, storeCells, loadCells, loadCellsFrom]
    unfold Oper.wp
    simp [execOp, ho, resolve, invoke, builtin, hs, hx, hrun, Result.andThen]
    exact h (some ⟨g, 0, none⟩) 0 w RL.nil (Fresh.mk hg) (Below.refl _ _)
  · obtain ⟨b, off, rfl, _⟩ := hr (by omega)
    refine step_append_grows hgd s x t ho e i z 2 bytes ht hi hz hsize hby hzs (by omega) (some ⟨g, 0, none⟩) 0 0 [] hs (by intro h; cases h) (by simp) (by simp) ⟨b, off, none⟩ l.length c (l.flatMap encP) hx (by rw [flat_len encP 2 encP_len]) (RL_news hr (by omega)) encP_one' (by omega) (by omega) (by simpa using hbytes) ?_
    intro v' w' hown hgrow
    rw [Nat.zero_add, List.nil_append] at hown
    obtain ⟨A', c', rfl⟩ := own_shape hown
    exact h A' c' w' (own_RL hown) ((own_fresh hown).mono hB) (below_of_none hgrow)

theorem RL.grown {w w' : World} {A : Option Addr} {l : List (Int × Int)} {g B : Nat} (h : RL w A l) (hf : Fresh B A) (hg : g < B) (hgr : w.grownBy w' (some g)) : RL w' A l := by
  intro h0
  obtain ⟨b, off, e, hlt, hc⟩ := h h0
  have hb := hf _ e
  simp only at hb
  have hbl := hgr.block b hlt (by simp; omega)
  have hcell : ∀ k, w'.cell? ⟨b, k, none⟩ = w.cell? ⟨b, k, none⟩ := fun k => by simp [World.cell?, hbl]
  refine ⟨b, off, e, Nat.lt_of_lt_of_le hlt hgr.size, fun j hj => ?_⟩
  rw [hcell, hcell]
  exact hc j hj
structure TwinP where
  b0 : Nat
  B : Nat
  S : Option Addr
  N : Option Addr
  G : Option Addr
  c1 : Nat
  c2 : Nat
  c3 : Nat
  a : Acc
def rowF (B : Nat) (l : List (Int × Int)) (v : Value) (w : World) : Prop := ∃ A c, v = .slice A l.length c ∧ RL w A l ∧ Fresh B A
def emptyF (B : Nat) (v : Value) : Prop := ∃ g, v = .slice (some ⟨g, 0, none⟩) 0 0 ∧ B ≤ g
def accF (B : Nat) (a : Acc) (v : Value) (w : World) : Prop := ∃ S N G c1 c2 c3, v = .agg #[.slice S a.s.length c1, .slice N a.n.length c2, .slice G a.g.length c3] ∧ RA w S N G a ∧ FA B S N G
def TwinP.F (p : TwinP) : Nat → Value → World → Prop
  | 0 => fun v _ => emptyF p.B v
  | 1 => fun v _ => v = .pointer (some ⟨p.b0, 0, none⟩)
  | 2 => fun v _ => v = .slice p.S p.a.s.length p.c1
  | 3 => rowF p.B p.a.s
  | 4 => fun v _ => emptyF p.B v
  | 5 => fun v _ => v = .pointer (some ⟨p.b0, 1, none⟩)
  | 6 => fun v _ => v = .slice p.N p.a.n.length p.c2
  | 7 => rowF p.B p.a.n
  | 8 => fun v _ => emptyF p.B v
  | 9 => fun v _ => v = .pointer (some ⟨p.b0, 2, none⟩)
  | 10 => fun v _ => v = .slice p.G p.a.g.length p.c3
  | 11 => rowF p.B p.a.g
  | 12 => accF p.B p.a
  | _ => fun _ _ => True
theorem rowF.grown {B g : Nat} {l : List (Int × Int)} {v : Value} {w w' : World} (h : rowF B l v w) (hg : g < B) (hgr : w.grownBy w' (some g)) : rowF B l v w' := by
  obtain ⟨A, c, e, h1, h2⟩ := h
  exact ⟨A, c, e, h1.grown h2 hg hgr, h2⟩
theorem accF.grown {B g : Nat} {a : Acc} {v : Value} {w w' : World} (h : accF B a v w) (hg : g < B) (hgr : w.grownBy w' (some g)) : accF B a v w' := by
  obtain ⟨S, N, G, c1, c2, c3, e, h1, h2⟩ := h
  exact ⟨S, N, G, c1, c2, c3, e, ⟨h1.s.grown h2.s hg hgr, h1.n.grown h2.n hg hgr, h1.g.grown h2.g hg hgr⟩, h2⟩
theorem TwinP.mono (p : TwinP) {g : Nat} (hg : g < p.B) : ∀ k v w w', w.grownBy w' (some g) → p.F k v w → p.F k v w' := by
  intro k v w w' hgr h
  match k, h with
  | 0, h => exact h
  | 1, h => exact h
  | 2, h => exact h
  | 3, h => exact rowF.grown h hg hgr
  | 4, h => exact h
  | 5, h => exact h
  | 6, h => exact h
  | 7, h => exact rowF.grown h hg hgr
  | 8, h => exact h
  | 9, h => exact h
  | 10, h => exact h
  | 11, h => exact rowF.grown h hg hgr
  | 12, h => exact accF.grown h hg hgr
  | n + 13, h => trivial
def accAt (B g : Nat) (a : Acc) (w : World) : Prop := ∃ S N G c1 c2 c3, Blk w g 39 #[.slice S a.s.length c1, .slice N a.n.length c2, .slice G a.g.length c3] ∧ RA w S N G a ∧ FA B S N G
theorem accAt.keep {B g : Nat} {a : Acc} {w w' : World} (h : accAt B g a w) (hb : Below w.heap.size w w') : accAt B g a w' := by
  obtain ⟨S, N, G, c1, c2, c3, h1, h2, h3⟩ := h
  exact ⟨S, N, G, c1, c2, c3, h1.keep hb, h2.keep hb, h3⟩
set_option maxRecDepth 20000 in
set_option maxHeartbeats 2000000 in
theorem twin_any (S N G : Option Addr) (c1 c2 c3 : Nat) (x : Acc) (w : World) (hx : RA w S N G x) (l1 : x.s.length ≤ 1000) (l2 : x.n.length ≤ 1000) (l3 : x.g.length ≤ 1000) :
    Calls Try.prog 56 #[.agg #[.slice S x.s.length c1, .slice N x.n.length c2, .slice G x.g.length c3]] w fun e w' => ∃ v, e = .returned v ∧ accF w.heap.size x v w' ∧ Below w.heap.size w w' := by
  obtain ⟨i0, hi0, hz0, hz1, hz2⟩ := info_parts info_count
  obtain ⟨i1, hi1, hy0, hy1, hy2⟩ := info_parts info_gap
  have hk1 := (Blk.new w 39 #[.slice S x.s.length c1, .slice N x.n.length c2, .slice G x.g.length c3]).alloc (.cells #[.slice .none 0 0, .slice .none 0 0, .slice .none 0 0] 39)
  have hk2 := Blk.newAt (w := w.alloc (.cells #[.slice S x.s.length c1, .slice N x.n.length c2, .slice G x.g.length c3] 39)) (g := w.heap.size + 1) 39 #[.slice .none 0 0, .slice .none 0 0, .slice .none 0 0] (by simp)
  go_enter Try.func56, Try.ntmps56
  go_wp2
  obtain ⟨wE, hwE⟩ : ∃ wE, wE = (w.alloc (.cells #[.slice S x.s.length c1, .slice N x.n.length c2, .slice G x.g.length c3] 39)).alloc (.cells #[.slice .none 0 0, .slice .none 0 0, .slice .none 0 0] 39) := ⟨_, rfl⟩
  have hbE : Below w.heap.size w wE := by rw [hwE]; exact balloc (balloc (Below.refl _ _) _) _
  have hsE : wE.heap.size = w.heap.size + 2 := by rw [hwE]; simp
  rw [← hwE] at hk1 hk2 ⊢
  have hxE := hx.keep hbE
  have HSE := Lib.hid hsE
  clear hwE hsE
  refine wp_region_mono (by kernel_rfl) (by kernel_rfl) (by kernel_rfl) (TwinP.F ⟨w.heap.size, w.heap.size + 2, S, N, G, c1, c2, c3, x⟩) 13 (w.heap.size + 1) (accAt (w.heap.size + 2) (w.heap.size + 1) x) (TwinP.mono _ (by simp)) (fun w w' hb h => h.keep hb) ⟨?_, ?_, ?_, ?_, ?_, ?_, ?_, ?_, ?_, ?_, ?_, ?_, ?_, ?_, trivial⟩ ?_
  · intro val a wr hgr hst hdep hold K hK
    have hsz := hgr.size
    rw [HSE.out] at hsz
    go_simp
    exact hK _ _ (fun _ => balloc (Below.refl _ _) _) (fun h => by cases h) ⟨_, rfl, hsz⟩
  · intro val a wr hgr hst hdep hold K hK
    have hsz := hgr.size
    rw [HSE.out] at hsz
    have e1 : a.tmps[1]?.getD undef = .pointer (some ⟨w.heap.size, 0, none⟩) := ev_tmps (hold 1 (by rfl))
    go_simp
    exact hK _ _ (fun _ => Below.refl _ _) (fun h => by cases h) rfl
  · intro val a wr hgr hst hdep hold K hK
    have hsz := hgr.size
    rw [HSE.out] at hsz
    obtain ⟨e0, h0⟩ := hdep 1 4 _ rfl rfl rfl
    have e1 : a.tmps[4]?.getD undef = .pointer (some ⟨w.heap.size, 0, none⟩) := ev_tmps (e0.trans h0)
    have hk := hk1.grown hgr (by simp)
    have q0 := hk.cell 0
    have ql := hk.lt
    clear e0 h0
    go_simp
    exact hK _ _ (fun _ => Below.refl _ _) (fun h => by cases h) rfl
  · intro val a wr hgr hst hdep hold K hK
    have hsz := hgr.size
    rw [HSE.out] at hsz
    obtain ⟨e0, g1, h0, hg1⟩ := hdep 0 3 _ rfl rfl rfl
    have e1 := e0.trans h0
    have e2 : a.eval (.tmp 5) = .slice S x.s.length c1 := (hdep 2 5 _ rfl rfl rfl).1.trans (hdep 2 5 _ rfl rfl rfl).2
    have hbw : Below w.heap.size w wr := hbE.grown hgr (by have := HSE.out; omega) (fun k hk => by cases hk; omega)
    refine step_clone_RL rfl (.tmp 3) (.tmp 5) 36 rfl 97 16 Try.underlying36 hi0 hz0 hz1 hz2 rfl g1 (w.heap.size + 2) e1 hg1 hsz _ _ x.s e2 ((hx.s).keep hbw) (by unfold maxLen; omega) (by omega) (fun A' c' w' r f hb => hK _ _ (fun _ => hb) (fun h => by cases h) ⟨A', c', rfl, r, f⟩)
  · intro val a wr hgr hst hdep hold K hK
    have hsz := hgr.size
    rw [HSE.out] at hsz
    go_simp
    exact hK _ _ (fun _ => balloc (Below.refl _ _) _) (fun h => by cases h) ⟨_, rfl, hsz⟩
  · intro val a wr hgr hst hdep hold K hK
    have hsz := hgr.size
    rw [HSE.out] at hsz
    have e1 : a.tmps[1]?.getD undef = .pointer (some ⟨w.heap.size, 0, none⟩) := ev_tmps (hold 1 (by rfl))
    go_simp
    exact hK _ _ (fun _ => Below.refl _ _) (fun h => by cases h) rfl
  · intro val a wr hgr hst hdep hold K hK
    have hsz := hgr.size
    rw [HSE.out] at hsz
    obtain ⟨e0, h0⟩ := hdep 5 8 _ rfl rfl rfl
    have e1 : a.tmps[8]?.getD undef = .pointer (some ⟨w.heap.size, 1, none⟩) := ev_tmps (e0.trans h0)
    have hk := hk1.grown hgr (by simp)
    have q0 := hk.cell 1
    have ql := hk.lt
    clear e0 h0
    go_simp
    exact hK _ _ (fun _ => Below.refl _ _) (fun h => by cases h) rfl
  · intro val a wr hgr hst hdep hold K hK
    have hsz := hgr.size
    rw [HSE.out] at hsz
    obtain ⟨e0, g1, h0, hg1⟩ := hdep 4 7 _ rfl rfl rfl
    have e1 := e0.trans h0
    have e2 : a.eval (.tmp 9) = .slice N x.n.length c2 := (hdep 6 9 _ rfl rfl rfl).1.trans (hdep 6 9 _ rfl rfl rfl).2
    have hbw : Below w.heap.size w wr := hbE.grown hgr (by have := HSE.out; omega) (fun k hk => by cases hk; omega)
    refine step_clone_RL rfl (.tmp 7) (.tmp 9) 36 rfl 97 16 Try.underlying36 hi0 hz0 hz1 hz2 rfl g1 (w.heap.size + 2) e1 hg1 hsz _ _ x.n e2 ((hx.n).keep hbw) (by unfold maxLen; omega) (by omega) (fun A' c' w' r f hb => hK _ _ (fun _ => hb) (fun h => by cases h) ⟨A', c', rfl, r, f⟩)
  · intro val a wr hgr hst hdep hold K hK
    have hsz := hgr.size
    rw [HSE.out] at hsz
    go_simp
    exact hK _ _ (fun _ => balloc (Below.refl _ _) _) (fun h => by cases h) ⟨_, rfl, hsz⟩
  · intro val a wr hgr hst hdep hold K hK
    have hsz := hgr.size
    rw [HSE.out] at hsz
    have e1 : a.tmps[1]?.getD undef = .pointer (some ⟨w.heap.size, 0, none⟩) := ev_tmps (hold 1 (by rfl))
    go_simp
    exact hK _ _ (fun _ => Below.refl _ _) (fun h => by cases h) rfl
  · intro val a wr hgr hst hdep hold K hK
    have hsz := hgr.size
    rw [HSE.out] at hsz
    obtain ⟨e0, h0⟩ := hdep 9 12 _ rfl rfl rfl
    have e1 : a.tmps[12]?.getD undef = .pointer (some ⟨w.heap.size, 2, none⟩) := ev_tmps (e0.trans h0)
    have hk := hk1.grown hgr (by simp)
    have q0 := hk.cell 2
    have ql := hk.lt
    clear e0 h0
    go_simp
    exact hK _ _ (fun _ => Below.refl _ _) (fun h => by cases h) rfl
  · intro val a wr hgr hst hdep hold K hK
    have hsz := hgr.size
    rw [HSE.out] at hsz
    obtain ⟨e0, g1, h0, hg1⟩ := hdep 8 11 _ rfl rfl rfl
    have e1 := e0.trans h0
    have e2 : a.eval (.tmp 13) = .slice G x.g.length c3 := (hdep 10 13 _ rfl rfl rfl).1.trans (hdep 10 13 _ rfl rfl rfl).2
    have hbw : Below w.heap.size w wr := hbE.grown hgr (by have := HSE.out; omega) (fun k hk => by cases hk; omega)
    refine step_clone_RL rfl (.tmp 11) (.tmp 13) 37 rfl 99 16 Try.underlying37 hi1 hy0 hy1 hy2 rfl g1 (w.heap.size + 2) e1 hg1 hsz _ _ x.g e2 ((hx.g).keep hbw) (by unfold maxLen; omega) (by omega) (fun A' c' w' r f hb => hK _ _ (fun _ => hb) (fun h => by cases h) ⟨A', c', rfl, r, f⟩)
  · intro val a wr hgr hst hdep hold K hK
    have hsz := hgr.size
    rw [HSE.out] at hsz
    obtain ⟨e1, A1, x1, h1, r1, f1⟩ := hdep 3 6 _ rfl rfl rfl
    obtain ⟨e2, A2, x2, h2, r2, f2⟩ := hdep 7 10 _ rfl rfl rfl
    obtain ⟨e3, A3, x3, h3, r3, f3⟩ := hdep 11 14 _ rfl rfl rfl
    replace e1 := ev_tmps (e1.trans h1)
    replace e2 := ev_tmps (e2.trans h2)
    replace e3 := ev_tmps (e3.trans h3)
    clear h1 h2 h3
    go_simp
    exact hK _ _ (fun _ => Below.refl _ _) (fun h => by cases h) ⟨A1, A2, A3, x1, x2, x3, rfl, ⟨r1, r2, r3⟩, ⟨f1, f2, f3⟩⟩
  · intro val a wr hgr hst hdep hold K hK
    have hsz := hgr.size
    rw [HSE.out] at hsz
    obtain ⟨e1, A1, A2, A3, x1, x2, x3, h1, r1, hfa⟩ := hdep 12 15 _ rfl rfl rfl
    replace e1 := ev_tmps (e1.trans h1)
    have e2 : a.tmps[2]?.getD undef = .pointer (some ⟨w.heap.size + 1, 0, none⟩) := ev_tmps (hold 2 (by rfl))
    clear h1
    have hk := hk2.below (hst rfl) hk2.lt
    have q0 : World.cell? wr ⟨(w.heap.size + 1), 0, none⟩ = some (.slice .none 0 0) := hk.cell 0
    have f0 := hk.frozen 0
    have q1 : World.cell? wr ⟨(w.heap.size + 1), 1, none⟩ = some (.slice .none 0 0) := hk.cell 1
    have f1 := hk.frozen 1
    have q2 : World.cell? wr ⟨(w.heap.size + 1), 2, none⟩ = some (.slice .none 0 0) := hk.cell 2
    have f2 := hk.frozen 2
    have fl := hk.lt
    go_simp
    refine hK undef _ (fun h => absurd rfl h) (fun _ => ⟨?_, ?_⟩) trivial
    · exact grown_put (grown_put (grown_put (World.grownBy.refl _ _) 0 _) 1 _) 2 _
    · refine ⟨A1, A2, A3, x1, x2, x3, ((hk.put 0 _).put 1 _).put 2 _, ?_, hfa⟩
      exact ((r1.far hfa (p := ⟨w.heap.size + 1, 0, none⟩) (by simp) _).far hfa (p := ⟨w.heap.size + 1, 1, none⟩) (by simp) _).far hfa (p := ⟨w.heap.size + 1, 2, none⟩) (by simp) _
  · intro val w' hgr hall hF
    obtain ⟨A1, A2, A3, x1, x2, x3, hk, r1, hfa⟩ := hF (by decide)
    have hbw : Below w.heap.size w w' := hbE.grown hgr (by have := HSE.out; omega) (fun k hk => by cases hk; omega)
    have q0 : World.cell? w' ⟨(w.heap.size + 1), 0, none⟩ = some (.slice A1 x.s.length x1) := hk.cell 0
    have f0 := hk.frozen 0
    have q1 : World.cell? w' ⟨(w.heap.size + 1), 1, none⟩ = some (.slice A2 x.n.length x2) := hk.cell 1
    have f1 := hk.frozen 1
    have q2 : World.cell? w' ⟨(w.heap.size + 1), 2, none⟩ = some (.slice A3 x.g.length x3) := hk.cell 2
    have f2 := hk.frozen 2
    have fl := hk.lt
    clear hall hF
    simp only [putL]
    go_wp2
    exact bodyPost_ret (v := .agg #[.slice A1 x.s.length x1, .slice A2 x.n.length x2, .slice A3 x.g.length x3]) (by simp [results, Try.results56, go_sem, q0, q1, q2, f0, f1, f2, fl]) rfl ⟨_, rfl, ⟨A1, A2, A3, x1, x2, x3, rfl, r1, hfa.mono (by omega)⟩, hbw⟩
end Go.Proofs.Ytdekbncpodjgnaa
