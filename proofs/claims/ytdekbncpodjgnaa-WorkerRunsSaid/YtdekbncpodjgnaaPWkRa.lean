/-
  A region that draws its order, whose operations make memory, one of which may store, and some of which may stand behind that one.
  Arguments opened: an accumulator by value.
  Jobs of layer 19. Contract: fringeref19.Apply.
  Jobs of layer 19. Contract: fringeref19.Run.
  Jobs of layer 19. Contract: fringeref19.Result.
  Arguments opened: a state by value; an event by value.
  Jobs of layer 19. The walk of WorkerRuns.
-/
import Derived.Test.YtdekbncpodjgnaaPRgE
import Derived.Test.YtdekbncpodjgnaaOpen
import Derived.Test.YtdekbncpodjgnaaAccB
import Derived.Lib.SmallJoins
import Derived.Test.YtdekbncpodjgnaaPWkY
import Derived.Test.YtdekbncpodjgnaaPWkTw
import Derived.Test.YtdekbncpodjgnaaWkJ
import Derived.Test.YtdekbncpodjgnaaPWkR
import Derived.Test.YtdekbncpodjgnaaPAccK
import Derived.Deep.RegionHeld3
import Derived.Test.YtdekbncpodjgnaaPWkQ
import Derived.Deep.Grids
import Derived.Test.YtdekbncpodjgnaaWkK
import Derived.Test.YtdekbncpodjgnaaWkI
namespace Go.Proofs.Ytdekbncpodjgnaa
open Go Go.RowKit
set_option linter.unusedVariables false
set_option linter.unusedSimpArgs false
namespace Reg

section
variable {P : Program} {ops : Array Oper} {Q : Exit → Act → World → Prop}
/-- The operation st stands behind all others but those that are named. -/
def midB (ops : Array Oper) (st : Nat) (post : Nat → Bool) : Bool :=
  match ops[st]? with
  | none => false
  | some o => (List.range ops.size).all fun j => j == st || post j || o.after.toList.any fun e => e.on == j && Region.binds .any e
/-- What is to be shown of an operation that may stand behind the store. -/
def PostOk (P : Program) (ops : Array Oper) (Q : Exit → Act → World → Prop) (a0 : Act) (Pv : Nat → Value → Prop) (i : Nat) (o : Oper) : Prop :=
  ∀ (val : Nat → Value) (a : Act) (w : World),
    (∀ j d oj, ops[j]? = some oj → oj.dst = some d → (o.after.toList.any fun e => e.on == j && Region.binds .any e) = true → a.eval (.tmp d) = val j ∧ Pv j (val j)) →
    (∀ t, (ops.toList.all fun o : Oper => o.dst != some t) = true → a.eval (.tmp t) = a0.eval (.tmp t)) →
    ∀ K : Act → World → Prop, (∀ v, Pv i v → K (a.put o.dst v) w) →
    if Region.wanted o (yielded ops a.tmps) = true then o.wp P a w K Q else K (a.put o.dst undef) w
def StOk (P : Program) (ops : Array Oper) (Q : Exit → Act → World → Prop) (a0 : Act) (w0 : World) (G : Nat → Value → World → Prop) (Pv : Nat → Value → Prop) (F : (Nat → Value) → World → Prop) (post : Nat → Bool) (i : Nat) (o : Oper) : Prop :=
  ∀ (val : Nat → Value) (a : Act) (w : World), Below w0.heap.size w0 w → (∀ k, k < ops.size → k ≠ i → post k = false → G k (val k) w) →
    (∀ j d oj, ops[j]? = some oj → oj.dst = some d → j ≠ i → post j = false → a.eval (.tmp d) = val j) →
    (∀ t, (ops.toList.all fun o : Oper => o.dst != some t) = true → a.eval (.tmp t) = a0.eval (.tmp t)) →
    ∀ K : Act → World → Prop, (∀ v w', F (upd val i v) w' → Pv i v → K (a.put o.dst v) w') →
    if Region.wanted o (yielded ops a.tmps) = true then o.wp P a w K Q else K (a.put o.dst undef) w
def MidOk (P : Program) (ops : Array Oper) (Q : Exit → Act → World → Prop) (a0 : Act) (w0 : World) (G : Nat → Value → World → Prop) (Pv : Nat → Value → Prop) (st : Nat) (F : (Nat → Value) → World → Prop) (post : Nat → Bool) (i : Nat) (o : Oper) : Prop :=
  (i ≠ st → GrowOk P ops Q a0 w0 G i o) ∧ (i = st → StOk P ops Q a0 w0 G Pv F post i o) ∧ (post i = true → PostOk P ops Q a0 Pv i o)
theorem MidOk.grow {a0 : Act} {w0 : World} {G : Nat → Value → World → Prop} {Pv : Nat → Value → Prop} {st : Nat} {F : (Nat → Value) → World → Prop} {post : Nat → Bool} {i : Nat} {o : Oper} (h : GrowOk P ops Q a0 w0 G i o) (hi : i ≠ st) (hp : post i = false) : MidOk P ops Q a0 w0 G Pv st F post i o := ⟨fun _ => h, fun e => absurd e hi, fun e => by rw [hp] at e; cases e⟩
theorem MidOk.both {a0 : Act} {w0 : World} {G : Nat → Value → World → Prop} {Pv : Nat → Value → Prop} {st : Nat} {F : (Nat → Value) → World → Prop} {post : Nat → Bool} {i : Nat} {o : Oper} (h : GrowOk P ops Q a0 w0 G i o) (h2 : PostOk P ops Q a0 Pv i o) (hi : i ≠ st) : MidOk P ops Q a0 w0 G Pv st F post i o := ⟨fun _ => h, fun e => absurd e hi, fun _ => h2⟩
theorem MidOk.store {a0 : Act} {w0 : World} {G : Nat → Value → World → Prop} {Pv : Nat → Value → Prop} {F : (Nat → Value) → World → Prop} {post : Nat → Bool} {i : Nat} {o : Oper} (h : StOk P ops Q a0 w0 G Pv F post i o) (hp : post i = false) : MidOk P ops Q a0 w0 G Pv i F post i o := ⟨fun e => absurd rfl e, fun _ => h, fun e => by rw [hp] at e; cases e⟩
theorem wp_region_mid {id : Nat} {a0 : Act} {w : World} (hm : P.follows .mixedOrders = true) (hback : backB ops = true) (hdst : dstB ops a0.tmps.size = true)
    (G : Nat → Value → World → Prop) (Pv : Nat → Value → Prop) (st : Nat) (F : (Nat → Value) → World → Prop) (post : Nat → Bool) (hmid : midB ops st post = true) (hG : ∀ k v w w', Below w.heap.size w w' → G k v w → G k v w')
    (hGP : ∀ k v w, G k v w → Pv k v) (hFu : ∀ val i v w, post i = true → F val w → F (upd val i v) w)
    (hs : AllIdx (MidOk P ops Q a0 w G Pv st F post) 0 ops.toList)
    (hd : ∀ val w', F val w' → (∀ k, k < ops.size → Pv k (val k)) → Q .normal (putL val 0 ops.toList a0) w') : (Code.region id ops true).wp P Q a0 w := by
  have hst : st < ops.size := by
    unfold midB at hmid
    rcases Nat.lt_or_ge st ops.size with h | h
    · exact h
    · rw [Array.getElem?_eq_none h] at hmid; cases hmid
  have hedge : ∀ o, ops[st]? = some o → ∀ j, j < ops.size → j ≠ st → post j = false → ∃ e ∈ o.after, e.on = j ∧ Region.binds .any e = true := by
    intro o ho j hj hne hp
    unfold midB at hmid
    rw [ho] at hmid
    have h1 := List.all_eq_true.1 hmid j (by simpa using hj)
    simp only [hp, Bool.or_false, Bool.or_eq_true, beq_iff_eq, hne, false_or, List.any_eq_true, Bool.and_eq_true] at h1
    obtain ⟨e, he, h2, h3⟩ := h1
    exact ⟨e, by simpa using he, h2, h3⟩
  refine wp_region_val hm hback hdst (fun L val w' => (L.getD st false = true → F val w' ∧ (∀ k, k < ops.size → k ≠ st → post k = false → L.getD k false = true) ∧ ∀ k, L.getD k false = true → Pv k (val k)) ∧ (L.getD st false ≠ true → Below w.heap.size w w' ∧ ∀ k, L.getD k false = true → G k (val k) w')) ?_ ?_ ?_
  · have h0 : ∀ k, (Array.replicate ops.size false).getD k false ≠ true := by
      intro k hk
      rw [Array.getD_eq_getD_getElem?, Array.getElem?_replicate] at hk
      split at hk <;> simp at hk
    exact ⟨fun hk => absurd hk (h0 st), fun _ => ⟨⟨rfl, rfl, rfl, Nat.le_refl _, fun _ _ => rfl⟩, fun k hk => absurd hk (h0 k)⟩⟩
  · have key : ∀ (l : List Oper) (i : Nat), (∀ k o, l[k]? = some o → ops[i + k]? = some o) → AllIdx (MidOk P ops Q a0 w G Pv st F post) i l → AllIdx (StepOk P ops Q a0 (fun L val w' => (L.getD st false = true → F val w' ∧ (∀ k, k < ops.size → k ≠ st → post k = false → L.getD k false = true) ∧ ∀ k, L.getD k false = true → Pv k (val k)) ∧ (L.getD st false ≠ true → Below w.heap.size w w' ∧ ∀ k, L.getD k false = true → G k (val k) w'))) i l := by
      intro l
      induction l with
      | nil => intro i _ _; trivial
      | cons o l ih =>
        intro i hix h
        have hio : ops[i]? = some o := by simpa using hix 0 o rfl
        refine ⟨?_, ih (i + 1) (fun k o' hk => by have := hix (k + 1) o' (by simpa using hk); rwa [show i + 1 + k = i + (k + 1) by omega]) h.2⟩
        rintro L val a w' hsz ⟨hT, hN⟩ hu hdep hE K hK
        have hiL := lt_of_un hu
        have hui : L.getD i false ≠ true := by
          rw [Array.getD_eq_getD_getElem?, Array.getElem?_eq_getElem hiL] at hu ⊢
          simp only [Option.getD_some] at hu ⊢
          rw [hu]; simp
        have hself : (L.setIfInBounds i true).getD i false = true := by
          rw [Array.getD_eq_getD_getElem?, Array.getElem?_setIfInBounds_self_of_lt hiL]
          rfl
        by_cases hs9 : L.getD st false = true
        · obtain ⟨hF, hall, hP⟩ := hT hs9
          have hne : i ≠ st := by rintro rfl; exact hui hs9
          have hpi : post i = true := by
            cases hp : post i
            · exact absurd (hall i (by rw [← hsz]; exact hiL) hne hp) hui
            · rfl
          refine h.1.2.2 hpi val a w' (fun j d oj hj hd hw => ?_) (fun t ht => hE.old t ht) K (fun v hPv => hK v w' ⟨fun _ => ⟨hFu _ _ _ _ hpi hF, fun k hk h1 h2 => getD_set_true (hall k hk h1 h2), fun k hk => ?_⟩, fun hn => ?_⟩)
          · obtain ⟨h1, h2⟩ := hE.arg hdep j d hj hd hw
            exact ⟨h1, hP j h2⟩
          · rcases on_set hk with rfl | hk2
            · rw [upd_same]; exact hPv
            · by_cases e : k = i
              · subst e; rw [upd_same]; exact hPv
              · rw [upd_ne _ e]; exact hP k hk2
          · exact absurd (getD_set_true hs9) hn
        · obtain ⟨hB, hGk⟩ := hN hs9
          by_cases hi : i = st
          · subst hi
            have hall : ∀ j, j < ops.size → j ≠ i → post j = false → L.getD j false = true := by
              intro j hj hne hp
              obtain ⟨e, he, h2, h3⟩ := hedge o hio j hj hne hp
              rw [← h2]
              exact hdep e he h3
            refine h.1.2.1 rfl val a w' hB (fun k hk hne hp => hGk k (hall k hk hne hp)) (fun j d oj hj hd hne hp => ?_) (fun t ht => hE.old t ht) K (fun v w'' hF hPv => hK v w'' ⟨fun _ => ⟨hF, fun k hk h1 h2 => getD_set_true (hall k hk h1 h2), fun k hk => ?_⟩, fun hn => absurd hself hn⟩)
            · have hj2 : j < ops.size := by
                rcases Nat.lt_or_ge j ops.size with h5 | h5
                · exact h5
                · rw [Array.getElem?_eq_none h5] at hj; cases hj
              obtain ⟨e, he, h2, h3⟩ := hedge o hio j hj2 hne hp
              exact (hE.arg hdep j d hj hd (by rw [List.any_eq_true]; exact ⟨e, by simpa using he, by simp [h2, h3]⟩)).1
            · rcases on_set hk with rfl | hk2
              · rw [upd_same]; exact hPv
              · by_cases e : k = i
                · subst e; rw [upd_same]; exact hPv
                · rw [upd_ne _ e]; exact hGP k _ _ (hGk k hk2)
          · refine h.1.1 hi val a w' hB (fun j d oj hj hd hw => ?_) (fun t ht => hE.old t ht) K (fun v w'' hb hGi => hK v w'' ⟨fun hk => ?_, fun _ => ⟨hB.trans (hb.mono hB.size), fun k hk => ?_⟩⟩)
            · obtain ⟨h1, h2⟩ := hE.arg hdep j d hj hd hw
              exact ⟨h1, hGk j h2⟩
            · rcases on_set hk with e | e
              · exact absurd e.symm hi
              · exact absurd e hs9
            · rcases on_set hk with rfl | hk2
              · rw [upd_same]; exact hGi
              · by_cases e : k = i
                · subst e; rw [upd_same]; exact hGi
                · rw [upd_ne _ e]; exact hG k _ _ _ hb (hGk k hk2)
    exact key _ _ (fun k o hk => by rw [Nat.zero_add]; simpa using hk) hs
  · rintro L val w' hall ⟨hT, _⟩
    obtain ⟨hF, _, hP⟩ := hT (hall st hst)
    exact hd val w' hF (fun k hk => hP k (hall k hk))
end
end Reg
end Go.Proofs.Ytdekbncpodjgnaa
namespace Go.Proofs.Ytdekbncpodjgnaa
open Go.ChangeShapes Go.WideShapes Go.ChangeAt Go.RowKit Go.Deep
set_option linter.unusedVariables false
set_option linter.unusedSimpArgs false

def rng2 (l : List (Int × Int)) : Prop := ∀ x ∈ l, (-9223372036854775808 ≤ x.1 ∧ x.1 ≤ 9223372036854775807) ∧ (-9223372036854775808 ≤ x.2 ∧ x.2 ≤ 9223372036854775807)
section
variable {H : Type} {enc : TypeId × Value → H} {P : Program} {W : World} {base : Nat} {spare : Nat → Bool} {held : Bool}
theorem open_RLv {t e : TypeId} {f0 f1 : Field} {v : Value} {y : DataW H × List MemPlace} {fuel : Nat} (ht : P.underlying t = some (.slice e)) (he : P.underlying e = some (.struct #[f0, f1]))
    (ce : P.cellsOf e = 2) (o0 : f0.offset = 0) (o1 : f1.offset = 1) (t0 : P.underlying f0.type = some (.int .i64)) (t1 : P.underlying f1.type = some (.int .i64)) (c0 : P.cellsOf f0.type = 1) (c1 : P.cellsOf f1.type = 1)
    (hf : DataW.trod enc P W base spare held fuel t [v] = some y) : ∃ (a : Option Addr) (c : Nat) (l : List (Int × Int)), v = .slice a l.length c ∧ l.length ≤ 9223372036854775807 ∧ RL W a l ∧ rng2 l := by
  rcases open_slice_pairs ht he ce o0 o1 c0 c1 hf with ⟨hcs, _⟩ | ⟨x, len', cap', m, n, V0, V1, D0, D1, P0, P1, hcs, _, hl, hm, hmm, _, hi⟩
  · simp at hcs
    subst hcs
    exact ⟨none, 0, [], rfl, by simp, RL.nil, by unfold rng2; simp⟩
  · simp at hcs
    subst hcs
    have hlm : len' ≤ m := by split at hmm <;> omega
    have hex : ∀ i, ∃ y : Int × Int, i < len' → V0 i = .int .i64 y.1 ∧ V1 i = .int .i64 y.2 ∧ (Lit.int .i64 y.1).wf = true ∧ (Lit.int .i64 y.2).wf = true := by
      intro i
      by_cases h : i < len'
      · obtain ⟨_, _, g0, g1⟩ := hi i (by omega)
        obtain ⟨z0, e0, _, w0⟩ := DataW.trod_int t0 g0
        obtain ⟨z1, e1, _, w1⟩ := DataW.trod_int t1 g1
        simp at e0 e1
        exact ⟨(z0, z1), fun _ => ⟨e0, e1, w0, w1⟩⟩
      · exact ⟨(0, 0), fun h2 => absurd h2 h⟩
    let F := fun i => Classical.choose (hex i)
    have hF : ∀ i, i < len' → V0 i = .int .i64 (F i).1 ∧ V1 i = .int .i64 (F i).2 ∧ (Lit.int .i64 (F i).1).wf = true ∧ (Lit.int .i64 (F i).2).wf = true := fun i => Classical.choose_spec (hex i)
    have hlen : ((List.range len').map F).length = len' := by simp
    refine ⟨some x, cap', (List.range len').map F, by rw [hlen], by rw [hlen]; unfold maxLen at hm; omega, ?_, ?_⟩
    · intro h0
      rw [hlen] at h0 ⊢
      obtain ⟨b, off, rfl, hb⟩ := addr_plain (by simpa using (hi 0 (by omega)).1)
      refine ⟨b, off, rfl, hb, fun j hj => ?_⟩
      obtain ⟨h1, h2, _, _⟩ := hi j (by omega)
      rw [add_plain] at h1 h2
      rw [getD_lt _ _ (by rw [hlen]; exact hj)]
      simp only [List.getElem_map, List.getElem_range]
      exact ⟨by rw [h1, (hF j hj).1], by rw [← Nat.add_assoc] at h2; rw [h2, (hF j hj).2.1]⟩
    · intro y hy
      obtain ⟨i, h1, rfl⟩ := List.mem_map.1 hy
      have := (hF i (by simpa using h1)).2.2
      exact ⟨wf_rng this.1, wf_rng this.2⟩
end
/-- What is known of an accumulator that comes in. -/
structure InA (a : Acc) : Prop where
  ls : a.s.length ≤ 9223372036854775807
  ln : a.n.length ≤ 9223372036854775807
  lg : a.g.length ≤ 9223372036854775807
  s : rng2 a.s
  n : rng2 a.n
  g : rng2 a.g
set_option maxRecDepth 100000 in
theorem open_acc {H : Type} {enc : TypeId × Value → H} {W : World} {base : Nat} {spare : Nat → Bool} {held : Bool} {r : Reach} {b0 : Nat} {v : Value} {d : DataW H} {p : List MemPlace} (hv : Value.okWide Try.prog W r b0 39 v)
    (h : DataW.Trod enc Try.prog W base spare held 39 v d p) : ∃ (S N G : Option Addr) (c1 c2 c3 : Nat) (a : Acc), v = .agg #[.slice S a.s.length c1, .slice N a.n.length c2, .slice G a.g.length c3] ∧ RA W S N G a ∧ InA a := by
  obtain ⟨v0, v1, v2, y0, y1, y2, n, rfl, _, _, h0, h1, h2⟩ := Go.Joins.open_agg3 Try.underlying39 (by kernel_rfl) (by kernel_rfl) hv h
  obtain ⟨S, c1, s, rfl, l1, r1, w1⟩ := open_RLv Try.underlying36 Try.underlying97 (by kernel_rfl) rfl rfl Try.underlying2 Try.underlying2 (by kernel_rfl) (by kernel_rfl) h0
  obtain ⟨N, c2, n', rfl, l2, r2, w2⟩ := open_RLv Try.underlying36 Try.underlying97 (by kernel_rfl) rfl rfl Try.underlying2 Try.underlying2 (by kernel_rfl) (by kernel_rfl) h1
  obtain ⟨G, c3, g, rfl, l3, r3, w3⟩ := open_RLv Try.underlying37 Try.underlying99 (by kernel_rfl) rfl rfl Try.underlying3 Try.underlying3 (by kernel_rfl) (by kernel_rfl) h2
  exact ⟨S, N, G, c1, c2, c3, ⟨s, n', g⟩, rfl, ⟨r1, r2, r3⟩, ⟨l1, l2, l3, w1, w2, w3⟩⟩
end Go.Proofs.Ytdekbncpodjgnaa
namespace Go.Proofs.Ytdekbncpodjgnaa
open Go.RowKit Runs Lagc Reg
set_option linter.unusedVariables false
set_option linter.unusedSimpArgs false
namespace Wk
open Lagw

set_option maxRecDepth 20000 in
set_option maxHeartbeats 2000000 in
theorem refApply_any (X Y S1 N1 G1 D T : Option Addr) (cx cy c1 c2 c3 c4 c5 : Nat) (xs ys : List Int) (m s : Int) (r : Work) (k u b : Int) (w : World) (hx : RI .i64 w X xs) (hy : RI .i64 w Y ys) (hl : xs.length ≤ 1000000) (hl2 : ys.length ≤ 1000000) (hr : RW w S1 N1 G1 D T r) (l1 : r.a.s.length ≤ 1000000) (l2 : r.a.n.length ≤ 1000000) (l3 : r.a.g.length ≤ 1000000) (l4 : r.d.length ≤ 1000000) (l5 : r.t.length ≤ 1000000) :
    Calls Try.prog 23 #[.agg #[.slice X xs.length cx, .slice Y ys.length cy, .int .i64 m, .int .i64 s], .agg #[.slice S1 r.a.s.length c1, .slice N1 r.a.n.length c2, .slice G1 r.a.g.length c3, .slice D r.d.length c4, .slice T r.t.length c5], .agg #[.int .u8 k, .int .i64 u, .int .i64 b]] w (RetW w (applyS xs ys m s r ⟨k, u, b⟩)) := by
  obtain ⟨wE, hwE⟩ : ∃ wE, wE = (((w.alloc (.cells #[.slice X xs.length cx, .slice Y ys.length cy, .int .i64 m, .int .i64 s] 24)).alloc (.cells #[.slice S1 r.a.s.length c1, .slice N1 r.a.n.length c2, .slice G1 r.a.g.length c3, .slice D r.d.length c4, .slice T r.t.length c5] 42)).alloc (.cells #[.int .u8 k, .int .i64 u, .int .i64 b] 54)).alloc (.cells #[.slice .none 0 0, .slice .none 0 0, .slice .none 0 0, .slice .none 0 0, .slice .none 0 0] 42) := ⟨_, rfl⟩
  have hk1 : Blk wE w.heap.size 24 #[.slice X xs.length cx, .slice Y ys.length cy, .int .i64 m, .int .i64 s] := by rw [hwE]; exact (((Blk.new _ _ _).alloc _).alloc _).alloc _
  have hk2 : Blk wE (w.heap.size + 1) 42 #[.slice S1 r.a.s.length c1, .slice N1 r.a.n.length c2, .slice G1 r.a.g.length c3, .slice D r.d.length c4, .slice T r.t.length c5] := by rw [hwE]; exact ((Blk.newAt _ _ (by simp)).alloc _).alloc _
  have hk3 : Blk wE (w.heap.size + 2) 54 #[.int .u8 k, .int .i64 u, .int .i64 b] := by rw [hwE]; exact (Blk.newAt _ _ (by simp)).alloc _
  have hk4 : Blk wE (w.heap.size + 3) 42 #[.slice .none 0 0, .slice .none 0 0, .slice .none 0 0, .slice .none 0 0, .slice .none 0 0] := by rw [hwE]; exact Blk.newAt _ _ (by simp)
  have hbE : Below w.heap.size w wE := by rw [hwE]; exact balloc (balloc (balloc (balloc (Below.refl _ _) _) _) _) _
  have hsE : wE.heap.size = w.heap.size + 4 := by rw [hwE]; simp
  have hxE := hx.keep hbE
  have hyE := hy.keep hbE
  have hrE := hr.keep hbE
  have HK := Lib.hid (fun w hx hy => refCheckJ_any X Y cx cy xs ys m s w hx hy (by omega) (by omega))
  by_cases he : jobErr xs ys m s = 0
  · obtain ⟨_, _, M, S, rfl, rfl, _⟩ := jobErr_zero he
    have hj := Job.of he
    have HST := Lib.hid (fun w hx hy hr => state_any hj X Y S1 N1 G1 D T cx cy c1 c2 c3 c4 c5 r w hx hy hr l1 l2 l3 l4 l5)
    cases hb : stateB xs ys M S r
    · have HR : Hid (applyS xs ys M S r ⟨k, u, b⟩ = (.none, 8)) := Lib.hid (by unfold applyS; rw [stateErr_no he hb, if_pos (by decide)])
      rw [he] at HK
      rw [hb] at HST
      clear he hb hj
      go_enter Try.func23, Try.ntmps23
      go_wp2_with fail
      rw [← hwE]
      clear hwE
      have j0 : World.cell? wE ⟨w.heap.size, 0, none⟩ = some (.slice X xs.length cx) := hk1.cell 0
      have jf0 := hk1.frozen 0
      have j1 : World.cell? wE ⟨w.heap.size, 1, none⟩ = some (.slice Y ys.length cy) := hk1.cell 1
      have jf1 := hk1.frozen 1
      have j2 : World.cell? wE ⟨w.heap.size, 2, none⟩ = some (.int .i64 (M : Int)) := hk1.cell 2
      have jf2 := hk1.frozen 2
      have j3 : World.cell? wE ⟨w.heap.size, 3, none⟩ = some (.int .i64 (S : Int)) := hk1.cell 3
      have jf3 := hk1.frozen 3
      have jfl := hk1.lt
      go_wp2_with fail
      refine (HK.out _ hxE hyE).mono ?_
      rintro _ w1 ⟨rfl, hb1⟩
      have hB1 := bstep hbE hb1
      have hs1 := hb1.size
      clear j0 j1 j2 j3 jf0 jf1 jf2 jf3 jfl
      replace hk1 := hk1.keep hb1
      replace hk2 := hk2.keep hb1
      replace hk3 := hk3.keep hb1
      replace hk4 := hk4.keep hb1
      replace hxE := hxE.keep hb1
      replace hyE := hyE.keep hb1
      replace hrE := hrE.keep hb1
      have j0 : World.cell? w1 ⟨w.heap.size, 0, none⟩ = some (.slice X xs.length cx) := hk1.cell 0
      have jf0 := hk1.frozen 0
      have j1 : World.cell? w1 ⟨w.heap.size, 1, none⟩ = some (.slice Y ys.length cy) := hk1.cell 1
      have jf1 := hk1.frozen 1
      have j2 : World.cell? w1 ⟨w.heap.size, 2, none⟩ = some (.int .i64 (M : Int)) := hk1.cell 2
      have jf2 := hk1.frozen 2
      have j3 : World.cell? w1 ⟨w.heap.size, 3, none⟩ = some (.int .i64 (S : Int)) := hk1.cell 3
      have jf3 := hk1.frozen 3
      have jfl := hk1.lt
      have p0 : World.cell? w1 ⟨(w.heap.size + 1), 0, none⟩ = some (.slice S1 r.a.s.length c1) := hk2.cell 0
      have g0 := hk2.frozen 0
      have p1 : World.cell? w1 ⟨(w.heap.size + 1), 1, none⟩ = some (.slice N1 r.a.n.length c2) := hk2.cell 1
      have g1 := hk2.frozen 1
      have p2 : World.cell? w1 ⟨(w.heap.size + 1), 2, none⟩ = some (.slice G1 r.a.g.length c3) := hk2.cell 2
      have g2 := hk2.frozen 2
      have p3 : World.cell? w1 ⟨(w.heap.size + 1), 3, none⟩ = some (.slice D r.d.length c4) := hk2.cell 3
      have g3 := hk2.frozen 3
      have p4 : World.cell? w1 ⟨(w.heap.size + 1), 4, none⟩ = some (.slice T r.t.length c5) := hk2.cell 4
      have g4 := hk2.frozen 4
      have gl := hk2.lt
      go_wp2_with fail
      refine (HST.out _ hxE hyE hrE).mono ?_
      rintro _ w2 ⟨rfl, hb2⟩
      have hB2 := bstep hB1 hb2
      clear j0 j1 j2 j3 jf0 jf1 jf2 jf3 jfl
      clear p0 p1 p2 p3 p4 g0 g1 g2 g3 g4 gl
      replace hk4 := hk4.keep hb2
      have q0 : World.cell? w2 ⟨(w.heap.size + 3), 0, none⟩ = some (.slice none 0 0) := hk4.cell 0
      have f0 := hk4.frozen 0
      have q1 : World.cell? w2 ⟨(w.heap.size + 3), 1, none⟩ = some (.slice none 0 0) := hk4.cell 1
      have f1 := hk4.frozen 1
      have q2 : World.cell? w2 ⟨(w.heap.size + 3), 2, none⟩ = some (.slice none 0 0) := hk4.cell 2
      have f2 := hk4.frozen 2
      have q3 : World.cell? w2 ⟨(w.heap.size + 3), 3, none⟩ = some (.slice none 0 0) := hk4.cell 3
      have f3 := hk4.frozen 3
      have q4 : World.cell? w2 ⟨(w.heap.size + 3), 4, none⟩ = some (.slice none 0 0) := hk4.cell 4
      have f4 := hk4.frozen 4
      have fl := hk4.lt
      go_wp2
      exact bodyPost_ret (v := .tuple #[.agg #[.slice none 0 0, .slice none 0 0, .slice none 0 0, .slice none 0 0, .slice none 0 0], .int .i64 8]) (by simp [results, Try.results23, go_sem, q0, q1, q2, q3, q4, f0, f1, f2, f3, f4, fl]) rfl (none_fin HR.out hB2 (by omega) _ _ _ _ _)
    · have HR0 := stateErr_ok he hb
      have HR : Hid (applyS xs ys M S r ⟨k, u, b⟩ = stW xs ys M S (stepS r.d r.t ⟨k, u, b⟩)) := Lib.hid (by unfold applyS; rw [HR0, if_neg (by decide)]; simp)
      obtain ⟨_, _, _, _, _, hG, ha⟩ := stateErr_zero HR0
      rename_i M' S' e1 e2 _
      cases Int.ofNat.inj e1
      cases Int.ofNat.inj e2
      rw [he] at HK
      rw [hb] at HST
      obtain ⟨ra, rd, rt⟩ := r
      simp only at ha hG HR HK HST hr hrE l1 l2 l3 l4 l5 hk2
      subst ha
      have HS := Lib.hid (fun w hx hy hr => next_any hj X Y S1 N1 G1 D T cx cy c1 c2 c3 c4 c5 rd rt k u b w hx hy hG hr)
      generalize stW xs ys M S (stepS rd rt ⟨k, u, b⟩) = RES at *
      obtain ⟨R, re⟩ := RES
      clear he hG hb HR0 hj
      generalize hGS : sumA xs ys M S rd = a at *
      go_enter Try.func23, Try.ntmps23
      go_wp2_with fail
      rw [← hwE]
      clear hwE
      have j0 : World.cell? wE ⟨w.heap.size, 0, none⟩ = some (.slice X xs.length cx) := hk1.cell 0
      have jf0 := hk1.frozen 0
      have j1 : World.cell? wE ⟨w.heap.size, 1, none⟩ = some (.slice Y ys.length cy) := hk1.cell 1
      have jf1 := hk1.frozen 1
      have j2 : World.cell? wE ⟨w.heap.size, 2, none⟩ = some (.int .i64 (M : Int)) := hk1.cell 2
      have jf2 := hk1.frozen 2
      have j3 : World.cell? wE ⟨w.heap.size, 3, none⟩ = some (.int .i64 (S : Int)) := hk1.cell 3
      have jf3 := hk1.frozen 3
      have jfl := hk1.lt
      go_wp2_with fail
      refine (HK.out _ hxE hyE).mono ?_
      rintro _ w1 ⟨rfl, hb1⟩
      have hB1 := bstep hbE hb1
      have hs1 := hb1.size
      clear j0 j1 j2 j3 jf0 jf1 jf2 jf3 jfl
      replace hk1 := hk1.keep hb1
      replace hk2 := hk2.keep hb1
      replace hk3 := hk3.keep hb1
      replace hk4 := hk4.keep hb1
      replace hxE := hxE.keep hb1
      replace hyE := hyE.keep hb1
      replace hrE := hrE.keep hb1
      have j0 : World.cell? w1 ⟨w.heap.size, 0, none⟩ = some (.slice X xs.length cx) := hk1.cell 0
      have jf0 := hk1.frozen 0
      have j1 : World.cell? w1 ⟨w.heap.size, 1, none⟩ = some (.slice Y ys.length cy) := hk1.cell 1
      have jf1 := hk1.frozen 1
      have j2 : World.cell? w1 ⟨w.heap.size, 2, none⟩ = some (.int .i64 (M : Int)) := hk1.cell 2
      have jf2 := hk1.frozen 2
      have j3 : World.cell? w1 ⟨w.heap.size, 3, none⟩ = some (.int .i64 (S : Int)) := hk1.cell 3
      have jf3 := hk1.frozen 3
      have jfl := hk1.lt
      have p0 : World.cell? w1 ⟨(w.heap.size + 1), 0, none⟩ = some (.slice S1 a.s.length c1) := hk2.cell 0
      have g0 := hk2.frozen 0
      have p1 : World.cell? w1 ⟨(w.heap.size + 1), 1, none⟩ = some (.slice N1 a.n.length c2) := hk2.cell 1
      have g1 := hk2.frozen 1
      have p2 : World.cell? w1 ⟨(w.heap.size + 1), 2, none⟩ = some (.slice G1 a.g.length c3) := hk2.cell 2
      have g2 := hk2.frozen 2
      have p3 : World.cell? w1 ⟨(w.heap.size + 1), 3, none⟩ = some (.slice D rd.length c4) := hk2.cell 3
      have g3 := hk2.frozen 3
      have p4 : World.cell? w1 ⟨(w.heap.size + 1), 4, none⟩ = some (.slice T rt.length c5) := hk2.cell 4
      have g4 := hk2.frozen 4
      have gl := hk2.lt
      go_wp2_with fail
      refine (HST.out _ hxE hyE hrE).mono ?_
      rintro _ w2 ⟨rfl, hb2⟩
      have hB2 := bstep hB1 hb2
      clear j0 j1 j2 j3 jf0 jf1 jf2 jf3 jfl
      clear p0 p1 p2 p3 p4 g0 g1 g2 g3 g4 gl
      replace hk1 := hk1.keep hb2
      replace hk2 := hk2.keep hb2
      replace hk3 := hk3.keep hb2
      replace hk4 := hk4.keep hb2
      replace hxE := hxE.keep hb2
      replace hyE := hyE.keep hb2
      replace hrE := hrE.keep hb2
      have j0 : World.cell? w2 ⟨w.heap.size, 0, none⟩ = some (.slice X xs.length cx) := hk1.cell 0
      have jf0 := hk1.frozen 0
      have j1 : World.cell? w2 ⟨w.heap.size, 1, none⟩ = some (.slice Y ys.length cy) := hk1.cell 1
      have jf1 := hk1.frozen 1
      have j2 : World.cell? w2 ⟨w.heap.size, 2, none⟩ = some (.int .i64 (M : Int)) := hk1.cell 2
      have jf2 := hk1.frozen 2
      have j3 : World.cell? w2 ⟨w.heap.size, 3, none⟩ = some (.int .i64 (S : Int)) := hk1.cell 3
      have jf3 := hk1.frozen 3
      have jfl := hk1.lt
      have p0 : World.cell? w2 ⟨(w.heap.size + 1), 0, none⟩ = some (.slice S1 a.s.length c1) := hk2.cell 0
      have g0 := hk2.frozen 0
      have p1 : World.cell? w2 ⟨(w.heap.size + 1), 1, none⟩ = some (.slice N1 a.n.length c2) := hk2.cell 1
      have g1 := hk2.frozen 1
      have p2 : World.cell? w2 ⟨(w.heap.size + 1), 2, none⟩ = some (.slice G1 a.g.length c3) := hk2.cell 2
      have g2 := hk2.frozen 2
      have p3 : World.cell? w2 ⟨(w.heap.size + 1), 3, none⟩ = some (.slice D rd.length c4) := hk2.cell 3
      have g3 := hk2.frozen 3
      have p4 : World.cell? w2 ⟨(w.heap.size + 1), 4, none⟩ = some (.slice T rt.length c5) := hk2.cell 4
      have g4 := hk2.frozen 4
      have gl := hk2.lt
      have e0 : World.cell? w2 ⟨(w.heap.size + 2), 0, none⟩ = some (.int .u8 k) := hk3.cell 0
      have ef0 := hk3.frozen 0
      have e1 : World.cell? w2 ⟨(w.heap.size + 2), 1, none⟩ = some (.int .i64 u) := hk3.cell 1
      have ef1 := hk3.frozen 1
      have e2 : World.cell? w2 ⟨(w.heap.size + 2), 2, none⟩ = some (.int .i64 b) := hk3.cell 2
      have ef2 := hk3.frozen 2
      have efl := hk3.lt
      go_wp2_with fail
      refine (HS.out _ hxE hyE hrE).mono ?_
      rintro _ w3 ⟨S2, N2, G2, D2, T2, z1, z2, z3, z4, z5, rfl, rv, hb3⟩
      clear p0 p1 p2 p3 p4 g0 g1 g2 g3 g4 gl
      clear j0 j1 j2 j3 jf0 jf1 jf2 jf3 jfl
      clear e0 e1 e2 ef0 ef1 ef2 efl
      have hB3 := bstep hB2 hb3
      replace hk4 := hk4.keep hb3
      have q0 : World.cell? w3 ⟨(w.heap.size + 3), 0, none⟩ = some (.slice none 0 0) := hk4.cell 0
      have f0 := hk4.frozen 0
      have q1 : World.cell? w3 ⟨(w.heap.size + 3), 1, none⟩ = some (.slice none 0 0) := hk4.cell 1
      have f1 := hk4.frozen 1
      have q2 : World.cell? w3 ⟨(w.heap.size + 3), 2, none⟩ = some (.slice none 0 0) := hk4.cell 2
      have f2 := hk4.frozen 2
      have q3 : World.cell? w3 ⟨(w.heap.size + 3), 3, none⟩ = some (.slice none 0 0) := hk4.cell 3
      have f3 := hk4.frozen 3
      have q4 : World.cell? w3 ⟨(w.heap.size + 3), 4, none⟩ = some (.slice none 0 0) := hk4.cell 4
      have f4 := hk4.frozen 4
      have fl := hk4.lt
      go_wp2
      refine bodyPost_ret (v := .tuple #[.agg #[.slice S2 R.a.s.length z1, .slice N2 R.a.n.length z2, .slice G2 R.a.g.length z3, .slice D2 R.d.length z4, .slice T2 R.t.length z5], .int .i64 re]) (by simp [results, Try.results23, go_sem, q0, q1, q2, q3, q4, f0, f1, f2, f3, f4, fl]) rfl ?_
      rw [HR.out]
      exact work_fin rv hk4 hB3 (by omega)
  · have e1 : (jobErr xs ys m s != 0) = true := by simp [he]
    have HR : Hid (applyS xs ys m s r ⟨k, u, b⟩ = (.none, jobErr xs ys m s)) := Lib.hid (by unfold applyS; rw [stateErr_job he, if_pos he])
    clear he
    generalize jobErr xs ys m s = E at *
    go_enter Try.func23, Try.ntmps23
    go_wp2_with fail
    rw [← hwE]
    clear hwE
    have j0 : World.cell? wE ⟨w.heap.size, 0, none⟩ = some (.slice X xs.length cx) := hk1.cell 0
    have jf0 := hk1.frozen 0
    have j1 : World.cell? wE ⟨w.heap.size, 1, none⟩ = some (.slice Y ys.length cy) := hk1.cell 1
    have jf1 := hk1.frozen 1
    have j2 : World.cell? wE ⟨w.heap.size, 2, none⟩ = some (.int .i64 m) := hk1.cell 2
    have jf2 := hk1.frozen 2
    have j3 : World.cell? wE ⟨w.heap.size, 3, none⟩ = some (.int .i64 s) := hk1.cell 3
    have jf3 := hk1.frozen 3
    have jfl := hk1.lt
    go_wp2_with fail
    refine (HK.out _ hxE hyE).mono ?_
    rintro _ w1 ⟨rfl, hb1⟩
    have hB1 := bstep hbE hb1
    have hs1 := hb1.size
    clear j0 j1 j2 j3 jf0 jf1 jf2 jf3 jfl
    replace hk1 := hk1.keep hb1
    replace hk2 := hk2.keep hb1
    replace hk3 := hk3.keep hb1
    replace hk4 := hk4.keep hb1
    replace hxE := hxE.keep hb1
    replace hyE := hyE.keep hb1
    replace hrE := hrE.keep hb1
    have j0 : World.cell? w1 ⟨w.heap.size, 0, none⟩ = some (.slice X xs.length cx) := hk1.cell 0
    have jf0 := hk1.frozen 0
    have j1 : World.cell? w1 ⟨w.heap.size, 1, none⟩ = some (.slice Y ys.length cy) := hk1.cell 1
    have jf1 := hk1.frozen 1
    have j2 : World.cell? w1 ⟨w.heap.size, 2, none⟩ = some (.int .i64 m) := hk1.cell 2
    have jf2 := hk1.frozen 2
    have j3 : World.cell? w1 ⟨w.heap.size, 3, none⟩ = some (.int .i64 s) := hk1.cell 3
    have jf3 := hk1.frozen 3
    have jfl := hk1.lt
    go_wp2_with fail
    refine (HK.out _ hxE hyE).mono ?_
    rintro _ w2 ⟨rfl, hb2⟩
    have hB2 := bstep hB1 hb2
    clear j0 j1 j2 j3 jf0 jf1 jf2 jf3 jfl
    replace hk4 := hk4.keep hb2
    have q0 : World.cell? w2 ⟨(w.heap.size + 3), 0, none⟩ = some (.slice none 0 0) := hk4.cell 0
    have f0 := hk4.frozen 0
    have q1 : World.cell? w2 ⟨(w.heap.size + 3), 1, none⟩ = some (.slice none 0 0) := hk4.cell 1
    have f1 := hk4.frozen 1
    have q2 : World.cell? w2 ⟨(w.heap.size + 3), 2, none⟩ = some (.slice none 0 0) := hk4.cell 2
    have f2 := hk4.frozen 2
    have q3 : World.cell? w2 ⟨(w.heap.size + 3), 3, none⟩ = some (.slice none 0 0) := hk4.cell 3
    have f3 := hk4.frozen 3
    have q4 : World.cell? w2 ⟨(w.heap.size + 3), 4, none⟩ = some (.slice none 0 0) := hk4.cell 4
    have f4 := hk4.frozen 4
    have fl := hk4.lt
    go_wp2
    exact bodyPost_ret (v := .tuple #[.agg #[.slice none 0 0, .slice none 0 0, .slice none 0 0, .slice none 0 0, .slice none 0 0], .int .i64 E]) (by simp [results, Try.results23, go_sem, q0, q1, q2, q3, q4, f0, f1, f2, f3, f4, fl]) rfl (none_fin HR.out hB2 (by omega) _ _ _ _ _)
end Wk
end Go.Proofs.Ytdekbncpodjgnaa
namespace Go.Proofs.Ytdekbncpodjgnaa
open Go.RowKit Runs Lagc Reg
set_option linter.unusedVariables false
set_option linter.unusedSimpArgs false
namespace Wk
open Lagw

/-- What the operations of region 9 yield. -/
structure RnP where
  J : Value
  V : Value
  L : Value
  i : Value
  pe : Value
  ev : Value
  R : Work
  e : Int
  B : Nat
def RnP.F (p : RnP) : Nat → Value → World → Prop
  | 0 => fun v _ => v = p.J
  | 1 => fun v _ => v = p.V
  | 2 => fun v _ => v = p.L
  | 3 => fun v _ => v = p.i
  | 4 => fun v _ => v = p.pe
  | 5 => fun v _ => v = p.ev
  | 6 => fun v w => ∃ S N G D T c1 c2 c3 c4 c5, v = .tuple #[.agg #[.slice S p.R.a.s.length c1, .slice N p.R.a.n.length c2, .slice G p.R.a.g.length c3, .slice D p.R.d.length c4, .slice T p.R.t.length c5], .int .i64 p.e] ∧ RW w S N G D T p.R
  | 7 => fun v w => ∃ S N G D T c1 c2 c3 c4 c5, v = .tuple #[.agg #[.slice S p.R.a.s.length c1, .slice N p.R.a.n.length c2, .slice G p.R.a.g.length c3, .slice D p.R.d.length c4, .slice T p.R.t.length c5], .int .i64 p.e] ∧ RW w S N G D T p.R
  | 8 => fun v w => ∃ S N G D T c1 c2 c3 c4 c5, v = .agg #[.slice S p.R.a.s.length c1, .slice N p.R.a.n.length c2, .slice G p.R.a.g.length c3, .slice D p.R.d.length c4, .slice T p.R.t.length c5] ∧ RW w S N G D T p.R
  | 9 => fun v _ => v = .int .i64 p.e
  | 10 => fun v w => ∃ g, v = .pointer (some ⟨g, 0, none⟩) ∧ p.B ≤ g ∧ Blk w g 42 #[.slice none 0 0, .slice none 0 0, .slice none 0 0, .slice none 0 0, .slice none 0 0]
  | 12 => fun v _ => v = .int .i64 p.e
  | _ => fun _ _ => True
def RnP.P (p : RnP) : Nat → Value → Prop
  | 7 => fun v => ∃ x, v = .tuple #[x, .int .i64 p.e]
  | 9 => fun v => v = .int .i64 p.e
  | 12 => fun v => v = .int .i64 p.e
  | _ => fun _ => True
theorem RnP.keep (p : RnP) : ∀ k v w w', Below w.heap.size w w' → p.F k v w → p.F k v w' := by
  intro k v w w' hb h
  match k, h with
  | 0, h => exact h
  | 1, h => exact h
  | 2, h => exact h
  | 3, h => exact h
  | 4, h => exact h
  | 5, h => exact h
  | 6, ⟨S, N, G, D, T, c1, c2, c3, c4, c5, e, h1⟩ => exact ⟨S, N, G, D, T, c1, c2, c3, c4, c5, e, h1.keep hb⟩
  | 7, ⟨S, N, G, D, T, c1, c2, c3, c4, c5, e, h1⟩ => exact ⟨S, N, G, D, T, c1, c2, c3, c4, c5, e, h1.keep hb⟩
  | 8, ⟨S, N, G, D, T, c1, c2, c3, c4, c5, e, h1⟩ => exact ⟨S, N, G, D, T, c1, c2, c3, c4, c5, e, h1.keep hb⟩
  | 9, h => exact h
  | 10, ⟨g, e, hg, h1⟩ => exact ⟨g, e, hg, h1.keep hb⟩
  | 11, _ => trivial
  | 12, h => exact h
  | n + 13, _ => trivial
theorem RnP.val (p : RnP) : ∀ k v w, p.F k v w → p.P k v := by
  intro k v w h
  match k, h with
  | 0, _ => trivial
  | 1, _ => trivial
  | 2, _ => trivial
  | 3, _ => trivial
  | 4, _ => trivial
  | 5, _ => trivial
  | 6, _ => trivial
  | 7, ⟨S, N, G, D, T, c1, c2, c3, c4, c5, e, h1⟩ => exact ⟨_, e⟩
  | 8, _ => trivial
  | 9, h => exact h
  | 10, _ => trivial
  | 11, _ => trivial
  | 12, h => exact h
  | n + 13, _ => trivial
def RnP.E (p : RnP) (w0 : World) (val : Nat → Value) (w : World) : Prop :=
  ∃ g S N G D T c1 c2 c3 c4 c5, val 10 = .pointer (some ⟨g, 0, none⟩) ∧ w0.heap.size ≤ g ∧ Blk w g 42 #[.slice S p.R.a.s.length c1, .slice N p.R.a.n.length c2, .slice G p.R.a.g.length c3, .slice D p.R.d.length c4, .slice T p.R.t.length c5] ∧ RW w S N G D T p.R ∧ Below w0.heap.size w0 w
theorem RnP.upd (p : RnP) (w0 : World) : ∀ val i v w, (i == 9 || i == 12) = true → p.E w0 val w → p.E w0 (upd val i v) w := by
  rintro val i v w hi ⟨g, S, N, G, D, T, c1, c2, c3, c4, c5, e, h⟩
  have hne : 10 ≠ i := by
    simp only [Bool.or_eq_true, beq_iff_eq] at hi
    omega
  exact ⟨g, S, N, G, D, T, c1, c2, c3, c4, c5, by rw [upd_ne _ hne]; exact e, h⟩
set_option maxRecDepth 20000 in
set_option maxHeartbeats 4000000 in
theorem refRun_any (X Y A : Option Addr) (cx cy c : Nat) (xs ys : List Int) (m s n : Int) (l : List Ev) (w : World) (hx : RI .i64 w X xs) (hy : RI .i64 w Y ys) (hl : xs.length ≤ 1000000) (hl2 : ys.length ≤ 1000000) (hA : RE w A l) (hll : l.length ≤ 9223372036854775807) :
    Calls Try.prog 25 #[.agg #[.slice X xs.length cx, .slice Y ys.length cy, .int .i64 m, .int .i64 s], .int .i64 n, .slice A l.length c] w (RetR w (runS xs ys m s n l)) := by
  obtain ⟨wE, hwE⟩ : ∃ wE, wE = (w.alloc (.cells #[.slice X xs.length cx, .slice Y ys.length cy, .int .i64 m, .int .i64 s] 24)).alloc (.cells #[.slice .none 0 0, .slice .none 0 0, .slice .none 0 0, .slice .none 0 0, .slice .none 0 0] 42) := ⟨_, rfl⟩
  have hk1 : Blk wE w.heap.size 24 #[.slice X xs.length cx, .slice Y ys.length cy, .int .i64 m, .int .i64 s] := by rw [hwE]; exact (Blk.new _ _ _).alloc _
  have hk2 : Blk wE (w.heap.size + 1) 42 #[.slice .none 0 0, .slice .none 0 0, .slice .none 0 0, .slice .none 0 0, .slice .none 0 0] := by rw [hwE]; exact Blk.newAt _ _ (by simp)
  have hbE : Below w.heap.size w wE := by rw [hwE]; exact balloc (balloc (Below.refl _ _) _) _
  have hsE : wE.heap.size = w.heap.size + 2 := by rw [hwE]; simp
  have hxE := hx.keep hbE
  have hyE := hy.keep hbE
  have hAE := hA.keep hbE
  have HO := Lib.hid (fun w hx hy => refOpen_any X Y cx cy xs ys m s n w hx hy (by omega) (by omega))
  by_cases he : (openS xs ys m s n).2 = 0
  · obtain ⟨M, S, N, rfl, rfl, rfl, hj, hN1, hN6, hop⟩ := openS_zero he
    have HR : Hid (400 < l.length → runS xs ys M S N l = ((.none, 0), 4)) := Lib.hid (fun h => by unfold runS; rw [if_neg (by simp [he]), if_pos h])
    have HR2 : Hid (¬ 400 < l.length → runS xs ys M S N l = ((workS xs ys M S (runL (start19 (cdiv xs.length S) N) l 0).1.1, (((runL (start19 (cdiv xs.length S) N) l 0).1.2 : Nat) : Int)), (runL (start19 (cdiv xs.length S) N) l 0).2)) := Lib.hid (fun h => by unfold runS; rw [if_neg (by simp [he]), if_neg h]; simp)
    rw [hop] at HO
    have hG0 := start_good (C := cdiv xs.length S) hN1 hN6
    have HS := Lib.hid (fun d t (hG : Good19 (cdiv xs.length S) d t) S1 N1 G1 D T c1 c2 c3 c4 c5 k u b w hx hy hr => next_any hj X Y S1 N1 G1 D T cx cy c1 c2 c3 c4 c5 d t k u b w hx hy hG hr)
    have HG := Lib.hid (fun d t e (hG : Good19 (cdiv xs.length S) d t) (h : (stepS d t e).2 = 0) => (step_good (e := e) hG h).1)
    have HW := Lib.hid (fun q x (h : x ≠ 0) => stW_no (xs := xs) (ys := ys) (M := M) (S := S) (r := (q, x)) (x := x))
    have HWK : ∀ d t, workS xs ys M S (d, t) = ⟨sumA xs ys M S d, d, t⟩ := fun _ _ => rfl
    have HST : Hid (∀ q : (List Bool × List Int) × Int, stW xs ys M S q = if q.2 ≠ 0 then (.none, q.2) else (workS xs ys M S q.1, 0)) := Lib.hid (fun q => rfl)
    generalize cdiv xs.length S = C at *
    generalize hs0 : start19 C N = s0 at *
    obtain ⟨d0, t0⟩ := s0
    simp only at hG0
    have hWS : ∀ st, workS xs ys M S st = ⟨sumA xs ys M S st.1, st.1, st.2⟩ := fun _ => rfl
    simp only [hWS] at HO
    generalize runS xs ys M S N l = RES at *
    generalize sumA xs ys M S = SM at *
    clear he hop hj hs0 hx hy hA HW HWK
    by_cases h400 : 400 < l.length
    · have d400 : decide (400 < (l.length : Int)) = true := by simp; omega
      have HF := Lib.hid (HR.out h400)
      clear HR HR2 h400
      go_enter Try.func25, Try.ntmps25
      go_wp2_with fail
      rw [← hwE]
      clear hwE
      have j0 : World.cell? wE ⟨w.heap.size, 0, none⟩ = some (.slice X xs.length cx) := hk1.cell 0
      have jf0 := hk1.frozen 0
      have j1 : World.cell? wE ⟨w.heap.size, 1, none⟩ = some (.slice Y ys.length cy) := hk1.cell 1
      have jf1 := hk1.frozen 1
      have j2 : World.cell? wE ⟨w.heap.size, 2, none⟩ = some (.int .i64 (M : Int)) := hk1.cell 2
      have jf2 := hk1.frozen 2
      have j3 : World.cell? wE ⟨w.heap.size, 3, none⟩ = some (.int .i64 (S : Int)) := hk1.cell 3
      have jf3 := hk1.frozen 3
      have jfl := hk1.lt
      go_wp2_with fail
      refine (HO.out _ hxE hyE).mono ?_
      rintro _ w1 ⟨S1, N1, G1, D1, T1, c1, c2, c3, c4, c5, rfl, rv, hb1⟩
      clear j0 j1 j2 j3 jf0 jf1 jf2 jf3 jfl
      have hB1 := bstep hbE hb1
      have hs1 := hb1.size
      replace hk1 := hk1.keep hb1
      replace hk2 := hk2.keep hb1
      have q0 : World.cell? w1 ⟨(w.heap.size + 1), 0, none⟩ = some (.slice none 0 0) := hk2.cell 0
      have f0 := hk2.frozen 0
      have q1 : World.cell? w1 ⟨(w.heap.size + 1), 1, none⟩ = some (.slice none 0 0) := hk2.cell 1
      have f1 := hk2.frozen 1
      have q2 : World.cell? w1 ⟨(w.heap.size + 1), 2, none⟩ = some (.slice none 0 0) := hk2.cell 2
      have f2 := hk2.frozen 2
      have q3 : World.cell? w1 ⟨(w.heap.size + 1), 3, none⟩ = some (.slice none 0 0) := hk2.cell 3
      have f3 := hk2.frozen 3
      have q4 : World.cell? w1 ⟨(w.heap.size + 1), 4, none⟩ = some (.slice none 0 0) := hk2.cell 4
      have f4 := hk2.frozen 4
      have fl := hk2.lt
      go_wp2
      refine bodyPost_ret (v := .tuple #[.agg #[.slice none 0 0, .slice none 0 0, .slice none 0 0, .slice none 0 0, .slice none 0 0], .int .i64 0, .int .i64 4]) (by simp [results, Try.results25, go_sem, q0, q1, q2, q3, q4, f0, f1, f2, f3, f4, fl]) rfl ?_
      exact (run_fin (c1 := 0) (c2 := 0) (c3 := 0) (c4 := 0) (c5 := 0) HF.out RW.none hk2 hB1 (by omega)).alloc _
    · have d400 : decide (400 < (l.length : Int)) = false := by simp; omega
      have HF := Lib.hid (HR2.out h400)
      clear HR HR2
      go_enter Try.func25, Try.ntmps25
      go_wp2_with fail
      rw [← hwE]
      clear hwE
      have j0 : World.cell? wE ⟨w.heap.size, 0, none⟩ = some (.slice X xs.length cx) := hk1.cell 0
      have jf0 := hk1.frozen 0
      have j1 : World.cell? wE ⟨w.heap.size, 1, none⟩ = some (.slice Y ys.length cy) := hk1.cell 1
      have jf1 := hk1.frozen 1
      have j2 : World.cell? wE ⟨w.heap.size, 2, none⟩ = some (.int .i64 (M : Int)) := hk1.cell 2
      have jf2 := hk1.frozen 2
      have j3 : World.cell? wE ⟨w.heap.size, 3, none⟩ = some (.int .i64 (S : Int)) := hk1.cell 3
      have jf3 := hk1.frozen 3
      have jfl := hk1.lt
      go_wp2_with fail
      refine (HO.out _ hxE hyE).mono ?_
      rintro _ w1 ⟨S1, N1, G1, D1, T1, c1, c2, c3, c4, c5, rfl, rv, hb1⟩
      clear j0 j1 j2 j3 jf0 jf1 jf2 jf3 jfl
      have hB1 := bstep hbE hb1
      have hs1 := hb1.size
      replace hk1 := hk1.keep hb1
      replace hk2 := hk2.keep hb1
      replace hxE := hxE.keep hb1
      replace hyE := hyE.keep hb1
      replace hAE := hAE.keep hb1
      go_wp2
      go_loopg [11] l.length (fun gk i wr => ∃ (k : Nat) (d : List Bool) (t : List Int) (S6 N6 G6 D6 T6 : Option Addr) (x1 x2 x3 x4 x5 : Nat), k + gk = l.length ∧ i = .int .i64 k ∧ Hid (runL (d0, t0) l 0 = runL (d, t) (l.drop k) k) ∧ Good19 C d t ∧ Blk wr w1.heap.size 42 #[.slice S6 (SM d).s.length x1, .slice N6 (SM d).n.length x2, .slice G6 (SM d).g.length x3, .slice D6 d.length x4, .slice T6 t.length x5] ∧ RW wr S6 N6 G6 D6 T6 ⟨SM d, d, t⟩ ∧ Below w1.heap.size w1 wr)
      case atStart => exact ⟨0, d0, t0, S1, N1, G1, D1, T1, c1, c2, c3, c4, c5, by omega, rfl, Lib.hid rfl, hG0, Blk.new _ _ _, rv.keep (balloc (Below.refl _ _) _), balloc (Below.refl _ _) _⟩
      case round =>
        obtain ⟨k, d, t, S6, N6, G6, D6, T6, x1, x2, x3, x4, x5, hk, rfl, hrun, hG, hkV, rw6, hb⟩ := hrel
        have hk' : k ≤ l.length := by omega
        have HK := Lib.hid hk
        clear hk
        have hkJ := hk1.keep hb
        have hkR := hk2.keep hb
        have hxr := hxE.keep hb
        have hyr := hyE.keep hb
        have hAr := hAE.keep hb
        have hBr := bstep hB1 hb
        have hsr := hb.size
        have hlV := hkV.lt
        by_cases hlt : k < l.length
        · obtain ⟨ba, oa, hAe, hal, hac⟩ := hAr (by omega)
          obtain ⟨a1, a2, a3⟩ := hac k hlt
          have hdrop : l.drop k = l[k] :: l.drop (k + 1) := List.drop_eq_getElem_cons hlt
          have hrun2 := hrun.out
          rw [hdrop] at hrun2
          have HRUN := Lib.hid hrun2
          clear hac hAr hAE hrun hrun2 hdrop
          subst hAe
          generalize l[k] = ev at *
          obtain ⟨ek, eu, eb⟩ := ev
          simp only at a1 a2 a3
          obtain ⟨⟨⟨d', t'⟩, qe⟩, hq⟩ : ∃ q, stepS d t ⟨ek, eu, eb⟩ = q := ⟨_, rfl⟩
          have HSk := Lib.hid (HS.out d t hG S6 N6 G6 D6 T6 x1 x2 x3 x4 x5 ek eu eb)
          rw [hq, HST.out] at HSk
          obtain ⟨RES9, hRES⟩ : ∃ RES9 : Work × Int, RES9 = (if (((d', t'), qe) : (List Bool × List Int) × Int).2 ≠ 0 then (Work.none, (((d', t'), qe) : (List Bool × List Int) × Int).2) else (workS xs ys M S (((d', t'), qe) : (List Bool × List Int) × Int).1, 0)) := ⟨_, rfl⟩
          rw [← hRES] at HSk
          have HRE := Lib.hid hRES
          clear hRES HS
          go_upto_region 9 with (fail)
          go_cut [12, 13] (fun s12 s13 wc => ∃ (g : Nat) (S7 N7 G7 D7 T7 : Option Addr) (u1 u2 u3 u4 u5 : Nat), s12 = .pointer (some ⟨g, 0, none⟩) ∧ s13 = .int .i64 RES9.2 ∧ Blk wc g 42 #[.slice S7 RES9.1.a.s.length u1, .slice N7 RES9.1.a.n.length u2, .slice G7 RES9.1.a.g.length u3, .slice D7 RES9.1.d.length u4, .slice T7 RES9.1.t.length u5] ∧ RW wc S7 N7 G7 D7 T7 RES9.1 ∧ Below wr.heap.size wr wc ∧ wr.heap.size ≤ g)
          case first =>
            clear HRUN HST hq HRE HF HG
            refine wp_region_mid (by kernel_rfl) (by kernel_rfl) (by kernel_rfl) (RnP.F ⟨.agg #[.slice X xs.length cx, .slice Y ys.length cy, .int .i64 (M : Int), .int .i64 (S : Int)], .agg #[.slice S6 (SM d).s.length x1, .slice N6 (SM d).n.length x2, .slice G6 (SM d).g.length x3, .slice D6 d.length x4, .slice T6 t.length x5], .slice (some ⟨ba, oa, none⟩) l.length c, .int .i64 (k : Int), .pointer (some ⟨ba, oa + k * 3, none⟩), .agg #[.int .u8 ek, .int .i64 eu, .int .i64 eb], RES9.1, RES9.2, wr.heap.size⟩) (RnP.P ⟨.agg #[.slice X xs.length cx, .slice Y ys.length cy, .int .i64 (M : Int), .int .i64 (S : Int)], .agg #[.slice S6 (SM d).s.length x1, .slice N6 (SM d).n.length x2, .slice G6 (SM d).g.length x3, .slice D6 d.length x4, .slice T6 t.length x5], .slice (some ⟨ba, oa, none⟩) l.length c, .int .i64 (k : Int), .pointer (some ⟨ba, oa + k * 3, none⟩), .agg #[.int .u8 ek, .int .i64 eu, .int .i64 eb], RES9.1, RES9.2, wr.heap.size⟩) 11 (RnP.E ⟨.agg #[.slice X xs.length cx, .slice Y ys.length cy, .int .i64 (M : Int), .int .i64 (S : Int)], .agg #[.slice S6 (SM d).s.length x1, .slice N6 (SM d).n.length x2, .slice G6 (SM d).g.length x3, .slice D6 d.length x4, .slice T6 t.length x5], .slice (some ⟨ba, oa, none⟩) l.length c, .int .i64 (k : Int), .pointer (some ⟨ba, oa + k * 3, none⟩), .agg #[.int .u8 ek, .int .i64 eu, .int .i64 eb], RES9.1, RES9.2, wr.heap.size⟩ wr) (fun i => i == 9 || i == 12) (by kernel_rfl) (RnP.keep _) (RnP.val _) (RnP.upd _ _) ⟨?_, ?_, ?_, ?_, ?_, ?_, ?_, ?_, ?_, ?_, ?_, ?_, ?_, trivial⟩ ?_
            · refine MidOk.grow ?_ (by decide) rfl
              intro val a w9 hb9 hdep hold K hK
              have b1 : a.tmps[3]?.getD undef = .pointer (some ⟨w.heap.size, 0, none⟩) := ev_tmps ((hold 3 (by rfl)).trans (by rfl))
              have hkr := hkJ.keep hb9
              have p0 : World.cell? w9 ⟨w.heap.size, 0, none⟩ = some (.slice X xs.length cx) := hkr.cell 0
              have g0 := hkr.frozen 0
              have p1 : World.cell? w9 ⟨w.heap.size, 1, none⟩ = some (.slice Y ys.length cy) := hkr.cell 1
              have g1 := hkr.frozen 1
              have p2 : World.cell? w9 ⟨w.heap.size, 2, none⟩ = some (.int .i64 (M : Int)) := hkr.cell 2
              have g2 := hkr.frozen 2
              have p3 : World.cell? w9 ⟨w.heap.size, 3, none⟩ = some (.int .i64 (S : Int)) := hkr.cell 3
              have g3 := hkr.frozen 3
              have gl := hkr.lt
              clear hdep hold
              go_simp
              exact hK _ _ (Below.refl _ _) rfl
            · refine MidOk.grow ?_ (by decide) rfl
              intro val a w9 hb9 hdep hold K hK
              have b1 : a.tmps[9]?.getD undef = .pointer (some ⟨w1.heap.size, 0, none⟩) := ev_tmps ((hold 9 (by rfl)).trans (by rfl))
              have hkr := hkV.keep hb9
              have p0 : World.cell? w9 ⟨w1.heap.size, 0, none⟩ = some (.slice S6 (SM d).s.length x1) := hkr.cell 0
              have g0 := hkr.frozen 0
              have p1 : World.cell? w9 ⟨w1.heap.size, 1, none⟩ = some (.slice N6 (SM d).n.length x2) := hkr.cell 1
              have g1 := hkr.frozen 1
              have p2 : World.cell? w9 ⟨w1.heap.size, 2, none⟩ = some (.slice G6 (SM d).g.length x3) := hkr.cell 2
              have g2 := hkr.frozen 2
              have p3 : World.cell? w9 ⟨w1.heap.size, 3, none⟩ = some (.slice D6 d.length x4) := hkr.cell 3
              have g3 := hkr.frozen 3
              have p4 : World.cell? w9 ⟨w1.heap.size, 4, none⟩ = some (.slice T6 t.length x5) := hkr.cell 4
              have g4 := hkr.frozen 4
              have gl := hkr.lt
              clear hdep hold
              go_simp
              exact hK _ _ (Below.refl _ _) rfl
            · refine MidOk.grow ?_ (by decide) rfl
              intro val a w9 hb9 hdep hold K hK
              have b1 : a.tmps[2]?.getD undef = .slice (some ⟨ba, oa, none⟩) l.length c := ev_tmps ((hold 2 (by rfl)).trans (by rfl))
              clear hdep hold
              go_simp
              exact hK _ _ (Below.refl _ _) rfl
            · refine MidOk.grow ?_ (by decide) rfl
              intro val a w9 hb9 hdep hold K hK
              have b1 : a.tmps[11]?.getD undef = .int .i64 (k : Int) := ev_tmps ((hold 11 (by rfl)).trans (by rfl))
              clear hdep hold
              go_simp
              exact hK _ _ (Below.refl _ _) rfl
            · refine MidOk.grow ?_ (by decide) rfl
              intro val a w9 hb9 hdep hold K hK
              have b1 : a.tmps[37]?.getD undef = .slice (some ⟨ba, oa, none⟩) l.length c := ev_tmps ((hdep 2 37 _ rfl rfl rfl).1.trans (hdep 2 37 _ rfl rfl rfl).2)
              have b2 : a.tmps[38]?.getD undef = .int .i64 (k : Int) := ev_tmps ((hdep 3 38 _ rfl rfl rfl).1.trans (hdep 3 38 _ rfl rfl rfl).2)
              clear hdep hold
              go_simp
              exact hK _ _ (Below.refl _ _) rfl
            · refine MidOk.grow ?_ (by decide) rfl
              intro val a w9 hb9 hdep hold K hK
              have b1 : a.tmps[39]?.getD undef = .pointer (some ⟨ba, oa + k * 3, none⟩) := ev_tmps ((hdep 4 39 _ rfl rfl rfl).1.trans (hdep 4 39 _ rfl rfl rfl).2)
              have p0 : w9.cell? ⟨ba, oa + k * 3, none⟩ = some (.int .u8 ek) := (hb9.cell (p := ⟨ba, oa + k * 3, none⟩) hal).trans a1
              have p1 : w9.cell? ⟨ba, oa + k * 3 + 1, none⟩ = some (.int .i64 eu) := (hb9.cell (p := ⟨ba, oa + k * 3 + 1, none⟩) hal).trans a2
              have p2 : w9.cell? ⟨ba, oa + k * 3 + 2, none⟩ = some (.int .i64 eb) := (hb9.cell (p := ⟨ba, oa + k * 3 + 2, none⟩) hal).trans a3
              have pl : ba < w9.heap.size := Nat.lt_of_lt_of_le hal hb9.size
              clear hdep hold
              go_simp
              exact hK _ _ (Below.refl _ _) rfl
            · refine MidOk.grow ?_ (by decide) rfl
              intro val a w9 hb9 hdep hold K hK
              have b1 := (hdep 0 35 _ rfl rfl rfl).1.trans (hdep 0 35 _ rfl rfl rfl).2
              have b2 := (hdep 1 36 _ rfl rfl rfl).1.trans (hdep 1 36 _ rfl rfl rfl).2
              have b3 := (hdep 5 40 _ rfl rfl rfl).1.trans (hdep 5 40 _ rfl rfl rfl).2
              refine grow_call (vs := #[.agg #[.slice X xs.length cx, .slice Y ys.length cy, .int .i64 (M : Int), .int .i64 (S : Int)], .agg #[.slice S6 (SM d).s.length x1, .slice N6 (SM d).n.length x2, .slice G6 (SM d).g.length x3, .slice D6 d.length x4, .slice T6 t.length x5], .agg #[.int .u8 ek, .int .i64 eu, .int .i64 eb]]) rfl rfl (by simp [b1, b2, b3]) Try.call52 ((HSk.out w9 (hxr.keep hb9) (hyr.keep hb9) (rw6.keep hb9)).mono ?_)
              rintro e w' ⟨S7, N7, G7, D7, T7, u1, u2, u3, u4, u5, rfl, rw7, hb7⟩
              exact ⟨_, rfl, hK _ _ hb7 ⟨S7, N7, G7, D7, T7, u1, u2, u3, u4, u5, rfl, rw7⟩⟩
            · refine MidOk.grow ?_ (by decide) rfl
              intro val a w9 hb9 hdep hold K hK
              obtain ⟨b1, S7, N7, G7, D7, T7, u1, u2, u3, u4, u5, h1, rw7⟩ := hdep 6 41 _ rfl rfl rfl
              replace b1 := ev_tmps (b1.trans h1)
              clear hdep hold h1
              go_simp
              exact hK _ _ (Below.refl _ _) ⟨S7, N7, G7, D7, T7, u1, u2, u3, u4, u5, rfl, rw7⟩
            · refine MidOk.grow ?_ (by decide) rfl
              intro val a w9 hb9 hdep hold K hK
              obtain ⟨b1, S7, N7, G7, D7, T7, u1, u2, u3, u4, u5, h1, rw7⟩ := hdep 7 34 _ rfl rfl rfl
              replace b1 := ev_tmps (b1.trans h1)
              clear hdep hold h1
              go_simp
              exact hK _ _ (Below.refl _ _) ⟨S7, N7, G7, D7, T7, u1, u2, u3, u4, u5, rfl, rw7⟩
            · refine MidOk.both ?_ ?_ (by decide)
              · intro val a w9 hb9 hdep hold K hK
                obtain ⟨b1, S7, N7, G7, D7, T7, u1, u2, u3, u4, u5, h1, rw7⟩ := hdep 7 34 _ rfl rfl rfl
                replace b1 := ev_tmps (b1.trans h1)
                clear hdep hold h1
                go_simp
                exact hK _ _ (Below.refl _ _) rfl
              · intro val a w9 hdep hold K hK
                obtain ⟨b1, y9, h1⟩ := hdep 7 34 _ rfl rfl rfl
                replace b1 := ev_tmps (b1.trans h1)
                clear hdep hold h1
                go_simp
                exact hK _ rfl
            · refine MidOk.grow ?_ (by decide) rfl
              intro val a w9 hb9 hdep hold K hK
              have hs9 := hb9.size
              clear hdep hold
              go_simp
              exact hK _ _ (balloc (Below.refl _ _) _) ⟨_, rfl, hs9, Blk.new _ _ _⟩
            · refine MidOk.store ?_ rfl
              intro val a w9 hb9 hall hdep hold K hK
              obtain ⟨g, h2, hg, hkG⟩ := hall 10 (by decide) (by decide) rfl
              obtain ⟨S7, N7, G7, D7, T7, u1, u2, u3, u4, u5, h1, rw7⟩ := hall 8 (by decide) (by decide) rfl
              simp only at hg h1 rw7
              have b1 := ev_tmps ((hdep 10 12 _ rfl rfl (by decide) rfl).trans h2)
              have b2 := ev_tmps ((hdep 8 42 _ rfl rfl (by decide) rfl).trans h1)
              have hFa := hK undef
              clear hall hdep hold hK h1
              have q0 : World.cell? w9 ⟨g, 0, none⟩ = some (.slice none 0 0) := hkG.cell 0
              have f0 := hkG.frozen 0
              have q1 : World.cell? w9 ⟨g, 1, none⟩ = some (.slice none 0 0) := hkG.cell 1
              have f1 := hkG.frozen 1
              have q2 : World.cell? w9 ⟨g, 2, none⟩ = some (.slice none 0 0) := hkG.cell 2
              have f2 := hkG.frozen 2
              have q3 : World.cell? w9 ⟨g, 3, none⟩ = some (.slice none 0 0) := hkG.cell 3
              have f3 := hkG.frozen 3
              have q4 : World.cell? w9 ⟨g, 4, none⟩ = some (.slice none 0 0) := hkG.cell 4
              have f4 := hkG.frozen 4
              have fl := hkG.lt
              go_simp
              refine hFa _ ⟨g, S7, N7, G7, D7, T7, u1, u2, u3, u4, u5, by rw [upd_ne _ (by decide)]; exact h2, hg, (rw7.put5 hkG).2, (rw7.put5 hkG).1, ((((hb9.setCell (p := ⟨g, 0, none⟩) hg _).setCell (p := ⟨g, 1, none⟩) hg _).setCell (p := ⟨g, 2, none⟩) hg _).setCell (p := ⟨g, 3, none⟩) hg _).setCell (p := ⟨g, 4, none⟩) hg _⟩ trivial
            · refine MidOk.both ?_ ?_ (by decide)
              · intro val a w9 hb9 hdep hold K hK
                have b1 : a.tmps[43]?.getD undef = .int .i64 RES9.2 := ev_tmps ((hdep 9 43 _ rfl rfl rfl).1.trans (hdep 9 43 _ rfl rfl rfl).2)
                clear hdep hold
                go_simp
                exact hK _ _ (Below.refl _ _) rfl
              · intro val a w9 hdep hold K hK
                have b1 : a.tmps[43]?.getD undef = .int .i64 RES9.2 := ev_tmps ((hdep 9 43 _ rfl rfl rfl).1.trans (hdep 9 43 _ rfl rfl rfl).2)
                clear hdep hold
                go_simp
                exact hK _ rfl
            · rintro val w' ⟨g, S7, N7, G7, D7, T7, u1, u2, u3, u4, u5, h10, hg, hkG, rw7, hb7⟩ hP
              have h12 : val 12 = .int .i64 RES9.2 := hP 12 (by decide)
              clear hP
              simp only [putL, h10, h12]
              go_wp2_with fail
              go_meet
              exact ⟨g, S7, N7, G7, D7, T7, u1, u2, u3, u4, u5, rfl, rfl, hkG, rw7, hb7, hg⟩
          case rest =>
            obtain ⟨g7, S7, N7, G7, D7, T7, u1, u2, u3, u4, u5, rfl, rfl, hk17, rw7, hb7, hg7⟩ := hcut
            obtain ⟨w9, rfl⟩ : ∃ w9, w9 = wc := ⟨_, rfl⟩
            have hkV9 := hkV.keep hb7
            have hkR9 := hkR.keep hb7
            have rw69 := rw6.keep hb7
            have hB9 := bstep hBr hb7
            have hb19 := bstep hb hb7
            have hgne : ¬ g7 = w1.heap.size := by omega
            have hgne2 : ¬ w1.heap.size = g7 := by omega
            by_cases hqe : qe = 0
            · subst hqe
              obtain rfl : RES9 = (workS xs ys M S (d', t'), 0) := by rw [HRE.out, if_neg (by simp)]
              simp only [hWS] at hk17 rw7
              have hG2 : Good19 C d' t' := by
                have := HG.out d t ⟨ek, eu, eb⟩ hG (by rw [hq])
                rwa [hq] at this
              have HRN := Lib.hid (HRUN.out.trans (runL_step hq))
              clear HRUN hq HST HSk HRE
              have p0 : World.cell? w9 ⟨w1.heap.size, 0, none⟩ = some (.slice S6 (SM d).s.length x1) := hkV9.cell 0
              have g0 := hkV9.frozen 0
              have p1 : World.cell? w9 ⟨w1.heap.size, 1, none⟩ = some (.slice N6 (SM d).n.length x2) := hkV9.cell 1
              have g1 := hkV9.frozen 1
              have p2 : World.cell? w9 ⟨w1.heap.size, 2, none⟩ = some (.slice G6 (SM d).g.length x3) := hkV9.cell 2
              have g2 := hkV9.frozen 2
              have p3 : World.cell? w9 ⟨w1.heap.size, 3, none⟩ = some (.slice D6 d.length x4) := hkV9.cell 3
              have g3 := hkV9.frozen 3
              have p4 : World.cell? w9 ⟨w1.heap.size, 4, none⟩ = some (.slice T6 t.length x5) := hkV9.cell 4
              have g4 := hkV9.frozen 4
              have gl := hkV9.lt
              have q0 : World.cell? w9 ⟨g7, 0, none⟩ = some (.slice S7 (SM d').s.length u1) := hk17.cell 0
              have f0 := hk17.frozen 0
              have q1 : World.cell? w9 ⟨g7, 1, none⟩ = some (.slice N7 (SM d').n.length u2) := hk17.cell 1
              have f1 := hk17.frozen 1
              have q2 : World.cell? w9 ⟨g7, 2, none⟩ = some (.slice G7 (SM d').g.length u3) := hk17.cell 2
              have f2 := hk17.frozen 2
              have q3 : World.cell? w9 ⟨g7, 3, none⟩ = some (.slice D7 d'.length u4) := hk17.cell 3
              have f3 := hk17.frozen 3
              have q4 : World.cell? w9 ⟨g7, 4, none⟩ = some (.slice T7 t'.length u5) := hk17.cell 4
              have f4 := hk17.frozen 4
              have fl := hk17.lt
              go_wp2
              go_roundg (gk - 1)
              case rel => exact ⟨k + 1, d', t', S7, N7, G7, D7, T7, u1, u2, u3, u4, u5, by have := HK.out; omega, by go_num, HRN, hG2, (rw7.put5 hkV9).2, (rw7.put5 hkV9).1, ((((hb19.setCell (p := ⟨w1.heap.size, 0, none⟩) (Nat.le_refl _) _).setCell (p := ⟨w1.heap.size, 1, none⟩) (Nat.le_refl _) _).setCell (p := ⟨w1.heap.size, 2, none⟩) (Nat.le_refl _) _).setCell (p := ⟨w1.heap.size, 3, none⟩) (Nat.le_refl _) _).setCell (p := ⟨w1.heap.size, 4, none⟩) (Nat.le_refl _) _⟩
              case measure => have := HK.out; omega
            · have hqe' : (qe != 0) = true := by simp [hqe]
              obtain rfl : RES9 = (Work.none, qe) := by rw [HRE.out, if_pos (by simpa using hqe)]
              have HRN := Lib.hid (HRUN.out.trans (runL_stop hq hqe))
              have HFF := Lib.hid (show RES = ((⟨SM d, d, t⟩, (k : Int)), qe) by rw [HF.out, HRN.out]; simp only [hWS])
              clear HRUN hq HST HF HRN hqe HG HRE HSk
              have p0 : World.cell? w9 ⟨w1.heap.size, 0, none⟩ = some (.slice S6 (SM d).s.length x1) := hkV9.cell 0
              have g0 := hkV9.frozen 0
              have p1 : World.cell? w9 ⟨w1.heap.size, 1, none⟩ = some (.slice N6 (SM d).n.length x2) := hkV9.cell 1
              have g1 := hkV9.frozen 1
              have p2 : World.cell? w9 ⟨w1.heap.size, 2, none⟩ = some (.slice G6 (SM d).g.length x3) := hkV9.cell 2
              have g2 := hkV9.frozen 2
              have p3 : World.cell? w9 ⟨w1.heap.size, 3, none⟩ = some (.slice D6 d.length x4) := hkV9.cell 3
              have g3 := hkV9.frozen 3
              have p4 : World.cell? w9 ⟨w1.heap.size, 4, none⟩ = some (.slice T6 t.length x5) := hkV9.cell 4
              have g4 := hkV9.frozen 4
              have gl := hkV9.lt
              have q0 : World.cell? w9 ⟨(w.heap.size + 1), 0, none⟩ = some (.slice none 0 0) := hkR9.cell 0
              have f0 := hkR9.frozen 0
              have q1 : World.cell? w9 ⟨(w.heap.size + 1), 1, none⟩ = some (.slice none 0 0) := hkR9.cell 1
              have f1 := hkR9.frozen 1
              have q2 : World.cell? w9 ⟨(w.heap.size + 1), 2, none⟩ = some (.slice none 0 0) := hkR9.cell 2
              have f2 := hkR9.frozen 2
              have q3 : World.cell? w9 ⟨(w.heap.size + 1), 3, none⟩ = some (.slice none 0 0) := hkR9.cell 3
              have f3 := hkR9.frozen 3
              have q4 : World.cell? w9 ⟨(w.heap.size + 1), 4, none⟩ = some (.slice none 0 0) := hkR9.cell 4
              have f4 := hkR9.frozen 4
              have fl := hkR9.lt
              go_wp2
              refine bodyPost_ret (v := .tuple #[.agg #[.slice S6 (SM d).s.length x1, .slice N6 (SM d).n.length x2, .slice G6 (SM d).g.length x3, .slice D6 d.length x4, .slice T6 t.length x5], .int .i64 (k : Int), .int .i64 qe]) (by simp [results, Try.results25, go_sem, q0, q1, q2, q3, q4, f0, f1, f2, f3, f4, fl, p0, p1, p2, p3, p4]) rfl ?_
              exact run_fin HFF.out rw69 hkR9 hB9 (by omega)
        · have hkl : k = l.length := by omega
          have hrun2 := hrun.out
          rw [hkl, List.drop_length] at hrun2
          have HFF := Lib.hid (show RES = ((⟨SM d, d, t⟩, (l.length : Int)), 0) by rw [HF.out, hrun2]; simp only [runL, hWS])
          clear hrun hrun2 HF HS HST HG
          have p0 : World.cell? wr ⟨w1.heap.size, 0, none⟩ = some (.slice S6 (SM d).s.length x1) := hkV.cell 0
          have g0 := hkV.frozen 0
          have p1 : World.cell? wr ⟨w1.heap.size, 1, none⟩ = some (.slice N6 (SM d).n.length x2) := hkV.cell 1
          have g1 := hkV.frozen 1
          have p2 : World.cell? wr ⟨w1.heap.size, 2, none⟩ = some (.slice G6 (SM d).g.length x3) := hkV.cell 2
          have g2 := hkV.frozen 2
          have p3 : World.cell? wr ⟨w1.heap.size, 3, none⟩ = some (.slice D6 d.length x4) := hkV.cell 3
          have g3 := hkV.frozen 3
          have p4 : World.cell? wr ⟨w1.heap.size, 4, none⟩ = some (.slice T6 t.length x5) := hkV.cell 4
          have g4 := hkV.frozen 4
          have gl := hkV.lt
          have q0 : World.cell? wr ⟨(w.heap.size + 1), 0, none⟩ = some (.slice none 0 0) := hkR.cell 0
          have f0 := hkR.frozen 0
          have q1 : World.cell? wr ⟨(w.heap.size + 1), 1, none⟩ = some (.slice none 0 0) := hkR.cell 1
          have f1 := hkR.frozen 1
          have q2 : World.cell? wr ⟨(w.heap.size + 1), 2, none⟩ = some (.slice none 0 0) := hkR.cell 2
          have f2 := hkR.frozen 2
          have q3 : World.cell? wr ⟨(w.heap.size + 1), 3, none⟩ = some (.slice none 0 0) := hkR.cell 3
          have f3 := hkR.frozen 3
          have q4 : World.cell? wr ⟨(w.heap.size + 1), 4, none⟩ = some (.slice none 0 0) := hkR.cell 4
          have f4 := hkR.frozen 4
          have fl := hkR.lt
          go_wp2
          refine bodyPost_ret (v := .tuple #[.agg #[.slice S6 (SM d).s.length x1, .slice N6 (SM d).n.length x2, .slice G6 (SM d).g.length x3, .slice D6 d.length x4, .slice T6 t.length x5], .int .i64 (l.length : Int), .int .i64 0]) (by simp [results, Try.results25, go_sem, q0, q1, q2, q3, q4, f0, f1, f2, f3, f4, fl, p0, p1, p2, p3, p4]) rfl ?_
          exact run_fin HFF.out rw6 hkR hBr (by omega)
  · have e1 : ((openS xs ys m s n).2 != 0) = true := by simp [he]
    have HR : Hid (runS xs ys m s n l = ((.none, 0), (openS xs ys m s n).2)) := Lib.hid (by unfold runS; rw [if_pos he])
    rw [openS_bad he] at HO
    generalize (openS xs ys m s n).2 = E at *
    clear he
    go_enter Try.func25, Try.ntmps25
    go_wp2_with fail
    rw [← hwE]
    clear hwE
    have j0 : World.cell? wE ⟨w.heap.size, 0, none⟩ = some (.slice X xs.length cx) := hk1.cell 0
    have jf0 := hk1.frozen 0
    have j1 : World.cell? wE ⟨w.heap.size, 1, none⟩ = some (.slice Y ys.length cy) := hk1.cell 1
    have jf1 := hk1.frozen 1
    have j2 : World.cell? wE ⟨w.heap.size, 2, none⟩ = some (.int .i64 m) := hk1.cell 2
    have jf2 := hk1.frozen 2
    have j3 : World.cell? wE ⟨w.heap.size, 3, none⟩ = some (.int .i64 s) := hk1.cell 3
    have jf3 := hk1.frozen 3
    have jfl := hk1.lt
    go_wp2_with fail
    refine (HO.out _ hxE hyE).mono ?_
    rintro _ w1 ⟨S1, N1, G1, D1, T1, c1, c2, c3, c4, c5, rfl, rv, hb1⟩
    clear j0 j1 j2 j3 jf0 jf1 jf2 jf3 jfl
    have hB1 := bstep hbE hb1
    have hs1 := hb1.size
    replace hk1 := hk1.keep hb1
    replace hk2 := hk2.keep hb1
    have q0 : World.cell? w1 ⟨(w.heap.size + 1), 0, none⟩ = some (.slice none 0 0) := hk2.cell 0
    have f0 := hk2.frozen 0
    have q1 : World.cell? w1 ⟨(w.heap.size + 1), 1, none⟩ = some (.slice none 0 0) := hk2.cell 1
    have f1 := hk2.frozen 1
    have q2 : World.cell? w1 ⟨(w.heap.size + 1), 2, none⟩ = some (.slice none 0 0) := hk2.cell 2
    have f2 := hk2.frozen 2
    have q3 : World.cell? w1 ⟨(w.heap.size + 1), 3, none⟩ = some (.slice none 0 0) := hk2.cell 3
    have f3 := hk2.frozen 3
    have q4 : World.cell? w1 ⟨(w.heap.size + 1), 4, none⟩ = some (.slice none 0 0) := hk2.cell 4
    have f4 := hk2.frozen 4
    have fl := hk2.lt
    go_wp2
    refine bodyPost_ret (v := .tuple #[.agg #[.slice none 0 0, .slice none 0 0, .slice none 0 0, .slice none 0 0, .slice none 0 0], .int .i64 0, .int .i64 E]) (by simp [results, Try.results25, go_sem, q0, q1, q2, q3, q4, f0, f1, f2, f3, f4, fl]) rfl ?_
    exact (run_fin (c1 := 0) (c2 := 0) (c3 := 0) (c4 := 0) (c5 := 0) HR.out RW.none hk2 hB1 (by omega)).alloc _
end Wk
end Go.Proofs.Ytdekbncpodjgnaa
namespace Go.Proofs.Ytdekbncpodjgnaa
open Go.RowKit Runs Lagc Reg
set_option linter.unusedVariables false
set_option linter.unusedSimpArgs false
namespace Wk
open Lagw

set_option maxRecDepth 20000 in
set_option maxHeartbeats 4000000 in
theorem refResult_any (X Y S1 N1 G1 D T : Option Addr) (cx cy c1 c2 c3 c4 c5 : Nat) (xs ys : List Int) (m s : Int) (r : Work) (w : World) (hx : RI .i64 w X xs) (hy : RI .i64 w Y ys) (hl : xs.length ≤ 1000000) (hl2 : ys.length ≤ 1000000) (hr : RW w S1 N1 G1 D T r) (l1 : r.a.s.length ≤ 1000000) (l2 : r.a.n.length ≤ 1000000) (l3 : r.a.g.length ≤ 1000000) (l4 : r.d.length ≤ 1000000) (l5 : r.t.length ≤ 1000000) :
    Calls Try.prog 27 #[.agg #[.slice X xs.length cx, .slice Y ys.length cy, .int .i64 m, .int .i64 s], .agg #[.slice S1 r.a.s.length c1, .slice N1 r.a.n.length c2, .slice G1 r.a.g.length c3, .slice D r.d.length c4, .slice T r.t.length c5]] w (RetQ 75 w (resS xs ys m s r)) := by
  have HK := Lib.hid (fun w hx hy => refCheckJ_any X Y cx cy xs ys m s w hx hy (by omega) (by omega))
  by_cases he : jobErr xs ys m s = 0
  · obtain ⟨_, _, M, S, rfl, rfl, _⟩ := jobErr_zero he
    have hj := Job.of he
    have HST := Lib.hid (fun w hx hy hr => state_any hj X Y S1 N1 G1 D T cx cy c1 c2 c3 c4 c5 r w hx hy hr l1 l2 l3 l4 l5)
    obtain ⟨wE, hwE⟩ : ∃ wE, wE = (w.alloc (.cells #[.slice X xs.length cx, .slice Y ys.length cy, .int .i64 (M : Int), .int .i64 (S : Int)] 24)).alloc (.cells #[.slice S1 r.a.s.length c1, .slice N1 r.a.n.length c2, .slice G1 r.a.g.length c3, .slice D r.d.length c4, .slice T r.t.length c5] 42) := ⟨_, rfl⟩
    have hk1 : Blk wE w.heap.size 24 #[.slice X xs.length cx, .slice Y ys.length cy, .int .i64 (M : Int), .int .i64 (S : Int)] := by rw [hwE]; exact (Blk.new _ _ _).alloc _
    have hk2 : Blk wE (w.heap.size + 1) 42 #[.slice S1 r.a.s.length c1, .slice N1 r.a.n.length c2, .slice G1 r.a.g.length c3, .slice D r.d.length c4, .slice T r.t.length c5] := by rw [hwE]; exact Blk.newAt _ _ (by simp)
    have hbE : Below w.heap.size w wE := by rw [hwE]; exact balloc (balloc (Below.refl _ _) _) _
    have hsE : wE.heap.size = w.heap.size + 2 := by rw [hwE]; simp
    have hxE := hx.keep hbE
    have hyE := hy.keep hbE
    have hrE := hr.keep hbE
    cases hb : stateB xs ys M S r
    · have HR : Hid (resS xs ys M S r = ([], 8)) := Lib.hid (by unfold resS; rw [stateErr_no he hb, if_pos (by decide)])
      rw [he] at HK
      rw [hb] at HST
      clear he hb hj
      go_enter Try.func27, Try.ntmps27
      go_wp2_with fail
      rw [← hwE]
      clear hwE
      have q0 : World.cell? wE ⟨w.heap.size, 0, none⟩ = some (.slice X xs.length cx) := hk1.cell 0
      have f0 := hk1.frozen 0
      have q1 : World.cell? wE ⟨w.heap.size, 1, none⟩ = some (.slice Y ys.length cy) := hk1.cell 1
      have f1 := hk1.frozen 1
      have q2 : World.cell? wE ⟨w.heap.size, 2, none⟩ = some (.int .i64 (M : Int)) := hk1.cell 2
      have f2 := hk1.frozen 2
      have q3 : World.cell? wE ⟨w.heap.size, 3, none⟩ = some (.int .i64 (S : Int)) := hk1.cell 3
      have f3 := hk1.frozen 3
      have fl := hk1.lt
      go_wp2_with fail
      refine (HK.out _ hxE hyE).mono ?_
      rintro _ w1 ⟨rfl, hb1⟩
      clear q0 q1 q2 q3 f0 f1 f2 f3 fl
      have hB1 := bstep hbE hb1
      replace hk1 := hk1.keep hb1
      replace hk2 := hk2.keep hb1
      replace hxE := hxE.keep hb1
      replace hyE := hyE.keep hb1
      replace hrE := hrE.keep hb1
      have q0 : World.cell? w1 ⟨w.heap.size, 0, none⟩ = some (.slice X xs.length cx) := hk1.cell 0
      have f0 := hk1.frozen 0
      have q1 : World.cell? w1 ⟨w.heap.size, 1, none⟩ = some (.slice Y ys.length cy) := hk1.cell 1
      have f1 := hk1.frozen 1
      have q2 : World.cell? w1 ⟨w.heap.size, 2, none⟩ = some (.int .i64 (M : Int)) := hk1.cell 2
      have f2 := hk1.frozen 2
      have q3 : World.cell? w1 ⟨w.heap.size, 3, none⟩ = some (.int .i64 (S : Int)) := hk1.cell 3
      have f3 := hk1.frozen 3
      have fl := hk1.lt
      have p0 : World.cell? w1 ⟨(w.heap.size + 1), 0, none⟩ = some (.slice S1 r.a.s.length c1) := hk2.cell 0
      have g0 := hk2.frozen 0
      have p1 : World.cell? w1 ⟨(w.heap.size + 1), 1, none⟩ = some (.slice N1 r.a.n.length c2) := hk2.cell 1
      have g1 := hk2.frozen 1
      have p2 : World.cell? w1 ⟨(w.heap.size + 1), 2, none⟩ = some (.slice G1 r.a.g.length c3) := hk2.cell 2
      have g2 := hk2.frozen 2
      have p3 : World.cell? w1 ⟨(w.heap.size + 1), 3, none⟩ = some (.slice D r.d.length c4) := hk2.cell 3
      have g3 := hk2.frozen 3
      have p4 : World.cell? w1 ⟨(w.heap.size + 1), 4, none⟩ = some (.slice T r.t.length c5) := hk2.cell 4
      have g4 := hk2.frozen 4
      have gl := hk2.lt
      go_wp2_with fail
      refine (HST.out _ hxE hyE hrE).mono ?_
      rintro _ w2 ⟨rfl, hb2⟩
      have hB2 := bstep hB1 hb2
      go_wp2
      go_ret2
      exact RetQ.nil HR.out hB2
    · have HR0 := stateErr_ok he hb
      obtain ⟨_, _, _, _, hj', hG, ha⟩ := stateErr_zero HR0
      rename_i M' S' e1 e2
      cases Int.ofNat.inj e1
      cases Int.ofNat.inj e2
      have hIs := sumA_is hj hG.d
      rw [← ha] at hIs
      have hf := hIs.fine
      have hlen := hIs.len
      have HLN := Lib.hid (show r.a.n.length = r.a.s.length by have := hf.ln; omega)
      have hM := hj.m
      have HR22 := Lib.hid (fun (h : r.d.all id = false) => show resS xs ys M S r = ([], 22) by unfold resS; rw [if_neg (by simp [HR0]), if_neg (by simp [h])])
      have HRZ := Lib.hid (fun (h : r.d.all id = true) => show resS xs ys M S r = (fullL (cellF r.a) (2 * M + 1), 0) by unfold resS; rw [if_neg (by simp [HR0]), if_pos h, Int.toNat_natCast])
      rw [← hlen] at HRZ
      have HOS := Lib.hid (fun k hk => fine_okS hf _ (getD_mem (l := r.a.s) (d := (0, 0)) (k := k) hk))
      have HON := Lib.hid (fun k hk => fine_okN hf _ (getD_mem (l := r.a.n) (d := (0, 0)) (k := k) hk))
      have HCF : Hid (∀ k, cellF r.a k = (val (r.a.s.getD k (0, 0)), val (r.a.n.getD k (0, 0)))) := Lib.hid (fun k => rfl)
      obtain ⟨i0, hi0, hz0, hz1, hz2⟩ := info_parts info_lag
      have HSUC := Lib.hid (fun k => fullL_succ (cellF r.a) k)
      have HFL := Lib.hid (fullL_len (cellF r.a) r.a.s.length)
      rw [he] at HK
      rw [hb] at HST
      have hdC := hj.c
      have hl256 : r.a.s.length ≤ 1000 := by omega
      generalize cellF r.a = F at *
      generalize resS xs ys M S r = RES at *
      clear hIs hf ha hG he hb HR0 hj' hlen
      clear hj hdC
      go_enter Try.func27, Try.ntmps27
      go_wp2_with fail
      rw [← hwE]
      clear hwE
      have q0 : World.cell? wE ⟨w.heap.size, 0, none⟩ = some (.slice X xs.length cx) := hk1.cell 0
      have f0 := hk1.frozen 0
      have q1 : World.cell? wE ⟨w.heap.size, 1, none⟩ = some (.slice Y ys.length cy) := hk1.cell 1
      have f1 := hk1.frozen 1
      have q2 : World.cell? wE ⟨w.heap.size, 2, none⟩ = some (.int .i64 (M : Int)) := hk1.cell 2
      have f2 := hk1.frozen 2
      have q3 : World.cell? wE ⟨w.heap.size, 3, none⟩ = some (.int .i64 (S : Int)) := hk1.cell 3
      have f3 := hk1.frozen 3
      have fl := hk1.lt
      go_wp2_with fail
      refine (HK.out _ hxE hyE).mono ?_
      rintro _ w1 ⟨rfl, hb1⟩
      clear q0 q1 q2 q3 f0 f1 f2 f3 fl
      have hB1 := bstep hbE hb1
      replace hk1 := hk1.keep hb1
      replace hk2 := hk2.keep hb1
      replace hxE := hxE.keep hb1
      replace hyE := hyE.keep hb1
      replace hrE := hrE.keep hb1
      have q0 : World.cell? w1 ⟨w.heap.size, 0, none⟩ = some (.slice X xs.length cx) := hk1.cell 0
      have f0 := hk1.frozen 0
      have q1 : World.cell? w1 ⟨w.heap.size, 1, none⟩ = some (.slice Y ys.length cy) := hk1.cell 1
      have f1 := hk1.frozen 1
      have q2 : World.cell? w1 ⟨w.heap.size, 2, none⟩ = some (.int .i64 (M : Int)) := hk1.cell 2
      have f2 := hk1.frozen 2
      have q3 : World.cell? w1 ⟨w.heap.size, 3, none⟩ = some (.int .i64 (S : Int)) := hk1.cell 3
      have f3 := hk1.frozen 3
      have fl := hk1.lt
      have p0 : World.cell? w1 ⟨(w.heap.size + 1), 0, none⟩ = some (.slice S1 r.a.s.length c1) := hk2.cell 0
      have g0 := hk2.frozen 0
      have p1 : World.cell? w1 ⟨(w.heap.size + 1), 1, none⟩ = some (.slice N1 r.a.n.length c2) := hk2.cell 1
      have g1 := hk2.frozen 1
      have p2 : World.cell? w1 ⟨(w.heap.size + 1), 2, none⟩ = some (.slice G1 r.a.g.length c3) := hk2.cell 2
      have g2 := hk2.frozen 2
      have p3 : World.cell? w1 ⟨(w.heap.size + 1), 3, none⟩ = some (.slice D r.d.length c4) := hk2.cell 3
      have g3 := hk2.frozen 3
      have p4 : World.cell? w1 ⟨(w.heap.size + 1), 4, none⟩ = some (.slice T r.t.length c5) := hk2.cell 4
      have g4 := hk2.frozen 4
      have gl := hk2.lt
      go_wp2_with fail
      refine (HST.out _ hxE hyE hrE).mono ?_
      rintro _ w2 ⟨rfl, hb2⟩
      have hB2 := bstep hB1 hb2
      clear q0 q1 q2 q3 f0 f1 f2 f3 fl
      clear p0 p1 p2 p3 p4 g0 g1 g2 g3 g4 gl
      replace hk1 := hk1.keep hb2
      replace hk2 := hk2.keep hb2
      replace hrE := hrE.keep hb2
      have p0 : World.cell? w2 ⟨(w.heap.size + 1), 0, none⟩ = some (.slice S1 r.a.s.length c1) := hk2.cell 0
      have g0 := hk2.frozen 0
      have p1 : World.cell? w2 ⟨(w.heap.size + 1), 1, none⟩ = some (.slice N1 r.a.n.length c2) := hk2.cell 1
      have g1 := hk2.frozen 1
      have p2 : World.cell? w2 ⟨(w.heap.size + 1), 2, none⟩ = some (.slice G1 r.a.g.length c3) := hk2.cell 2
      have g2 := hk2.frozen 2
      have p3 : World.cell? w2 ⟨(w.heap.size + 1), 3, none⟩ = some (.slice D r.d.length c4) := hk2.cell 3
      have g3 := hk2.frozen 3
      have p4 : World.cell? w2 ⟨(w.heap.size + 1), 4, none⟩ = some (.slice T r.t.length c5) := hk2.cell 4
      have g4 := hk2.frozen 4
      have gl := hk2.lt
      go_wp2
      go_loopg [6] r.d.length (fun gk i wr => ∃ k : Nat, k + gk = r.d.length ∧ i = .int .i64 k ∧ w2 = wr ∧ Hid (∀ j, j < k → r.d.getD j false = true))
      case atStart => exact ⟨0, by omega, rfl, rfl, Lib.hid (by intro j hj; omega)⟩
      case round =>
        obtain ⟨k, hk, rfl, rfl, hall⟩ := hrel
        have hk' : k ≤ r.d.length := by omega
        have HK2 := Lib.hid hk
        clear hk HK HST
        by_cases hlt : k < r.d.length
        · obtain ⟨bd, od, hDe, hdl, hdc⟩ := hrE.d (by omega)
          have hdk := hdc k hlt
          have HNX := Lib.hid (fun h => all_lt_succ (p := fun j => r.d.getD j false = true) hall.out h)
          have HNO := Lib.hid (fun h => HR22.out (all_no hlt h))
          clear hdc
          subst hDe
          generalize r.d.getD k false = x at *
          cases x
          · have HRR := Lib.hid (HNO.out (by trivial))
            go_wp2
            go_ret2
            exact RetQ.nil HRR.out hB2
          · have HX := Lib.hid (HNX.out (by trivial))
            go_wp2
            go_roundg (gk - 1)
            case rel => exact ⟨k + 1, by have := HK2.out; omega, by go_num, rfl, HX⟩
            case measure => have := HK2.out; omega
        · have hat := all_yes (d := r.d) (fun j hj => hall.out j (by omega))
          have HRES := Lib.hid (HRZ.out hat)
          clear hall HRZ HR22 hat HK2
          obtain ⟨wz, rfl⟩ : ∃ wz, wz = w2 := ⟨_, rfl⟩
          go_wp2
          go_loopg [7, 8] r.a.s.length (fun gk v i wr => ∃ k : Nat, k + gk = r.a.s.length ∧ i = .int .i64 k ∧ wr.ownsRow wz.heap.size 75 2 v k ((fullL F k).flatMap encP) ∧ Below wz.heap.size wz wr)
          case atStart => exact ⟨0, by omega, rfl, by rw [fullL_zero]; exact World.ownsRow_nil _ _ _ _, Below.refl _ _⟩
          case round =>
            obtain ⟨k, hk, rfl, hO, hb⟩ := hrel
            have hk' : k ≤ r.a.s.length := by omega
            have HK2 := Lib.hid hk
            clear hk
            have hkW := hk2.keep hb
            have hrr := hrE.keep hb
            have hsz := hb.size
            clear p0 p1 p2 p3 p4 g0 g1 g2 g3 g4 gl
            have p0 : World.cell? wr ⟨(w.heap.size + 1), 0, none⟩ = some (.slice S1 r.a.s.length c1) := hkW.cell 0
            have g0 := hkW.frozen 0
            have p1 : World.cell? wr ⟨(w.heap.size + 1), 1, none⟩ = some (.slice N1 r.a.n.length c2) := hkW.cell 1
            have g1 := hkW.frozen 1
            have p2 : World.cell? wr ⟨(w.heap.size + 1), 2, none⟩ = some (.slice G1 r.a.g.length c3) := hkW.cell 2
            have g2 := hkW.frozen 2
            have p3 : World.cell? wr ⟨(w.heap.size + 1), 3, none⟩ = some (.slice D r.d.length c4) := hkW.cell 3
            have g3 := hkW.frozen 3
            have p4 : World.cell? wr ⟨(w.heap.size + 1), 4, none⟩ = some (.slice T r.t.length c5) := hkW.cell 4
            have g4 := hkW.frozen 4
            have gl := hkW.lt
            by_cases hlt : k < r.a.s.length
            · have hlt2 : k < r.a.n.length := by have := HLN.out; omega
              have okS := HOS.out k hlt
              have okN := HON.out k hlt2
              have hS := HSUC.out k
              have HS := Lib.hid hS
              have HF := Lib.hid (HCF.out k)
              obtain ⟨b1, off1, rfl, hl1, hc1, hd1⟩ := hrE.a.s.at_ hlt
              obtain ⟨b2, off2, rfl, hl2', hc2, hd2⟩ := hrE.a.n.at_ hlt2
              clear hS
              generalize r.a.s.getD k (0, 0) = x at *
              generalize r.a.n.getD k (0, 0) = y at *
              have kI1 : (k : Int) < (r.a.s.length : Int) := by omega
              have kI2 : (k : Int) < (r.a.n.length : Int) := by have := HLN.out; omega
              have HH : Hid (∀ W, Below wz.heap.size wz W → (W.cell? ⟨w.heap.size + 1, 0, none⟩ = some (.slice (some ⟨b1, off1, none⟩) r.a.s.length c1) ∧ W.cell? ⟨w.heap.size + 1, 1, none⟩ = some (.slice (some ⟨b2, off2, none⟩) r.a.n.length c2)) ∧ (W.cell? ⟨b1, off1 + k * 2, none⟩ = some (.int .i64 x.1) ∧ W.cell? ⟨b1, off1 + k * 2 + 1, none⟩ = some (.int .i64 x.2)) ∧ (W.cell? ⟨b2, off2 + k * 2, none⟩ = some (.int .i64 y.1) ∧ W.cell? ⟨b2, off2 + k * 2 + 1, none⟩ = some (.int .i64 y.2))) := Lib.hid (fun W hW => ⟨⟨(hk2.keep hW).cell 0, (hk2.keep hW).cell 1⟩, ⟨(hW.cell (p := ⟨b1, _, none⟩) hl1).trans hc1, (hW.cell (p := ⟨b1, _, none⟩) hl1).trans hd1⟩, (hW.cell (p := ⟨b2, _, none⟩) hl2').trans hc2, (hW.cell (p := ⟨b2, _, none⟩) hl2').trans hd2⟩)
              go_wp2
              have hfk : F k = (val x, val y) := HF.out
              have HFK := Lib.hid hfk
              clear hfk
              go_region_held3 (fun W => (W.cell? ⟨w.heap.size + 1, 0, none⟩ = some (.slice (some ⟨b1, off1, none⟩) r.a.s.length c1) ∧ W.cell? ⟨w.heap.size + 1, 1, none⟩ = some (.slice (some ⟨b2, off2, none⟩) r.a.n.length c2)) ∧ (W.cell? ⟨b1, off1 + k * 2, none⟩ = some (.int .i64 x.1) ∧ W.cell? ⟨b1, off1 + k * 2 + 1, none⟩ = some (.int .i64 x.2)) ∧ (W.cell? ⟨b2, off2 + k * 2, none⟩ = some (.int .i64 y.1) ∧ W.cell? ⟨b2, off2 + k * 2 + 1, none⟩ = some (.int .i64 y.2)))
                (first | exact HH.out _ hb | exact HH.out _ (Below.drew hb) | exact HH.out _ hb9 | exact HH.out _ hb8 | exact HH.out _ (balloc hb8 _) | exact HH.out _ hB4 | fail)
                ((first
                  | (go_at_call 54; (with_reducible refine (worth_any x wr.drew okS).mono ?_); rintro e w9 ⟨rfl, hb9'⟩; have hb9r : Below wr.heap.size wr w9 := bstep (Below.drew (Below.refl _ _)) hb9'; have hb9 : Below wz.heap.size wz w9 := bstep hb hb9r)
                  | (go_at_call 54; (with_reducible refine (worth_any y _ okN).mono ?_); rintro e w8 ⟨rfl, hb8'⟩; have hb8r : Below wr.heap.size wr w8 := bstep hb9r hb8'; have hb8 : Below wz.heap.size wz w8 := bstep hb hb8r; have hO8 := own_keep hO hb8r)
                  | (refine step_append_lies _ (by rfl) _ _ _ (by rfl) wz.heap.size 75 i0 _ 2 16 Try.underlying31 hi0 hz0 hz1 hz2 rfl (by omega) _ k ((fullL F k).flatMap encP) (by rfl) (by exact World.ownsRow.alloc hO8 _) ⟨w8.heap.size, 0, none⟩ 1 1 (encP (val x, val y)) (by rfl) (by rfl) (by exact encP_news w8 (val x, val y) _) (encP_one _) (by omega) (by unfold maxLen; omega) (by omega) (by have := hb8.size; simp; omega) (w8.heap.size + 1) (by simp) ?_; intro g4 c4' w4 hown4 hgrow4 hat4 hlt4; have hB4 := own_below (balloc hb8 (.cells #[.int .i64 (val x), .int .i64 (val y)] 75)) (World.ownsRow.alloc hO8 _) hgrow4 (Nat.le_refl _) (by have := hb8.size; simp; omega))
                  | fail))
              go_wp2
              go_roundg (gk - 1)
              case rel => exact ⟨k + 1, by have := HK2.out; omega, by go_num, by rw [HS.out, flat_snoc, HFK.out]; exact hown4, hB4⟩
              case measure => have := HK2.out; omega
            · obtain rfl : k = r.a.s.length := by omega
              obtain ⟨A1, k1, rfl, _⟩ := own_shape' hO
              go_wp2
              go_ret2
              rw [HRES.out]
              exact ⟨A1, k1, by rw [HFL.out]; rfl, by rw [HFL.out]; exact hO.mono (by have := hB2.size; exact this), bstep hB2 hb⟩
  · have e1 : (jobErr xs ys m s != 0) = true := by simp [he]
    have HR : Hid (resS xs ys m s r = ([], jobErr xs ys m s)) := Lib.hid (by unfold resS; rw [stateErr_job he, if_pos he])
    obtain ⟨wE, hwE⟩ : ∃ wE, wE = (w.alloc (.cells #[.slice X xs.length cx, .slice Y ys.length cy, .int .i64 m, .int .i64 s] 24)).alloc (.cells #[.slice S1 r.a.s.length c1, .slice N1 r.a.n.length c2, .slice G1 r.a.g.length c3, .slice D r.d.length c4, .slice T r.t.length c5] 42) := ⟨_, rfl⟩
    have hk1 : Blk wE w.heap.size 24 #[.slice X xs.length cx, .slice Y ys.length cy, .int .i64 m, .int .i64 s] := by rw [hwE]; exact (Blk.new _ _ _).alloc _
    have hk2 : Blk wE (w.heap.size + 1) 42 #[.slice S1 r.a.s.length c1, .slice N1 r.a.n.length c2, .slice G1 r.a.g.length c3, .slice D r.d.length c4, .slice T r.t.length c5] := by rw [hwE]; exact Blk.newAt _ _ (by simp)
    have hbE : Below w.heap.size w wE := by rw [hwE]; exact balloc (balloc (Below.refl _ _) _) _
    have hsE : wE.heap.size = w.heap.size + 2 := by rw [hwE]; simp
    have hxE := hx.keep hbE
    have hyE := hy.keep hbE
    have hrE := hr.keep hbE
    clear he
    generalize jobErr xs ys m s = E at *
    go_enter Try.func27, Try.ntmps27
    go_wp2_with fail
    rw [← hwE]
    clear hwE
    have q0 : World.cell? wE ⟨w.heap.size, 0, none⟩ = some (.slice X xs.length cx) := hk1.cell 0
    have f0 := hk1.frozen 0
    have q1 : World.cell? wE ⟨w.heap.size, 1, none⟩ = some (.slice Y ys.length cy) := hk1.cell 1
    have f1 := hk1.frozen 1
    have q2 : World.cell? wE ⟨w.heap.size, 2, none⟩ = some (.int .i64 m) := hk1.cell 2
    have f2 := hk1.frozen 2
    have q3 : World.cell? wE ⟨w.heap.size, 3, none⟩ = some (.int .i64 s) := hk1.cell 3
    have f3 := hk1.frozen 3
    have fl := hk1.lt
    go_wp2_with fail
    refine (HK.out _ hxE hyE).mono ?_
    rintro _ w1 ⟨rfl, hb1⟩
    clear q0 q1 q2 q3 f0 f1 f2 f3 fl
    have hB1 := bstep hbE hb1
    replace hk1 := hk1.keep hb1
    replace hk2 := hk2.keep hb1
    replace hxE := hxE.keep hb1
    replace hyE := hyE.keep hb1
    replace hrE := hrE.keep hb1
    have q0 : World.cell? w1 ⟨w.heap.size, 0, none⟩ = some (.slice X xs.length cx) := hk1.cell 0
    have f0 := hk1.frozen 0
    have q1 : World.cell? w1 ⟨w.heap.size, 1, none⟩ = some (.slice Y ys.length cy) := hk1.cell 1
    have f1 := hk1.frozen 1
    have q2 : World.cell? w1 ⟨w.heap.size, 2, none⟩ = some (.int .i64 m) := hk1.cell 2
    have f2 := hk1.frozen 2
    have q3 : World.cell? w1 ⟨w.heap.size, 3, none⟩ = some (.int .i64 s) := hk1.cell 3
    have f3 := hk1.frozen 3
    have fl := hk1.lt
    go_wp2_with fail
    refine (HK.out _ hxE hyE).mono ?_
    rintro _ w2 ⟨rfl, hb2⟩
    have hB2 := bstep hB1 hb2
    go_wp2
    go_ret2
    exact RetQ.nil HR.out hB2
end Wk
end Go.Proofs.Ytdekbncpodjgnaa
namespace Go.Proofs.Ytdekbncpodjgnaa
open Go.ChangeShapes Go.WideShapes Go.ChangeAt Go.RowKit Go.Deep
set_option linter.unusedVariables false
set_option linter.unusedSimpArgs false
namespace Wk

theorem array5 {α : Type} {cs : Array α} (h : cs.size = 5) : ∃ c0 c1 c2 c3 c4, cs = #[c0, c1, c2, c3, c4] := by
  obtain ⟨l⟩ := cs
  match l, h with
  | [c0, c1, c2, c3, c4], _ => exact ⟨c0, c1, c2, c3, c4, rfl⟩
section
variable {H : Type} {enc : TypeId × Value → H} {P : Program} {W : World} {base : Nat} {held : Bool}
theorem cell_RBo {t e : TypeId} {v : Value} {y : DataW H × List MemPlace} {fuel : Nat} (ht : P.underlying t = some (.slice e)) (he : P.underlying e = some .bool) (hc : P.cellsOf e = 1)
    (hf : DataW.trod enc P W base (fun _ => true) held fuel t [v] = some y) : ∃ (l : List Bool) (a : Option Addr) (cap : Nat), v = .slice a l.length cap ∧ l.length ≤ 9223372036854775807 ∧ RBo W a l := by
  rcases open_bools ht he hc hf with ⟨hcs, _⟩ | ⟨x, len, cap, B, hcs, _, hl, hm, _, hcell⟩
  · simp at hcs
    subst hcs
    exact ⟨[], none, 0, rfl, by simp, RBo.nil⟩
  · simp at hcs
    subst hcs
    have hlen : ((List.range len).map B).length = len := by simp
    refine ⟨(List.range len).map B, some x, cap, by rw [hlen], by rw [hlen]; unfold maxLen at hm; omega, ?_⟩
    intro h0
    rw [hlen] at h0 ⊢
    obtain ⟨b, off, rfl, hb⟩ := addr_plain (hcell 0 (by omega))
    refine ⟨b, off, rfl, hb, fun j hj => ?_⟩
    have h1 := hcell j (by omega)
    rw [add_plain] at h1
    rw [h1, List.getD_eq_getElem?_getD]
    simp [hj]
end
/-- What is known of a state that comes in. -/
structure InW (r : Work) : Prop where
  a : InA r.a
  d : r.d.length ≤ 9223372036854775807
  t : r.t.length ≤ 9223372036854775807
set_option maxRecDepth 100000 in
theorem open_work {H : Type} {enc : TypeId × Value → H} {W : World} {base : Nat} {held : Bool} {r : Reach} {b0 : Nat} {v : Value} {d : DataW H} {p : List MemPlace} (hv : Value.okWide Try.prog W r b0 42 v)
    (h : DataW.Trod enc Try.prog W base (fun _ => true) held 42 v d p) : ∃ (S N G D T : Option Addr) (c1 c2 c3 c4 c5 : Nat) (r : Work), v = .agg #[.slice S r.a.s.length c1, .slice N r.a.n.length c2, .slice G r.a.g.length c3, .slice D r.d.length c4, .slice T r.t.length c5] ∧ RW W S N G D T r ∧ InW r := by
  obtain ⟨cs, rfl, hsz⟩ := okWide_struct Try.underlying42 hv
  obtain ⟨v0, v1, v2, v3, v4, rfl⟩ := array5 (hsz.trans (by kernel_rfl))
  obtain ⟨fuel, hf⟩ := h
  obtain ⟨y0, y1, y2, n, _, _, h0, h1, h2⟩ := trod_struct3 Try.underlying42 hf
  rw [show Try.prog.cellsOf 39 = 3 by kernel_rfl] at h0
  rw [show Try.prog.cellsOf 40 = 1 by kernel_rfl] at h1
  rw [show Try.prog.cellsOf 22 = 1 by kernel_rfl] at h2
  simp only [Value.cells, List.drop_zero] at h0 h1 h2
  replace h0 : DataW.trod enc Try.prog W base (fun _ => true) held n 39 [v0, v1, v2] = some y0 := h0
  replace h1 : DataW.trod enc Try.prog W base (fun _ => true) held n 40 [v3] = some y1 := h1
  replace h2 : DataW.trod enc Try.prog W base (fun _ => true) held n 22 [v4] = some y2 := h2
  obtain ⟨x0, x1, x2, n', _, _, g0, g1, g2⟩ := trod_struct3 Try.underlying39 h0
  rw [show Try.prog.cellsOf 36 = 1 by kernel_rfl] at g0 g1
  rw [show Try.prog.cellsOf 37 = 1 by kernel_rfl] at g2
  replace g0 : DataW.trod enc Try.prog W base (fun _ => true) held n' 36 [v0] = some x0 := g0
  replace g1 : DataW.trod enc Try.prog W base (fun _ => true) held n' 36 [v1] = some x1 := g1
  replace g2 : DataW.trod enc Try.prog W base (fun _ => true) held n' 37 [v2] = some x2 := g2
  obtain ⟨S, c1, s, rfl, l1, r1, w1⟩ := open_RLv Try.underlying36 Try.underlying97 (by kernel_rfl) rfl rfl Try.underlying2 Try.underlying2 (by kernel_rfl) (by kernel_rfl) g0
  obtain ⟨N, c2, n', rfl, l2, r2, w2⟩ := open_RLv Try.underlying36 Try.underlying97 (by kernel_rfl) rfl rfl Try.underlying2 Try.underlying2 (by kernel_rfl) (by kernel_rfl) g1
  obtain ⟨G, c3, g, rfl, l3, r3, w3⟩ := open_RLv Try.underlying37 Try.underlying99 (by kernel_rfl) rfl rfl Try.underlying3 Try.underlying3 (by kernel_rfl) (by kernel_rfl) g2
  obtain ⟨d, D, c4, rfl, l4, r4⟩ := cell_RBo Try.underlying40 Try.underlying4 (by kernel_rfl) h1
  obtain ⟨t, T, c5, rfl, l5, r5, _⟩ := cell_RI Try.underlying22 Try.underlying3 (by kernel_rfl) h2
  exact ⟨S, N, G, D, T, c1, c2, c3, c4, c5, ⟨⟨s, n', g⟩, d, t⟩, rfl, ⟨⟨r1, r2, r3⟩, r4, r5⟩, ⟨⟨l1, l2, l3, w1, w2, w3⟩, l4, l5⟩⟩
set_option maxRecDepth 100000 in
theorem open_event {H : Type} {enc : TypeId × Value → H} {W : World} {base : Nat} {spare : Nat → Bool} {held : Bool} {r : Reach} {b0 : Nat} {v : Value} {d : DataW H} {p : List MemPlace} (hv : Value.okWide Try.prog W r b0 54 v)
    (h : DataW.Trod enc Try.prog W base spare held 54 v d p) : ∃ (k u b : Int), v = .agg #[.int .u8 k, .int .i64 u, .int .i64 b] ∧ (0 ≤ k ∧ k ≤ 255) ∧ (-9223372036854775808 ≤ u ∧ u ≤ 9223372036854775807) ∧ (-9223372036854775808 ≤ b ∧ b ≤ 9223372036854775807) := by
  obtain ⟨v0, v1, v2, y0, y1, y2, n, rfl, _, _, h0, h1, h2⟩ := Go.Joins.open_agg3 Try.underlying54 (by kernel_rfl) (by kernel_rfl) hv h
  obtain ⟨k, e0, _, w0⟩ := DataW.trod_int Try.underlying5 h0
  obtain ⟨u, e1, _, w1⟩ := DataW.trod_int Try.underlying3 h1
  obtain ⟨b, e2, _, w2⟩ := DataW.trod_int Try.underlying3 h2
  simp at e0 e1 e2
  subst e0 e1 e2
  exact ⟨k, u, b, rfl, wf_u8 w0, wf_rng w1, wf_rng w2⟩
end Wk
end Go.Proofs.Ytdekbncpodjgnaa
namespace Go.Proofs.Ytdekbncpodjgnaa
open Go.RowKit Runs Lagc Reg
set_option linter.unusedVariables false
set_option linter.unusedSimpArgs false
namespace Wk
open Lagw

def greatWB (r : Work) : Bool := greatB r.a || (decide (300 < r.d.length) || decide (20 < r.t.length))
theorem greatW_any (S1 N1 G1 D T : Option Addr) (c1 c2 c3 c4 c5 : Nat) (r : Work) (w : World) (l4 : r.d.length ≤ 9223372036854775807) (l5 : r.t.length ≤ 9223372036854775807) :
    Calls Try.prog 21 #[.agg #[.slice S1 r.a.s.length c1, .slice N1 r.a.n.length c2, .slice G1 r.a.g.length c3, .slice D r.d.length c4, .slice T r.t.length c5]] w fun e w' => e = .returned (.bool (greatWB r)) ∧ Below w.heap.size w w' := by
  have hk := Blk.new w 42 #[.slice S1 r.a.s.length c1, .slice N1 r.a.n.length c2, .slice G1 r.a.g.length c3, .slice D r.d.length c4, .slice T r.t.length c5]
  have hbX : Below w.heap.size w (w.alloc (.cells #[.slice S1 r.a.s.length c1, .slice N1 r.a.n.length c2, .slice G1 r.a.g.length c3, .slice D r.d.length c4, .slice T r.t.length c5] 42)) := balloc (Below.refl _ _) _
  have p0 : World.cell? (w.alloc (.cells #[.slice S1 r.a.s.length c1, .slice N1 r.a.n.length c2, .slice G1 r.a.g.length c3, .slice D r.d.length c4, .slice T r.t.length c5] 42)) ⟨w.heap.size, 0, none⟩ = some (.slice S1 r.a.s.length c1) := hk.cell 0
  have g0 := hk.frozen 0
  have p1 : World.cell? (w.alloc (.cells #[.slice S1 r.a.s.length c1, .slice N1 r.a.n.length c2, .slice G1 r.a.g.length c3, .slice D r.d.length c4, .slice T r.t.length c5] 42)) ⟨w.heap.size, 1, none⟩ = some (.slice N1 r.a.n.length c2) := hk.cell 1
  have g1 := hk.frozen 1
  have p2 : World.cell? (w.alloc (.cells #[.slice S1 r.a.s.length c1, .slice N1 r.a.n.length c2, .slice G1 r.a.g.length c3, .slice D r.d.length c4, .slice T r.t.length c5] 42)) ⟨w.heap.size, 2, none⟩ = some (.slice G1 r.a.g.length c3) := hk.cell 2
  have g2 := hk.frozen 2
  have p3 : World.cell? (w.alloc (.cells #[.slice S1 r.a.s.length c1, .slice N1 r.a.n.length c2, .slice G1 r.a.g.length c3, .slice D r.d.length c4, .slice T r.t.length c5] 42)) ⟨w.heap.size, 3, none⟩ = some (.slice D r.d.length c4) := hk.cell 3
  have g3 := hk.frozen 3
  have p4 : World.cell? (w.alloc (.cells #[.slice S1 r.a.s.length c1, .slice N1 r.a.n.length c2, .slice G1 r.a.g.length c3, .slice D r.d.length c4, .slice T r.t.length c5] 42)) ⟨w.heap.size, 4, none⟩ = some (.slice T r.t.length c5) := hk.cell 4
  have g4 := hk.frozen 4
  have gl := hk.lt
  have HG := fun w => _root_.Go.Proofs.Ytdekbncpodjgnaa.great_any S1 N1 G1 c1 c2 c3 r.a w
  have HE : Hid (greatWB r = (greatB r.a || (decide (300 < r.d.length) || decide (20 < r.t.length)))) := Lib.hid rfl
  generalize greatB r.a = GB at *
  cases GB
  · by_cases h1 : 300 < r.d.length
    · have HR := Lib.hid (show greatWB r = true by rw [HE.out]; simp [h1])
      go_enter Try.func21, Try.ntmps21
      go_wp2_with fail
      refine (HG _).mono ?_
      rintro _ w1 ⟨rfl, hb1⟩
      have hk1 := hk.keep hb1
      clear p0 p1 p2 p3 p4 g0 g1 g2 g3 g4 gl
      have p0 : World.cell? w1 ⟨w.heap.size, 0, none⟩ = some (.slice S1 r.a.s.length c1) := hk1.cell 0
      have g0 := hk1.frozen 0
      have p1 : World.cell? w1 ⟨w.heap.size, 1, none⟩ = some (.slice N1 r.a.n.length c2) := hk1.cell 1
      have g1 := hk1.frozen 1
      have p2 : World.cell? w1 ⟨w.heap.size, 2, none⟩ = some (.slice G1 r.a.g.length c3) := hk1.cell 2
      have g2 := hk1.frozen 2
      have p3 : World.cell? w1 ⟨w.heap.size, 3, none⟩ = some (.slice D r.d.length c4) := hk1.cell 3
      have g3 := hk1.frozen 3
      have p4 : World.cell? w1 ⟨w.heap.size, 4, none⟩ = some (.slice T r.t.length c5) := hk1.cell 4
      have g4 := hk1.frozen 4
      have gl := hk1.lt
      go_wp2
      go_ret
      exact ⟨by rw [HR.out]; rfl, bstep hbX hb1⟩
    · have d1 : decide (300 < (r.d.length : Int)) = false := decide_eq_false (by omega)
      have HR := Lib.hid (show greatWB r = decide (20 < (r.t.length : Int)) by rw [HE.out]; simp [h1]; omega)
      go_enter Try.func21, Try.ntmps21
      go_wp2_with fail
      refine (HG _).mono ?_
      rintro _ w1 ⟨rfl, hb1⟩
      have hk1 := hk.keep hb1
      clear p0 p1 p2 p3 p4 g0 g1 g2 g3 g4 gl
      have p0 : World.cell? w1 ⟨w.heap.size, 0, none⟩ = some (.slice S1 r.a.s.length c1) := hk1.cell 0
      have g0 := hk1.frozen 0
      have p1 : World.cell? w1 ⟨w.heap.size, 1, none⟩ = some (.slice N1 r.a.n.length c2) := hk1.cell 1
      have g1 := hk1.frozen 1
      have p2 : World.cell? w1 ⟨w.heap.size, 2, none⟩ = some (.slice G1 r.a.g.length c3) := hk1.cell 2
      have g2 := hk1.frozen 2
      have p3 : World.cell? w1 ⟨w.heap.size, 3, none⟩ = some (.slice D r.d.length c4) := hk1.cell 3
      have g3 := hk1.frozen 3
      have p4 : World.cell? w1 ⟨w.heap.size, 4, none⟩ = some (.slice T r.t.length c5) := hk1.cell 4
      have g4 := hk1.frozen 4
      have gl := hk1.lt
      go_wp2
      go_ret
      exact ⟨by rw [HR.out]; rfl, bstep hbX hb1⟩
  · have HR := Lib.hid (show greatWB r = true by rw [HE.out]; rfl)
    go_enter Try.func21, Try.ntmps21
    go_wp2_with fail
    refine (HG _).mono ?_
    rintro _ w1 ⟨rfl, hb1⟩
    go_wp2
    go_ret
    exact ⟨by rw [HR.out]; rfl, bstep hbX hb1⟩
theorem runL_factsR {C : Nat} : ∀ (l : List Ev) (s : List Bool × List Int) (k : Nat), Good19 C s.1 s.2 → Good19 C (runL s l k).1.1.1 (runL s l k).1.1.2 ∧ (runL s l k).1.1.2.length = s.2.length ∧ (runL s l k).1.2 ≤ k + l.length ∧ ((runL s l k).2 = 0 ↔ (runL s l k).1.2 = k + l.length) := by
  intro l
  induction l with
  | nil => intro s k h; exact ⟨h, rfl, Nat.le_refl _, by simp [runL]⟩
  | cons e l ih =>
    intro s k h
    by_cases h0 : (stepS s.1 s.2 e).2 = 0
    · have hs : runL s (e :: l) k = runL (stepS s.1 s.2 e).1 l (k + 1) := by rw [runL, if_neg (by simp [h0])]
      obtain ⟨h1, h2⟩ := step_good h h0
      obtain ⟨i1, i2, i3, i4⟩ := ih (stepS s.1 s.2 e).1 (k + 1) h1
      rw [hs]
      refine ⟨i1, i2.trans h2, by rw [List.length_cons]; omega, ?_⟩
      rw [i4, List.length_cons]
      omega
    · have hs : runL s (e :: l) k = ((s, k), (stepS s.1 s.2 e).2) := by rw [runL, if_pos h0]
      rw [hs]
      refine ⟨h, rfl, by simp only [List.length_cons]; omega, ?_⟩
      simp only [List.length_cons]
      constructor
      · intro h1; exact absurd h1 h0
      · intro h1; omega
theorem run_factsR {xs ys : List Int} {M S N : Nat} {l : List Ev} (hj : Job xs ys M S) (h1 : 1 ≤ N) (h6 : N ≤ 6) (hl : l.length ≤ 400) :
    ∃ (d : List Bool) (t : List Int) (k : Nat) (e : Int), runS xs ys M S N l = ((workS xs ys M S (d, t), (k : Int)), e) ∧ runL (start19 (cdiv xs.length S) N) l 0 = (((d, t), k), e) ∧ Good19 (cdiv xs.length S) d t ∧ t.length = N ∧ k ≤ l.length ∧ (e = 0 ↔ k = l.length) := by
  have he : jobErr xs ys M S = 0 := jobErr_ok hj.x hj.y (by rw [Int.toNat_natCast]; have := hj.m; have := hj.s; have := hj.s2; have := hj.c; omega)
  obtain ⟨i1, i2, i3, i4⟩ := runL_factsR l (start19 (cdiv xs.length S) N) 0 (start_good h1 h6)
  generalize hr : runL (start19 (cdiv xs.length S) N) l 0 = r at *
  obtain ⟨⟨⟨d, t⟩, k⟩, e⟩ := r
  refine ⟨d, t, k, e, ?_, rfl, i1, by rw [i2]; simp [start19], by simpa using i3, by simpa using i4⟩
  unfold runS
  rw [if_neg (by rw [openS_ok he (by omega)]; simp), if_neg (by omega)]
  simp only [Int.toNat_natCast]
  rw [hr]
/-- Bounds for the sizes of a state. -/
structure SmallW (r : Work) : Prop where
  s : r.a.s.length ≤ 1000
  n : r.a.n.length ≤ 1000
  g : r.a.g.length ≤ 1000
  d : r.d.length ≤ 1000
  t : r.t.length ≤ 1000
theorem SmallW.none : SmallW Work.none := ⟨by simp [Work.none, Acc.none], by simp [Work.none, Acc.none], by simp [Work.none, Acc.none], by simp [Work.none], by simp [Work.none]⟩
theorem good_small {xs ys : List Int} {M S : Nat} (hj : Job xs ys M S) {d : List Bool} {t : List Int} (hG : Good19 (cdiv xs.length S) d t) : SmallW ⟨sumA xs ys M S d, d, t⟩ := by
  have hf := (sumA_is hj hG.d).fine
  have h1 := hf.ls
  have h2 := hf.ln
  have h3 := hf.lg
  have h4 := hG.d
  have h5 := hG.t6
  have h6 := hj.c
  exact ⟨by simp only; omega, by simp only; omega, by simp only; omega, by simp only; omega, by simp only; omega⟩
theorem applyS_small (xs ys : List Int) (m s : Int) (r : Work) (e : Ev) : SmallW (applyS xs ys m s r e).1 := by
  unfold applyS
  split
  · exact SmallW.none
  · rename_i h
    obtain ⟨M, S, rfl, rfl, hj, hG, _⟩ := stateErr_zero (by simpa using h)
    unfold stW
    split
    · exact SmallW.none
    · rename_i h2
      exact good_small hj (step_good hG (by simpa using h2)).1
theorem runS_small (xs ys : List Int) (m s n : Int) (l : List Ev) : SmallW (runS xs ys m s n l).1.1 := by
  by_cases he : (openS xs ys m s n).2 = 0
  · obtain ⟨M, S, N, rfl, rfl, rfl, hj, h1, h6, _⟩ := openS_zero he
    by_cases hl : 400 < l.length
    · unfold runS
      rw [if_neg (by simp [he]), if_pos hl]
      exact SmallW.none
    · obtain ⟨d, t, k, e, h, _, hG, _⟩ := run_factsR (xs := xs) (ys := ys) (M := M) (S := S) (N := N) (l := l) hj h1 h6 (by omega)
      rw [h]
      exact good_small hj hG
  · unfold runS
    rw [if_pos he]
    exact SmallW.none
theorem resS_small (xs ys : List Int) (m s : Int) (r : Work) : (resS xs ys m s r).1.length ≤ 1000 := by
  unfold resS
  split
  · simp
  · rename_i h
    obtain ⟨M, S, rfl, rfl, hj, _, _⟩ := stateErr_zero (by simpa using h)
    split
    · have := hj.m
      simp only [fullL_len, Int.toNat_natCast]
      omega
    · simp
theorem greatJ_any (X Y : Option Addr) (cx cy : Nat) (xs ys : List Int) (m s : Int) (h : greatJ xs ys m s = true) (w : World) (hx : RI .i64 w X xs) (hy : RI .i64 w Y ys) : Calls Try.prog 9 #[.agg #[.slice X xs.length cx, .slice Y ys.length cy, .int .i64 m, .int .i64 s]] w fun e w' => e = .returned (.bool true) ∧ Below w.heap.size w w' := by
  by_cases hlo : 300 < xs.length ∨ 300 < ys.length
  · exact great_long X Y cx cy xs ys m s w hlo
  · have := great_any X Y cx cy xs ys m s w hx hy (by omega) (by omega)
    rw [h] at this
    exact this

set_option maxRecDepth 20000 in
set_option maxHeartbeats 4000000 in
theorem workerRuns_walk (X Y : Option Addr) (cx cy : Nat) (xs ys : List Int) (m s : Int) (S1 N1 G1 D T : Option Addr) (c1 c2 c3 c4 c5 : Nat) (r : Work) (k u b n : Int) (A : Option Addr) (c : Nat) (l : List Ev) (w : World) (hj : InJ w X Y cx cy xs ys m s) (hr : RW w S1 N1 G1 D T r) (ir : InW r)
    (hku : 0 ≤ k ∧ k ≤ 255) (hu : -9223372036854775808 ≤ u ∧ u ≤ 9223372036854775807) (hb : -9223372036854775808 ≤ b ∧ b ≤ 9223372036854775807) (hn : -9223372036854775808 ≤ n ∧ n ≤ 9223372036854775807) (hA : InE w A c l) :
    Calls Try.prog 4 #[.agg #[.slice X xs.length cx, .slice Y ys.length cy, .int .i64 m, .int .i64 s], .agg #[.slice S1 r.a.s.length c1, .slice N1 r.a.n.length c2, .slice G1 r.a.g.length c3, .slice D r.d.length c4, .slice T r.t.length c5], .agg #[.int .u8 k, .int .i64 u, .int .i64 b], .int .i64 n, .slice A l.length c] w fun e w' => e = .returned (.bool true) ∧ Below w.heap.size w w' := by
  have hx := hj.x
  have hy := hj.y
  have hcx := hj.cx
  have hAr := hA.r
  have hAl := hA.len
  obtain ⟨wE, hwE⟩ : ∃ wE, wE = ((w.alloc (.cells #[.slice X xs.length cx, .slice Y ys.length cy, .int .i64 m, .int .i64 s] 24)).alloc (.cells #[.slice S1 r.a.s.length c1, .slice N1 r.a.n.length c2, .slice G1 r.a.g.length c3, .slice D r.d.length c4, .slice T r.t.length c5] 42)).alloc (.cells #[.int .u8 k, .int .i64 u, .int .i64 b] 54) := ⟨_, rfl⟩
  have hk1 : Blk wE w.heap.size 24 #[.slice X xs.length cx, .slice Y ys.length cy, .int .i64 m, .int .i64 s] := by rw [hwE]; exact ((Blk.new _ _ _).alloc _).alloc _
  have hk2 : Blk wE (w.heap.size + 1) 42 #[.slice S1 r.a.s.length c1, .slice N1 r.a.n.length c2, .slice G1 r.a.g.length c3, .slice D r.d.length c4, .slice T r.t.length c5] := by rw [hwE]; exact (Blk.newAt _ _ (by simp)).alloc _
  have hk3 : Blk wE (w.heap.size + 2) 54 #[.int .u8 k, .int .i64 u, .int .i64 b] := by rw [hwE]; exact Blk.newAt _ _ (by simp)
  have hbE : Below w.heap.size w wE := by rw [hwE]; exact balloc (balloc (balloc (Below.refl _ _) _) _) _
  have hxE := hx.keep hbE
  have hyE := hy.keep hbE
  have hrE := hr.keep hbE
  have hAE := hAr.keep hbE
  cases hgr : greatJ xs ys m s with
  | true =>
    have HG := Lib.hid (fun w hx hy => greatJ_any X Y cx cy xs ys m s hgr w hx hy)
    go_enter Try.func4, Try.ntmps4
    go_wp2_with fail
    rw [← hwE]
    clear hwE
    have j0 : World.cell? wE ⟨w.heap.size, 0, none⟩ = some (.slice X xs.length cx) := hk1.cell 0
    have jf0 := hk1.frozen 0
    have j1 : World.cell? wE ⟨w.heap.size, 1, none⟩ = some (.slice Y ys.length cy) := hk1.cell 1
    have jf1 := hk1.frozen 1
    have j2 : World.cell? wE ⟨w.heap.size, 2, none⟩ = some (.int .i64 m) := hk1.cell 2
    have jf2 := hk1.frozen 2
    have j3 : World.cell? wE ⟨w.heap.size, 3, none⟩ = some (.int .i64 s) := hk1.cell 3
    have jf3 := hk1.frozen 3
    have jfl := hk1.lt
    go_wp2_with fail
    refine (HG.out _ hxE hyE).mono ?_
    rintro _ w1 ⟨rfl, hb1⟩
    have hB1 := bstep hbE hb1
    go_wp2
    go_ret
    exact ⟨rfl, hB1⟩
  | false =>
    have hll : xs.length ≤ 300 ∧ ys.length ≤ 300 := by
      have := of_decide_eq_false hgr
      omega
    have HG := Lib.hid (fun w hx hy => great_any X Y cx cy xs ys m s w hx hy (by omega) (by omega))
    rw [hgr] at HG
    have HGW := Lib.hid (fun w => greatW_any S1 N1 G1 D T c1 c2 c3 c4 c5 r w ir.d ir.t)
    cases hgw : greatWB r with
    | true =>
      rw [hgw] at HGW
      go_enter Try.func4, Try.ntmps4
      go_wp2_with fail
      rw [← hwE]
      clear hwE
      have j0 : World.cell? wE ⟨w.heap.size, 0, none⟩ = some (.slice X xs.length cx) := hk1.cell 0
      have jf0 := hk1.frozen 0
      have j1 : World.cell? wE ⟨w.heap.size, 1, none⟩ = some (.slice Y ys.length cy) := hk1.cell 1
      have jf1 := hk1.frozen 1
      have j2 : World.cell? wE ⟨w.heap.size, 2, none⟩ = some (.int .i64 m) := hk1.cell 2
      have jf2 := hk1.frozen 2
      have j3 : World.cell? wE ⟨w.heap.size, 3, none⟩ = some (.int .i64 s) := hk1.cell 3
      have jf3 := hk1.frozen 3
      have jfl := hk1.lt
      go_wp2_with fail
      refine (HG.out _ hxE hyE).mono ?_
      rintro _ w1 ⟨rfl, hb1⟩
      have hB1 := bstep hbE hb1
      clear j0 j1 j2 j3 jf0 jf1 jf2 jf3 jfl
      replace hk1 := hk1.keep hb1
      replace hk2 := hk2.keep hb1
      replace hk3 := hk3.keep hb1
      replace hxE := hxE.keep hb1
      replace hyE := hyE.keep hb1
      replace hrE := hrE.keep hb1
      replace hAE := hAE.keep hb1
      have p0 : World.cell? w1 ⟨(w.heap.size + 1), 0, none⟩ = some (.slice S1 r.a.s.length c1) := hk2.cell 0
      have g0 := hk2.frozen 0
      have p1 : World.cell? w1 ⟨(w.heap.size + 1), 1, none⟩ = some (.slice N1 r.a.n.length c2) := hk2.cell 1
      have g1 := hk2.frozen 1
      have p2 : World.cell? w1 ⟨(w.heap.size + 1), 2, none⟩ = some (.slice G1 r.a.g.length c3) := hk2.cell 2
      have g2 := hk2.frozen 2
      have p3 : World.cell? w1 ⟨(w.heap.size + 1), 3, none⟩ = some (.slice D r.d.length c4) := hk2.cell 3
      have g3 := hk2.frozen 3
      have p4 : World.cell? w1 ⟨(w.heap.size + 1), 4, none⟩ = some (.slice T r.t.length c5) := hk2.cell 4
      have g4 := hk2.frozen 4
      have gl := hk2.lt
      go_wp2_with fail
      refine (HGW.out _).mono ?_
      rintro _ w2 ⟨rfl, hb2⟩
      have hB2 := bstep hB1 hb2
      clear p0 p1 p2 p3 p4 g0 g1 g2 g3 g4 gl
      replace hk1 := hk1.keep hb2
      replace hk2 := hk2.keep hb2
      replace hk3 := hk3.keep hb2
      replace hxE := hxE.keep hb2
      replace hyE := hyE.keep hb2
      replace hrE := hrE.keep hb2
      replace hAE := hAE.keep hb2
      go_wp2
      go_ret
      exact ⟨rfl, hB2⟩
    | false =>
      rw [hgw] at HGW
      have hsz : r.a.s.length ≤ 600 ∧ r.a.n.length ≤ 600 ∧ r.a.g.length ≤ 100 ∧ r.d.length ≤ 300 ∧ r.t.length ≤ 20 := by
        unfold greatWB greatB at hgw
        simp only [Bool.or_eq_false_iff, decide_eq_false_iff_not] at hgw
        omega
      clear hgw hgr
      have hcase : (decide (40 < (l.length : Int)) = true ∧ decide ((l.length : Int) ≤ 400) = true) ∨ (decide (40 < (l.length : Int)) = true ∧ decide ((l.length : Int) ≤ 400) = false ∧ decide (500 < (l.length : Int)) = true) ∨ (decide (40 < (l.length : Int)) = true ∧ decide ((l.length : Int) ≤ 400) = false ∧ decide (500 < (l.length : Int)) = false) ∨ (decide (40 < (l.length : Int)) = false ∧ decide (500 < (l.length : Int)) = false) := by
        simp only [decide_eq_true_eq, decide_eq_false_iff_not]
        omega
      have HAL := Lib.hid (fun w hx hy hr => apply_any X Y S1 N1 G1 D T cx cy c1 c2 c3 c4 c5 xs ys m s r k u b w hx hy hcx (by omega) (by omega) hr (by omega) (by omega) (by omega) (by omega) (by omega))
      have HAR := Lib.hid (fun w hx hy hr => refApply_any X Y S1 N1 G1 D T cx cy c1 c2 c3 c4 c5 xs ys m s r k u b w hx hy (by omega) (by omega) hr (by omega) (by omega) (by omega) (by omega) (by omega))
      have HRL := Lib.hid (fun w hx hy hA => run_any X Y A cx cy c xs ys m s n l w hx hy hcx (by omega) (by omega) hA hAl)
      have HRR := Lib.hid (fun w hx hy hA => refRun_any X Y A cx cy c xs ys m s n l w hx hy (by omega) (by omega) hA hAl)
      have HSL := Lib.hid (fun w hx hy hr => result_any X Y S1 N1 G1 D T cx cy c1 c2 c3 c4 c5 xs ys m s r w hx hy hcx (by omega) (by omega) hr (by omega) (by omega) (by omega) (by omega) (by omega))
      have HSR := Lib.hid (fun w hx hy hr => refResult_any X Y S1 N1 G1 D T cx cy c1 c2 c3 c4 c5 xs ys m s r w hx hy (by omega) (by omega) hr (by omega) (by omega) (by omega) (by omega) (by omega))
      have q1 := applyS_small xs ys m s r ⟨k, u, b⟩
      have q2 := runS_small xs ys m s n l
      have q3 := resS_small xs ys m s r
      generalize applyS xs ys m s r ⟨k, u, b⟩ = AP at *
      generalize runS xs ys m s n l = RU at *
      generalize resS xs ys m s r = RE at *
      obtain ⟨AP, ae⟩ := AP
      obtain ⟨⟨RU, rs⟩, re⟩ := RU
      obtain ⟨RE, ee⟩ := RE
      simp only at q1 q2 q3
      have HSA := Lib.hid (fun S N G D T S' N' G' D' T' c1 c2 c3 c4 c5 d1 d2 d3 d4 d5 w hx hy => same19_yes S N G D T S' N' G' D' T' c1 c2 c3 c4 c5 d1 d2 d3 d4 d5 AP w hx hy (by have := q1.s; omega) (by have := q1.n; omega) (by have := q1.g; omega) (by have := q1.d; omega) (by have := q1.t; omega))
      have HSU := Lib.hid (fun S N G D T S' N' G' D' T' c1 c2 c3 c4 c5 d1 d2 d3 d4 d5 w hx hy => same19_yes S N G D T S' N' G' D' T' c1 c2 c3 c4 c5 d1 d2 d3 d4 d5 RU w hx hy (by have := q2.s; omega) (by have := q2.n; omega) (by have := q2.g; omega) (by have := q2.d; omega) (by have := q2.t; omega))
      have HSE := Lib.hid (fun A B c d w hx hy => Lagc.same16_any A B c d RE RE w hx hy (by omega) (by omega))
      rw [decide_eq_true rfl] at HSE
      clear hx hy hj hr ir hA hAr hku hu hb hn hll q1 q2 q3 hsz hcx
      rcases hcase with ⟨d1, d2⟩ | ⟨d1, d2, d3⟩ | hcase
      · go_enter Try.func4, Try.ntmps4
        go_wp2_with fail
        rw [← hwE]
        clear hwE
        have j0 : World.cell? wE ⟨w.heap.size, 0, none⟩ = some (.slice X xs.length cx) := hk1.cell 0
        have jf0 := hk1.frozen 0
        have j1 : World.cell? wE ⟨w.heap.size, 1, none⟩ = some (.slice Y ys.length cy) := hk1.cell 1
        have jf1 := hk1.frozen 1
        have j2 : World.cell? wE ⟨w.heap.size, 2, none⟩ = some (.int .i64 m) := hk1.cell 2
        have jf2 := hk1.frozen 2
        have j3 : World.cell? wE ⟨w.heap.size, 3, none⟩ = some (.int .i64 s) := hk1.cell 3
        have jf3 := hk1.frozen 3
        have jfl := hk1.lt
        go_wp2_with fail
        refine (HG.out _ hxE hyE).mono ?_
        rintro _ w1 ⟨rfl, hb1⟩
        have hB1 := bstep hbE hb1
        clear j0 j1 j2 j3 jf0 jf1 jf2 jf3 jfl
        replace hk1 := hk1.keep hb1
        replace hk2 := hk2.keep hb1
        replace hk3 := hk3.keep hb1
        replace hxE := hxE.keep hb1
        replace hyE := hyE.keep hb1
        replace hrE := hrE.keep hb1
        replace hAE := hAE.keep hb1
        have p0 : World.cell? w1 ⟨(w.heap.size + 1), 0, none⟩ = some (.slice S1 r.a.s.length c1) := hk2.cell 0
        have g0 := hk2.frozen 0
        have p1 : World.cell? w1 ⟨(w.heap.size + 1), 1, none⟩ = some (.slice N1 r.a.n.length c2) := hk2.cell 1
        have g1 := hk2.frozen 1
        have p2 : World.cell? w1 ⟨(w.heap.size + 1), 2, none⟩ = some (.slice G1 r.a.g.length c3) := hk2.cell 2
        have g2 := hk2.frozen 2
        have p3 : World.cell? w1 ⟨(w.heap.size + 1), 3, none⟩ = some (.slice D r.d.length c4) := hk2.cell 3
        have g3 := hk2.frozen 3
        have p4 : World.cell? w1 ⟨(w.heap.size + 1), 4, none⟩ = some (.slice T r.t.length c5) := hk2.cell 4
        have g4 := hk2.frozen 4
        have gl := hk2.lt
        go_wp2_with fail
        refine (HGW.out _).mono ?_
        rintro _ w2 ⟨rfl, hb2⟩
        have hB2 := bstep hB1 hb2
        clear p0 p1 p2 p3 p4 g0 g1 g2 g3 g4 gl
        replace hk1 := hk1.keep hb2
        replace hk2 := hk2.keep hb2
        replace hk3 := hk3.keep hb2
        replace hxE := hxE.keep hb2
        replace hyE := hyE.keep hb2
        replace hrE := hrE.keep hb2
        replace hAE := hAE.keep hb2
        go_wp2
        go_ret
        exact ⟨rfl, hB2⟩
      · go_enter Try.func4, Try.ntmps4
        go_wp2_with fail
        rw [← hwE]
        clear hwE
        have j0 : World.cell? wE ⟨w.heap.size, 0, none⟩ = some (.slice X xs.length cx) := hk1.cell 0
        have jf0 := hk1.frozen 0
        have j1 : World.cell? wE ⟨w.heap.size, 1, none⟩ = some (.slice Y ys.length cy) := hk1.cell 1
        have jf1 := hk1.frozen 1
        have j2 : World.cell? wE ⟨w.heap.size, 2, none⟩ = some (.int .i64 m) := hk1.cell 2
        have jf2 := hk1.frozen 2
        have j3 : World.cell? wE ⟨w.heap.size, 3, none⟩ = some (.int .i64 s) := hk1.cell 3
        have jf3 := hk1.frozen 3
        have jfl := hk1.lt
        go_wp2_with fail
        refine (HG.out _ hxE hyE).mono ?_
        rintro _ w1 ⟨rfl, hb1⟩
        have hB1 := bstep hbE hb1
        clear j0 j1 j2 j3 jf0 jf1 jf2 jf3 jfl
        replace hk1 := hk1.keep hb1
        replace hk2 := hk2.keep hb1
        replace hk3 := hk3.keep hb1
        replace hxE := hxE.keep hb1
        replace hyE := hyE.keep hb1
        replace hrE := hrE.keep hb1
        replace hAE := hAE.keep hb1
        have p0 : World.cell? w1 ⟨(w.heap.size + 1), 0, none⟩ = some (.slice S1 r.a.s.length c1) := hk2.cell 0
        have g0 := hk2.frozen 0
        have p1 : World.cell? w1 ⟨(w.heap.size + 1), 1, none⟩ = some (.slice N1 r.a.n.length c2) := hk2.cell 1
        have g1 := hk2.frozen 1
        have p2 : World.cell? w1 ⟨(w.heap.size + 1), 2, none⟩ = some (.slice G1 r.a.g.length c3) := hk2.cell 2
        have g2 := hk2.frozen 2
        have p3 : World.cell? w1 ⟨(w.heap.size + 1), 3, none⟩ = some (.slice D r.d.length c4) := hk2.cell 3
        have g3 := hk2.frozen 3
        have p4 : World.cell? w1 ⟨(w.heap.size + 1), 4, none⟩ = some (.slice T r.t.length c5) := hk2.cell 4
        have g4 := hk2.frozen 4
        have gl := hk2.lt
        go_wp2_with fail
        refine (HGW.out _).mono ?_
        rintro _ w2 ⟨rfl, hb2⟩
        have hB2 := bstep hB1 hb2
        clear p0 p1 p2 p3 p4 g0 g1 g2 g3 g4 gl
        replace hk1 := hk1.keep hb2
        replace hk2 := hk2.keep hb2
        replace hk3 := hk3.keep hb2
        replace hxE := hxE.keep hb2
        replace hyE := hyE.keep hb2
        replace hrE := hrE.keep hb2
        replace hAE := hAE.keep hb2
        go_wp2
        go_ret
        exact ⟨rfl, hB2⟩
      rcases hcase with ⟨d1, d2, d3⟩ | ⟨d1, d3⟩
      all_goals
        go_enter Try.func4, Try.ntmps4
        go_wp2_with fail
        rw [← hwE]
        clear hwE
        have j0 : World.cell? wE ⟨w.heap.size, 0, none⟩ = some (.slice X xs.length cx) := hk1.cell 0
        have jf0 := hk1.frozen 0
        have j1 : World.cell? wE ⟨w.heap.size, 1, none⟩ = some (.slice Y ys.length cy) := hk1.cell 1
        have jf1 := hk1.frozen 1
        have j2 : World.cell? wE ⟨w.heap.size, 2, none⟩ = some (.int .i64 m) := hk1.cell 2
        have jf2 := hk1.frozen 2
        have j3 : World.cell? wE ⟨w.heap.size, 3, none⟩ = some (.int .i64 s) := hk1.cell 3
        have jf3 := hk1.frozen 3
        have jfl := hk1.lt
        go_wp2_with fail
        refine (HG.out _ hxE hyE).mono ?_
        rintro _ w1 ⟨rfl, hb1⟩
        have hB1 := bstep hbE hb1
        clear j0 j1 j2 j3 jf0 jf1 jf2 jf3 jfl
        replace hk1 := hk1.keep hb1
        replace hk2 := hk2.keep hb1
        replace hk3 := hk3.keep hb1
        replace hxE := hxE.keep hb1
        replace hyE := hyE.keep hb1
        replace hrE := hrE.keep hb1
        replace hAE := hAE.keep hb1
        have p0 : World.cell? w1 ⟨(w.heap.size + 1), 0, none⟩ = some (.slice S1 r.a.s.length c1) := hk2.cell 0
        have g0 := hk2.frozen 0
        have p1 : World.cell? w1 ⟨(w.heap.size + 1), 1, none⟩ = some (.slice N1 r.a.n.length c2) := hk2.cell 1
        have g1 := hk2.frozen 1
        have p2 : World.cell? w1 ⟨(w.heap.size + 1), 2, none⟩ = some (.slice G1 r.a.g.length c3) := hk2.cell 2
        have g2 := hk2.frozen 2
        have p3 : World.cell? w1 ⟨(w.heap.size + 1), 3, none⟩ = some (.slice D r.d.length c4) := hk2.cell 3
        have g3 := hk2.frozen 3
        have p4 : World.cell? w1 ⟨(w.heap.size + 1), 4, none⟩ = some (.slice T r.t.length c5) := hk2.cell 4
        have g4 := hk2.frozen 4
        have gl := hk2.lt
        go_wp2_with fail
        refine (HGW.out _).mono ?_
        rintro _ w2 ⟨rfl, hb2⟩
        have hB2 := bstep hB1 hb2
        clear p0 p1 p2 p3 p4 g0 g1 g2 g3 g4 gl
        replace hk1 := hk1.keep hb2
        replace hk2 := hk2.keep hb2
        replace hk3 := hk3.keep hb2
        replace hxE := hxE.keep hb2
        replace hyE := hyE.keep hb2
        replace hrE := hrE.keep hb2
        replace hAE := hAE.keep hb2
        have j0 : World.cell? w2 ⟨w.heap.size, 0, none⟩ = some (.slice X xs.length cx) := hk1.cell 0
        have jf0 := hk1.frozen 0
        have j1 : World.cell? w2 ⟨w.heap.size, 1, none⟩ = some (.slice Y ys.length cy) := hk1.cell 1
        have jf1 := hk1.frozen 1
        have j2 : World.cell? w2 ⟨w.heap.size, 2, none⟩ = some (.int .i64 m) := hk1.cell 2
        have jf2 := hk1.frozen 2
        have j3 : World.cell? w2 ⟨w.heap.size, 3, none⟩ = some (.int .i64 s) := hk1.cell 3
        have jf3 := hk1.frozen 3
        have jfl := hk1.lt
        have p0 : World.cell? w2 ⟨(w.heap.size + 1), 0, none⟩ = some (.slice S1 r.a.s.length c1) := hk2.cell 0
        have g0 := hk2.frozen 0
        have p1 : World.cell? w2 ⟨(w.heap.size + 1), 1, none⟩ = some (.slice N1 r.a.n.length c2) := hk2.cell 1
        have g1 := hk2.frozen 1
        have p2 : World.cell? w2 ⟨(w.heap.size + 1), 2, none⟩ = some (.slice G1 r.a.g.length c3) := hk2.cell 2
        have g2 := hk2.frozen 2
        have p3 : World.cell? w2 ⟨(w.heap.size + 1), 3, none⟩ = some (.slice D r.d.length c4) := hk2.cell 3
        have g3 := hk2.frozen 3
        have p4 : World.cell? w2 ⟨(w.heap.size + 1), 4, none⟩ = some (.slice T r.t.length c5) := hk2.cell 4
        have g4 := hk2.frozen 4
        have gl := hk2.lt
        have e0 : World.cell? w2 ⟨(w.heap.size + 2), 0, none⟩ = some (.int .u8 k) := hk3.cell 0
        have ef0 := hk3.frozen 0
        have e1 : World.cell? w2 ⟨(w.heap.size + 2), 1, none⟩ = some (.int .i64 u) := hk3.cell 1
        have ef1 := hk3.frozen 1
        have e2 : World.cell? w2 ⟨(w.heap.size + 2), 2, none⟩ = some (.int .i64 b) := hk3.cell 2
        have ef2 := hk3.frozen 2
        have efl := hk3.lt
        clear hAl
        go_wp2_with fail
        refine (HAL.out _ hxE hyE hrE).mono ?_
        rintro _ w3 ⟨S3, N3, G3, D3, T3, a3, b3, c3', d3', e3, rfl, rv3, hb3⟩
        clear j0 j1 j2 j3 jf0 jf1 jf2 jf3 jfl
        clear p0 p1 p2 p3 p4 g0 g1 g2 g3 g4 gl
        clear e0 e1 e2 ef0 ef1 ef2 efl
        replace hB2 := bstep hB2 hb3
        replace hk1 := hk1.keep hb3
        replace hk2 := hk2.keep hb3
        replace hk3 := hk3.keep hb3
        replace hxE := hxE.keep hb3
        replace hyE := hyE.keep hb3
        replace hrE := hrE.keep hb3
        replace hAE := hAE.keep hb3
        have j0 : World.cell? w3 ⟨w.heap.size, 0, none⟩ = some (.slice X xs.length cx) := hk1.cell 0
        have jf0 := hk1.frozen 0
        have j1 : World.cell? w3 ⟨w.heap.size, 1, none⟩ = some (.slice Y ys.length cy) := hk1.cell 1
        have jf1 := hk1.frozen 1
        have j2 : World.cell? w3 ⟨w.heap.size, 2, none⟩ = some (.int .i64 m) := hk1.cell 2
        have jf2 := hk1.frozen 2
        have j3 : World.cell? w3 ⟨w.heap.size, 3, none⟩ = some (.int .i64 s) := hk1.cell 3
        have jf3 := hk1.frozen 3
        have jfl := hk1.lt
        have p0 : World.cell? w3 ⟨(w.heap.size + 1), 0, none⟩ = some (.slice S1 r.a.s.length c1) := hk2.cell 0
        have g0 := hk2.frozen 0
        have p1 : World.cell? w3 ⟨(w.heap.size + 1), 1, none⟩ = some (.slice N1 r.a.n.length c2) := hk2.cell 1
        have g1 := hk2.frozen 1
        have p2 : World.cell? w3 ⟨(w.heap.size + 1), 2, none⟩ = some (.slice G1 r.a.g.length c3) := hk2.cell 2
        have g2 := hk2.frozen 2
        have p3 : World.cell? w3 ⟨(w.heap.size + 1), 3, none⟩ = some (.slice D r.d.length c4) := hk2.cell 3
        have g3 := hk2.frozen 3
        have p4 : World.cell? w3 ⟨(w.heap.size + 1), 4, none⟩ = some (.slice T r.t.length c5) := hk2.cell 4
        have g4 := hk2.frozen 4
        have gl := hk2.lt
        have e0 : World.cell? w3 ⟨(w.heap.size + 2), 0, none⟩ = some (.int .u8 k) := hk3.cell 0
        have ef0 := hk3.frozen 0
        have e1 : World.cell? w3 ⟨(w.heap.size + 2), 1, none⟩ = some (.int .i64 u) := hk3.cell 1
        have ef1 := hk3.frozen 1
        have e2 : World.cell? w3 ⟨(w.heap.size + 2), 2, none⟩ = some (.int .i64 b) := hk3.cell 2
        have ef2 := hk3.frozen 2
        have efl := hk3.lt
        go_wp2_with fail
        clear j0 j1 j2 j3 jf0 jf1 jf2 jf3 jfl
        clear p0 p1 p2 p3 p4 g0 g1 g2 g3 g4 gl
        clear e0 e1 e2 ef0 ef1 ef2 efl
        obtain ⟨u3, hu3⟩ : ∃ u3, u3 = World.alloc w3 (.cells #[.slice S3 AP.a.s.length a3, .slice N3 AP.a.n.length b3, .slice G3 AP.a.g.length c3', .slice D3 AP.d.length d3', .slice T3 AP.t.length e3] 42) := ⟨_, rfl⟩
        have v3 : VarW u3 (World.heap w3).size S3 N3 G3 D3 T3 a3 b3 c3' d3' e3 AP := by rw [hu3]; exact VarW.new rv3 _ _ _ _ _
        have hbu : Below (World.heap w3).size w3 u3 := by rw [hu3]; exact balloc (Below.refl _ _) _
        rw [← hu3]
        clear hu3
        replace hB2 := bstep hB2 hbu
        replace hk1 := hk1.keep hbu
        replace hk2 := hk2.keep hbu
        replace hk3 := hk3.keep hbu
        replace hxE := hxE.keep hbu
        replace hyE := hyE.keep hbu
        replace hrE := hrE.keep hbu
        replace hAE := hAE.keep hbu
        clear hbu
        refine (HAR.out _ hxE hyE hrE).mono ?_
        rintro _ w4 ⟨S4, N4, G4, D4, T4, a4, b4, c4', d4, e4, rfl, rv4, hb4⟩
        replace hB2 := bstep hB2 hb4
        replace hk1 := hk1.keep hb4
        replace hk2 := hk2.keep hb4
        replace hk3 := hk3.keep hb4
        replace hxE := hxE.keep hb4
        replace hyE := hyE.keep hb4
        replace hrE := hrE.keep hb4
        replace hAE := hAE.keep hb4
        replace v3 := v3.keep hb4
        have j0 : World.cell? w4 ⟨w.heap.size, 0, none⟩ = some (.slice X xs.length cx) := hk1.cell 0
        have jf0 := hk1.frozen 0
        have j1 : World.cell? w4 ⟨w.heap.size, 1, none⟩ = some (.slice Y ys.length cy) := hk1.cell 1
        have jf1 := hk1.frozen 1
        have j2 : World.cell? w4 ⟨w.heap.size, 2, none⟩ = some (.int .i64 m) := hk1.cell 2
        have jf2 := hk1.frozen 2
        have j3 : World.cell? w4 ⟨w.heap.size, 3, none⟩ = some (.int .i64 s) := hk1.cell 3
        have jf3 := hk1.frozen 3
        have jfl := hk1.lt
        go_wp2_with fail
        clear j0 j1 j2 j3 jf0 jf1 jf2 jf3 jfl
        obtain ⟨u4, hu4⟩ : ∃ u4, u4 = World.alloc w4 (.cells #[.slice S4 AP.a.s.length a4, .slice N4 AP.a.n.length b4, .slice G4 AP.a.g.length c4', .slice D4 AP.d.length d4, .slice T4 AP.t.length e4] 42) := ⟨_, rfl⟩
        have v4 : VarW u4 (World.heap w4).size S4 N4 G4 D4 T4 a4 b4 c4' d4 e4 AP := by rw [hu4]; exact VarW.new rv4 _ _ _ _ _
        have hbu : Below (World.heap w4).size w4 u4 := by rw [hu4]; exact balloc (Below.refl _ _) _
        rw [← hu4]
        clear hu4
        replace hB2 := bstep hB2 hbu
        replace hk1 := hk1.keep hbu
        replace hk2 := hk2.keep hbu
        replace hk3 := hk3.keep hbu
        replace hxE := hxE.keep hbu
        replace hyE := hyE.keep hbu
        replace hrE := hrE.keep hbu
        replace hAE := hAE.keep hbu
        replace v3 := v3.keep hbu
        clear hbu hk3
        refine (HRL.out _ hxE hyE hAE).mono ?_
        rintro _ w5 ⟨S5, N5, G5, D5, T5, a5, b5, c5', d5, e5, rfl, rv5, hb5⟩
        replace hB2 := bstep hB2 hb5
        replace hk1 := hk1.keep hb5
        replace hk2 := hk2.keep hb5
        replace hxE := hxE.keep hb5
        replace hyE := hyE.keep hb5
        replace hrE := hrE.keep hb5
        replace hAE := hAE.keep hb5
        replace v3 := v3.keep hb5
        replace v4 := v4.keep hb5
        have j0 : World.cell? w5 ⟨w.heap.size, 0, none⟩ = some (.slice X xs.length cx) := hk1.cell 0
        have jf0 := hk1.frozen 0
        have j1 : World.cell? w5 ⟨w.heap.size, 1, none⟩ = some (.slice Y ys.length cy) := hk1.cell 1
        have jf1 := hk1.frozen 1
        have j2 : World.cell? w5 ⟨w.heap.size, 2, none⟩ = some (.int .i64 m) := hk1.cell 2
        have jf2 := hk1.frozen 2
        have j3 : World.cell? w5 ⟨w.heap.size, 3, none⟩ = some (.int .i64 s) := hk1.cell 3
        have jf3 := hk1.frozen 3
        have jfl := hk1.lt
        go_wp2_with fail
        clear j0 j1 j2 j3 jf0 jf1 jf2 jf3 jfl
        obtain ⟨u5, hu5⟩ : ∃ u5, u5 = World.alloc w5 (.cells #[.slice S5 RU.a.s.length a5, .slice N5 RU.a.n.length b5, .slice G5 RU.a.g.length c5', .slice D5 RU.d.length d5, .slice T5 RU.t.length e5] 42) := ⟨_, rfl⟩
        have v5 : VarW u5 (World.heap w5).size S5 N5 G5 D5 T5 a5 b5 c5' d5 e5 RU := by rw [hu5]; exact VarW.new rv5 _ _ _ _ _
        have hbu : Below (World.heap w5).size w5 u5 := by rw [hu5]; exact balloc (Below.refl _ _) _
        rw [← hu5]
        clear hu5
        replace hB2 := bstep hB2 hbu
        replace hk1 := hk1.keep hbu
        replace hk2 := hk2.keep hbu
        replace hxE := hxE.keep hbu
        replace hyE := hyE.keep hbu
        replace hrE := hrE.keep hbu
        replace hAE := hAE.keep hbu
        replace v3 := v3.keep hbu
        replace v4 := v4.keep hbu
        clear hbu
        refine (HRR.out _ hxE hyE hAE).mono ?_
        rintro _ w6 ⟨S6, N6, G6, D6, T6, a6, b6, c6, d6, e6, rfl, rv6, hb6⟩
        replace hB2 := bstep hB2 hb6
        replace hk1 := hk1.keep hb6
        replace hk2 := hk2.keep hb6
        replace hxE := hxE.keep hb6
        replace hyE := hyE.keep hb6
        replace hrE := hrE.keep hb6
        replace v3 := v3.keep hb6
        replace v4 := v4.keep hb6
        replace v5 := v5.keep hb6
        have j0 : World.cell? w6 ⟨w.heap.size, 0, none⟩ = some (.slice X xs.length cx) := hk1.cell 0
        have jf0 := hk1.frozen 0
        have j1 : World.cell? w6 ⟨w.heap.size, 1, none⟩ = some (.slice Y ys.length cy) := hk1.cell 1
        have jf1 := hk1.frozen 1
        have j2 : World.cell? w6 ⟨w.heap.size, 2, none⟩ = some (.int .i64 m) := hk1.cell 2
        have jf2 := hk1.frozen 2
        have j3 : World.cell? w6 ⟨w.heap.size, 3, none⟩ = some (.int .i64 s) := hk1.cell 3
        have jf3 := hk1.frozen 3
        have jfl := hk1.lt
        have p0 : World.cell? w6 ⟨(w.heap.size + 1), 0, none⟩ = some (.slice S1 r.a.s.length c1) := hk2.cell 0
        have g0 := hk2.frozen 0
        have p1 : World.cell? w6 ⟨(w.heap.size + 1), 1, none⟩ = some (.slice N1 r.a.n.length c2) := hk2.cell 1
        have g1 := hk2.frozen 1
        have p2 : World.cell? w6 ⟨(w.heap.size + 1), 2, none⟩ = some (.slice G1 r.a.g.length c3) := hk2.cell 2
        have g2 := hk2.frozen 2
        have p3 : World.cell? w6 ⟨(w.heap.size + 1), 3, none⟩ = some (.slice D r.d.length c4) := hk2.cell 3
        have g3 := hk2.frozen 3
        have p4 : World.cell? w6 ⟨(w.heap.size + 1), 4, none⟩ = some (.slice T r.t.length c5) := hk2.cell 4
        have g4 := hk2.frozen 4
        have gl := hk2.lt
        go_wp2_with fail
        clear j0 j1 j2 j3 jf0 jf1 jf2 jf3 jfl
        clear p0 p1 p2 p3 p4 g0 g1 g2 g3 g4 gl
        obtain ⟨u6, hu6⟩ : ∃ u6, u6 = World.alloc w6 (.cells #[.slice S6 RU.a.s.length a6, .slice N6 RU.a.n.length b6, .slice G6 RU.a.g.length c6, .slice D6 RU.d.length d6, .slice T6 RU.t.length e6] 42) := ⟨_, rfl⟩
        have v6 : VarW u6 (World.heap w6).size S6 N6 G6 D6 T6 a6 b6 c6 d6 e6 RU := by rw [hu6]; exact VarW.new rv6 _ _ _ _ _
        have hbu : Below (World.heap w6).size w6 u6 := by rw [hu6]; exact balloc (Below.refl _ _) _
        rw [← hu6]
        clear hu6
        replace hB2 := bstep hB2 hbu
        replace hk1 := hk1.keep hbu
        replace hk2 := hk2.keep hbu
        replace hxE := hxE.keep hbu
        replace hyE := hyE.keep hbu
        replace hrE := hrE.keep hbu
        replace v3 := v3.keep hbu
        replace v4 := v4.keep hbu
        replace v5 := v5.keep hbu
        clear hbu
        refine (HSL.out _ hxE hyE hrE).mono ?_
        rintro _ w7 ⟨A7, k7, rfl, ho7, hb7⟩
        replace hB2 := bstep hB2 hb7
        replace ho7 := own_RL ho7
        replace hk1 := hk1.keep hb7
        replace hk2 := hk2.keep hb7
        replace hxE := hxE.keep hb7
        replace hyE := hyE.keep hb7
        replace hrE := hrE.keep hb7
        replace v3 := v3.keep hb7
        replace v4 := v4.keep hb7
        replace v5 := v5.keep hb7
        replace v6 := v6.keep hb7
        have j0 : World.cell? w7 ⟨w.heap.size, 0, none⟩ = some (.slice X xs.length cx) := hk1.cell 0
        have jf0 := hk1.frozen 0
        have j1 : World.cell? w7 ⟨w.heap.size, 1, none⟩ = some (.slice Y ys.length cy) := hk1.cell 1
        have jf1 := hk1.frozen 1
        have j2 : World.cell? w7 ⟨w.heap.size, 2, none⟩ = some (.int .i64 m) := hk1.cell 2
        have jf2 := hk1.frozen 2
        have j3 : World.cell? w7 ⟨w.heap.size, 3, none⟩ = some (.int .i64 s) := hk1.cell 3
        have jf3 := hk1.frozen 3
        have jfl := hk1.lt
        have p0 : World.cell? w7 ⟨(w.heap.size + 1), 0, none⟩ = some (.slice S1 r.a.s.length c1) := hk2.cell 0
        have g0 := hk2.frozen 0
        have p1 : World.cell? w7 ⟨(w.heap.size + 1), 1, none⟩ = some (.slice N1 r.a.n.length c2) := hk2.cell 1
        have g1 := hk2.frozen 1
        have p2 : World.cell? w7 ⟨(w.heap.size + 1), 2, none⟩ = some (.slice G1 r.a.g.length c3) := hk2.cell 2
        have g2 := hk2.frozen 2
        have p3 : World.cell? w7 ⟨(w.heap.size + 1), 3, none⟩ = some (.slice D r.d.length c4) := hk2.cell 3
        have g3 := hk2.frozen 3
        have p4 : World.cell? w7 ⟨(w.heap.size + 1), 4, none⟩ = some (.slice T r.t.length c5) := hk2.cell 4
        have g4 := hk2.frozen 4
        have gl := hk2.lt
        go_wp2_with fail
        refine (HSR.out _ hxE hyE hrE).mono ?_
        rintro _ w8 ⟨A8, k8, rfl, ho8, hb8⟩
        replace hB2 := bstep hB2 hb8
        replace ho8 := own_RL ho8
        clear j0 j1 j2 j3 jf0 jf1 jf2 jf3 jfl
        clear p0 p1 p2 p3 p4 g0 g1 g2 g3 g4 gl
        replace ho7 := ho7.keep hb8
        replace v3 := v3.keep hb8
        replace v4 := v4.keep hb8
        replace v5 := v5.keep hb8
        replace v6 := v6.keep hb8
        have y1 : (ae == ae) = true := beq_self_eq_true _
        have y2 : (rs == rs) = true := beq_self_eq_true _
        have y3 : (re == re) = true := beq_self_eq_true _
        have y4 : (ee == ee) = true := beq_self_eq_true _
        clear hk1 hk2 hxE hyE hrE
        have k3 := v3.blk
        have k4 := v4.blk
        have p0 : World.cell? w8 ⟨w3.heap.size, 0, none⟩ = some (.slice S3 AP.a.s.length a3) := k3.cell 0
        have g0 := k3.frozen 0
        have p1 : World.cell? w8 ⟨w3.heap.size, 1, none⟩ = some (.slice N3 AP.a.n.length b3) := k3.cell 1
        have g1 := k3.frozen 1
        have p2 : World.cell? w8 ⟨w3.heap.size, 2, none⟩ = some (.slice G3 AP.a.g.length c3') := k3.cell 2
        have g2 := k3.frozen 2
        have p3 : World.cell? w8 ⟨w3.heap.size, 3, none⟩ = some (.slice D3 AP.d.length d3') := k3.cell 3
        have g3 := k3.frozen 3
        have p4 : World.cell? w8 ⟨w3.heap.size, 4, none⟩ = some (.slice T3 AP.t.length e3) := k3.cell 4
        have g4 := k3.frozen 4
        have gl := k3.lt
        have q0 : World.cell? w8 ⟨w4.heap.size, 0, none⟩ = some (.slice S4 AP.a.s.length a4) := k4.cell 0
        have f0 := k4.frozen 0
        have q1 : World.cell? w8 ⟨w4.heap.size, 1, none⟩ = some (.slice N4 AP.a.n.length b4) := k4.cell 1
        have f1 := k4.frozen 1
        have q2 : World.cell? w8 ⟨w4.heap.size, 2, none⟩ = some (.slice G4 AP.a.g.length c4') := k4.cell 2
        have f2 := k4.frozen 2
        have q3 : World.cell? w8 ⟨w4.heap.size, 3, none⟩ = some (.slice D4 AP.d.length d4) := k4.cell 3
        have f3 := k4.frozen 3
        have q4 : World.cell? w8 ⟨w4.heap.size, 4, none⟩ = some (.slice T4 AP.t.length e4) := k4.cell 4
        have f4 := k4.frozen 4
        have fl := k4.lt
        go_wp2_with fail
        refine (HSA.out _ _ _ _ _ _ _ _ _ _ _ _ _ _ _ _ _ _ _ _ _ v3.rw_ v4.rw_).mono ?_
        rintro _ w9 ⟨rfl, hb9⟩
        clear p0 p1 p2 p3 p4 g0 g1 g2 g3 g4 gl
        clear q0 q1 q2 q3 q4 f0 f1 f2 f3 f4 fl k3 k4 v3 v4
        replace hB2 := bstep hB2 hb9
        replace ho7 := ho7.keep hb9
        replace ho8 := ho8.keep hb9
        replace v5 := v5.keep hb9
        replace v6 := v6.keep hb9
        have k3 := v5.blk
        have k4 := v6.blk
        have p0 : World.cell? w9 ⟨w5.heap.size, 0, none⟩ = some (.slice S5 RU.a.s.length a5) := k3.cell 0
        have g0 := k3.frozen 0
        have p1 : World.cell? w9 ⟨w5.heap.size, 1, none⟩ = some (.slice N5 RU.a.n.length b5) := k3.cell 1
        have g1 := k3.frozen 1
        have p2 : World.cell? w9 ⟨w5.heap.size, 2, none⟩ = some (.slice G5 RU.a.g.length c5') := k3.cell 2
        have g2 := k3.frozen 2
        have p3 : World.cell? w9 ⟨w5.heap.size, 3, none⟩ = some (.slice D5 RU.d.length d5) := k3.cell 3
        have g3 := k3.frozen 3
        have p4 : World.cell? w9 ⟨w5.heap.size, 4, none⟩ = some (.slice T5 RU.t.length e5) := k3.cell 4
        have g4 := k3.frozen 4
        have gl := k3.lt
        have q0 : World.cell? w9 ⟨w6.heap.size, 0, none⟩ = some (.slice S6 RU.a.s.length a6) := k4.cell 0
        have f0 := k4.frozen 0
        have q1 : World.cell? w9 ⟨w6.heap.size, 1, none⟩ = some (.slice N6 RU.a.n.length b6) := k4.cell 1
        have f1 := k4.frozen 1
        have q2 : World.cell? w9 ⟨w6.heap.size, 2, none⟩ = some (.slice G6 RU.a.g.length c6) := k4.cell 2
        have f2 := k4.frozen 2
        have q3 : World.cell? w9 ⟨w6.heap.size, 3, none⟩ = some (.slice D6 RU.d.length d6) := k4.cell 3
        have f3 := k4.frozen 3
        have q4 : World.cell? w9 ⟨w6.heap.size, 4, none⟩ = some (.slice T6 RU.t.length e6) := k4.cell 4
        have f4 := k4.frozen 4
        have fl := k4.lt
        go_wp2_with fail
        refine (HSU.out _ _ _ _ _ _ _ _ _ _ _ _ _ _ _ _ _ _ _ _ _ v5.rw_ v6.rw_).mono ?_
        rintro _ w10 ⟨rfl, hb10⟩
        clear p0 p1 p2 p3 p4 g0 g1 g2 g3 g4 gl
        clear q0 q1 q2 q3 q4 f0 f1 f2 f3 f4 fl k3 k4 v5 v6
        replace hB2 := bstep hB2 hb10
        replace ho7 := ho7.keep hb10
        replace ho8 := ho8.keep hb10
        go_wp2_with fail
        refine (HSE.out A7 A8 k7 k8 _ ho7 ho8).mono ?_
        rintro _ w11 ⟨rfl, nn, rfl⟩
        go_wp2
        go_ret
        exact ⟨rfl, below_drewN hB2 _⟩
end Wk
end Go.Proofs.Ytdekbncpodjgnaa
