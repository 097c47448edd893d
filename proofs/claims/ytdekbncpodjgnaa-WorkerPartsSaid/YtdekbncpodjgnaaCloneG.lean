/-
  'append([]T{}, l...)' as one step of a region that draws, for any kind of elements; rows as facts of a region.
-/
import Derived.Test.YtdekbncpodjgnaaRegE
import Derived.Test.YtdekbncpodjgnaaAppend
import Derived.Test.YtdekbncpodjgnaaRets
import Derived.Deep.RegionLawGrows
namespace Go.Proofs.Ytdekbncpodjgnaa
open Go Go.RowKit
set_option linter.unusedVariables false
set_option linter.unusedSimpArgs false
namespace Reg

theorem below_none {w w' : World} (h : w.grownBy w' none) : Below w.heap.size w w' := ⟨h.os, h.tape, h.output, h.size, fun k hk => h.block k hk (by simp)⟩
/-- The elements of a slice stand in memory. -/
def News {α : Type} (enc : α → List Value) (w : World) (A : Option Addr) (l : List α) : Prop :=
  0 < l.length → ∃ b off, A = some ⟨b, off, none⟩ ∧ ∀ j u, (l.flatMap enc)[j]? = some u → w.cell? ⟨b, off + j, none⟩ = some u
theorem news_RI {k : IntKind} {w : World} {A : Option Addr} {l : List Int} (h : RI k w A l) : News (encI k) w A l := by
  intro h0
  obtain ⟨b, off, e, _, hc⟩ := h h0
  refine ⟨b, off, e, fun j u hu => ?_⟩
  have hj : j < l.length := by
    have := (List.getElem?_eq_some_iff.1 hu).1
    rwa [flat_len (encI k) 1 (encI_len k), Nat.mul_one] at this
  have h1 := flat_get (encI k) 1 (encI_len k) l j 0 (by omega) hj
  rw [Nat.mul_one, Nat.add_zero, hu] at h1
  rw [hc j hj, getD_lt _ _ hj]
  simpa [encI] using h1.symm
/-- A slice that was made: its row is owned. -/
def Made {α : Type} (enc : α → List Value) (e : TypeId) (sz B : Nat) (l : List α) (A : Option Addr) (c : Nat) (w : World) : Prop :=
  l.length ≤ c ∧ (l = [] ∨ w.ownsRow B e sz (.slice A l.length c) l.length (l.flatMap enc))
theorem Made.keep {α : Type} {enc : α → List Value} {e : TypeId} {sz B : Nat} {l : List α} {A : Option Addr} {c : Nat} {w w' : World} (h : Made enc e sz B l A c w) (hb : Below w.heap.size w w') : Made enc e sz B l A c w' := by
  refine ⟨h.1, ?_⟩
  rcases h.2 with h1 | h1
  · exact .inl h1
  · exact .inr (own_keep h1 hb)
theorem Made.ri {k : IntKind} {e : TypeId} {B : Nat} {l : List Int} {A : Option Addr} {c : Nat} {w : World} (h : Made (encI k) e 1 B l A c w) : RI k w A l := by
  rcases h.2 with rfl | h1
  · exact RI.nil
  · exact own_RI h1
/-- A store into a block of another type leaves it. -/
theorem Made.far {α : Type} {enc : α → List Value} {e : TypeId} {sz B : Nat} {l : List α} {A : Option Addr} {c : Nat} {w : World} (h : Made enc e sz B l A c w) {p : Addr} {cs : Array Value} {t : TypeId} (hp : Blk w p.block t cs) (hne : e ≠ t) (u : Value) : Made enc e sz B l A c (w.setCell p u) := by
  refine ⟨h.1, ?_⟩
  rcases h.2 with h1 | h1
  · exact .inl h1
  · refine .inr ⟨h1.1, ?_⟩
    rcases h1.2 with h2 | ⟨g, cap, cur, h2, h3, h4, h5⟩
    · exact .inl h2
    · refine .inr ⟨g, cap, cur, h2, h3, ?_, h5⟩
      have hgp : g ≠ p.block := by
        intro e2
        unfold Blk at hp
        rw [← e2, h4] at hp
        injection hp with hp
        injection hp with _ h6
        exact hne h6
      rw [Below.heap_setCell w p u g hgp]
      exact h4
def emptyV (B : Nat) (v : Value) : Prop := ∃ g, v = .slice (some ⟨g, 0, none⟩) 0 0 ∧ B ≤ g
/-- 'append([]T{}, l...)' as one step of a region that draws. -/
theorem step_clone_G {P : Program} {w : World} {ops : Array Oper} {o : Oper} {a : Act} {K : Act → World → Prop} {Q : Exit → Act → World → Prop} {E : Prop} (hgd : o.guard = none) (s x : Operand) (t : TypeId)
    (ho : o.op = .call { callee := .builtin .append, args := #[s, x], argTypes := #[t, t] })
    (e : TypeId) {i : TypeInfo} {z : Value} (sz bytes : Nat) (ht : P.underlying t = some (.slice e)) (hi : P.info? e = some i) (hz : i.zero = some z)
    (hsize : i.size = sz) (hby : i.bytes = bytes) (hzs : z.cells.size = sz) (h1 : 1 ≤ sz) {α : Type} (enc : α → List Value) (henc : ∀ x, (enc x).length = sz) (hone : ∀ y, ∀ u ∈ enc y, u.oneCell' = true) (B : Nat) (v : Value) (hs : a.eval s = v) (hv : emptyV B v) (hB : B ≤ w.heap.size)
    (A : Option Addr) (c : Nat) (l : List α) (hx : a.eval x = .slice A l.length c) (hr : News enc w A l) (h63 : l.length ≤ maxLen) (hbytes : l.length * bytes ≤ 140737488355328)
    (h : ∀ A' c' w', Made enc e sz B l A' c' w' → Below w.heap.size w w' → K (a.put o.dst (.slice A' l.length c')) w') :
    if Region.wanted o (yielded ops a.tmps) = true then Oper.wp P o a w K Q else E := by
  obtain ⟨g, rfl, hg⟩ := hv
  by_cases h0 : l.length = 0
  · have hw : Region.wanted o (yielded ops a.tmps) = true := by simp [Region.wanted, hgd]
    rw [if_pos hw]
    have hl : l = [] := List.length_eq_zero_iff.1 h0
    subst hl
    have hrun : (Builtin.append_ #[t, t] o.type #[.slice (some ⟨g, 0, none⟩) 0 0, .slice A 0 c]).run P w = .ok (.slice (some ⟨g, 0, none⟩) 0 0) w := by
      cases A <;> simp [Builtin.append_, run_underlying ht, sizeOf, typeInfo, hi, Builtin.lenOf, Builtin.firstCells, storeCells, loadCells, loadCellsFrom]
    unfold Oper.wp
    simp [execOp, ho, resolve, invoke, builtin, hs, hx, hrun, Result.andThen]
    exact h (some ⟨g, 0, none⟩) 0 w ⟨Nat.le_refl _, .inl rfl⟩ (Below.refl _ _)
  · obtain ⟨b, off, rfl, hc⟩ := hr (by omega)
    refine step_append_grows hgd s x t ho e i z sz bytes ht hi hz hsize hby hzs h1 (some ⟨g, 0, none⟩) 0 0 [] hs (by intro h; cases h) (by simp) (by simp) ⟨b, off, none⟩ l.length c (l.flatMap enc) hx (by rw [flat_len enc sz henc]) (by
        intro j u hu
        have e2 : (⟨b, off, none⟩ : Addr).add j = ⟨b, off + j, none⟩ := by unfold Addr.add; split <;> simp_all
        rw [e2]
        exact hc j u hu) (by
        intro u hu
        obtain ⟨y, _, hy⟩ := List.mem_flatMap.1 hu
        exact hone y u hy) (by omega) (by omega) (by simpa using hbytes) ?_
    intro v' w' hown hgrow
    rw [Nat.zero_add, List.nil_append] at hown
    obtain ⟨A', c', rfl, hc'⟩ := own_shape' hown
    refine h A' c' w' ⟨hc', .inr ⟨hown.1, ?_⟩⟩ (below_none hgrow)
    rcases hown.2 with h2 | ⟨g', cap, cur, h2, h3, h4⟩
    · exact .inl h2
    · exact .inr ⟨g', cap, cur, h2, by omega, h4⟩
end Reg
end Go.Proofs.Ytdekbncpodjgnaa
