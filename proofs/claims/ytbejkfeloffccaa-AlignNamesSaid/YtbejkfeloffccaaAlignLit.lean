/-
  Recordings typed out.
-/
import Derived.Test.YtbejkfeloffccaaAlignP
namespace Go.Proofs.Ytbejkfeloffccaa
open Go.RowKit
set_option linter.unusedVariables false

theorem RB_lit1 {w : World} {A : Option Addr} {g : Nat} {t : TypeId} {a1 : Int} {A1 : Option Addr} {n1 c1 : Nat} {xs1 : List Int} (hA : A = some ⟨g, 0, none⟩) (h : Blk w g t #[.int .i64 a1, .slice A1 n1 c1]) (r1 : RI .i64 w A1 xs1) (e1 : xs1.length = n1) (k1 : n1 ≤ c1) : RB w A [(a1, xs1)] := by
  subst hA; subst e1
  intro h0
  refine ⟨g, 0, rfl, h.lt, fun j hj => ?_⟩
  obtain rfl : j = 0 := by simpa using hj
  exact ⟨h.cell 0, A1, c1, h.cell 1, r1, k1⟩
theorem RB_lit2 {w : World} {A : Option Addr} {g : Nat} {t : TypeId} {a1 a2 : Int} {A1 A2 : Option Addr} {n1 n2 c1 c2 : Nat} {xs1 xs2 : List Int} (hA : A = some ⟨g, 0, none⟩) (h : Blk w g t #[.int .i64 a1, .slice A1 n1 c1, .int .i64 a2, .slice A2 n2 c2]) (r1 : RI .i64 w A1 xs1) (e1 : xs1.length = n1) (k1 : n1 ≤ c1) (r2 : RI .i64 w A2 xs2) (e2 : xs2.length = n2) (k2 : n2 ≤ c2) : RB w A [(a1, xs1), (a2, xs2)] := by
  subst hA; subst e1; subst e2
  intro h0
  refine ⟨g, 0, rfl, h.lt, fun j hj => ?_⟩
  rcases (show j = 0 ∨ j = 1 by simp at hj; omega) with rfl | rfl
  · exact ⟨h.cell 0, A1, c1, h.cell 1, r1, k1⟩
  · exact ⟨h.cell 2, A2, c2, h.cell 3, r2, k2⟩
end Go.Proofs.Ytbejkfeloffccaa
