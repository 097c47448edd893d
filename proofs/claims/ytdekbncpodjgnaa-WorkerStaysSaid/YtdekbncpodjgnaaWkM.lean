/-
  Jobs of layer 19. The walk of WorkerSame.
-/
import Derived.Test.YtdekbncpodjgnaaPWkL
import Derived.Test.YtdekbncpodjgnaaPWkQ
import Derived.Test.YtdekbncpodjgnaaPWkQ
namespace Go.Proofs.Ytdekbncpodjgnaa
open Go.RowKit Runs Lagc Reg
set_option linter.unusedVariables false
set_option linter.unusedSimpArgs false
namespace Wk
open Lagw

theorem runL_facts {C : Nat} : ∀ (l : List Ev) (s : List Bool × List Int) (k : Nat), Good19 C s.1 s.2 → Good19 C (runL s l k).1.1.1 (runL s l k).1.1.2 ∧ (runL s l k).1.1.2.length = s.2.length ∧ (runL s l k).1.2 ≤ k + l.length ∧ ((runL s l k).2 = 0 ↔ (runL s l k).1.2 = k + l.length) := by
  intro l
  induction l with
  | nil => intro s k h; exact ⟨h, rfl, Nat.le_refl _, by simp [runL]⟩
  | cons e l ih =>
    intro s k h
    by_cases h0 : (stepS s.1 s.2 e).2 = 0
    · have hs : runL s (e :: l) k = runL (stepS s.1 s.2 e).1 l (k + 1) := by rw [runL, if_neg (by simp [h0])]
      obtain ⟨h1, h2⟩ := step_good h h0
      obtain ⟨i1, i2, i3, i4⟩ := ih (stepS s.1 s.2 e).1 (k + 1) h1
      rw [hs]
      refine ⟨i1, i2.trans h2, by rw [List.length_cons]; omega, ?_⟩
      rw [i4, List.length_cons]
      omega
    · have hs : runL s (e :: l) k = ((s, k), (stepS s.1 s.2 e).2) := by rw [runL, if_pos h0]
      rw [hs]
      refine ⟨h, rfl, by simp only [List.length_cons]; omega, ?_⟩
      simp only [List.length_cons]
      constructor
      · intro h1; exact absurd h1 h0
      · intro h1; omega
theorem run_facts {xs ys : List Int} {M S N : Nat} {l : List Ev} (hj : Job xs ys M S) (h1 : 1 ≤ N) (h6 : N ≤ 6) (hl : l.length ≤ 400) :
    ∃ (d : List Bool) (t : List Int) (k : Nat) (e : Int), runS xs ys M S N l = ((workS xs ys M S (d, t), (k : Int)), e) ∧ runL (start19 (cdiv xs.length S) N) l 0 = (((d, t), k), e) ∧ Good19 (cdiv xs.length S) d t ∧ t.length = N ∧ k ≤ l.length ∧ (e = 0 ↔ k = l.length) := by
  have he : jobErr xs ys M S = 0 := jobErr_ok hj.x hj.y (by rw [Int.toNat_natCast]; have := hj.m; have := hj.s; have := hj.s2; have := hj.c; omega)
  obtain ⟨i1, i2, i3, i4⟩ := runL_facts l (start19 (cdiv xs.length S) N) 0 (start_good h1 h6)
  generalize hr : runL (start19 (cdiv xs.length S) N) l 0 = r at *
  obtain ⟨⟨⟨d, t⟩, k⟩, e⟩ := r
  refine ⟨d, t, k, e, ?_, rfl, i1, by rw [i2]; simp [start19], by simpa using i3, by simpa using i4⟩
  unfold runS
  rw [if_neg (by rw [openS_ok he (by omega)]; simp), if_neg (by omega)]
  simp only [Int.toNat_natCast]
  rw [hr]
theorem take_all_succ {d : List Bool} {k : Nat} (hk : k < d.length) : (d.take (k + 1)).all id = ((d.take k).all id && d.getD k false) := by
  rw [List.take_succ_eq_append_getElem hk, List.all_append, getD_lt _ _ hk]
  simp
theorem all_true {d : List Bool} (h : d.all id = true) : d = List.replicate d.length true := by
  refine List.ext_getElem (by simp) fun k h1 h2 => ?_
  rw [List.getElem_replicate]
  exact List.all_eq_true.1 h _ (List.getElem_mem h1)
theorem wanted_yes {ops : Array Oper} {o : Oper} {a : Act} {j d : Nat} {b : Bool} {oj : Oper} (hg : o.guard = some (j, b)) (hj : ops[j]? = some oj) (hd : oj.dst = some d) (he : a.tmps[d]?.getD undef = .bool b) : Region.wanted o (yielded ops a.tmps) = true := by
  unfold Region.wanted
  rw [hg]
  unfold yielded
  simp only [hj, Option.bind_some, hd]
  cases ht : a.tmps[d]? with
  | none => rw [ht] at he; simp [undef] at he
  | some v => rw [ht] at he; simp only [Option.getD_some] at he; subst he; simp
structure SmP where
  g8 : Nat
  j0 : Nat
  S : Option Addr
  N : Option Addr
  G : Option Addr
  D : Option Addr
  c1 : Nat
  c2 : Nat
  c3 : Nat
  c4 : Nat
  a : Acc
  n : Nat
  J : Value
def SmP.F (p : SmP) : Nat → Value → World → Prop
  | 0 => fun v _ => v = .bool true
  | 1 => fun v _ => v = .bool true
  | 2 => fun v _ => v = .int .i64 22
  | 3 => fun v _ => v = .bool true
  | 4 => fun v _ => v = .bool true
  | 5 => fun v _ => v = .bool true
  | 6 => fun v _ => v = .pointer (some ⟨p.g8, 0, none⟩)
  | 7 => fun v _ => v = .agg #[.slice p.S p.a.s.length p.c1, .slice p.N p.a.n.length p.c2, .slice p.G p.a.g.length p.c3]
  | 8 => fun v _ => v = p.J
  | 9 => fun v _ => v = .pointer (some ⟨p.g8, 3, none⟩)
  | 10 => fun v _ => v = .slice p.D p.n p.c4
  | 11 => fun v w => ∃ S N G c1 c2 c3, v = .agg #[.slice S p.a.s.length c1, .slice N p.a.n.length c2, .slice G p.a.g.length c3] ∧ RA w S N G p.a
  | 12 => fun v _ => v = .bool true
  | 13 => fun v _ => v = .bool true
  | _ => fun _ _ => True
theorem SmP.keep (p : SmP) : ∀ k v w w', Below w.heap.size w w' → p.F k v w → p.F k v w' := by
  intro k v w w' hb h
  match k, h with
  | 0, h => exact h
  | 1, h => exact h
  | 2, h => exact h
  | 3, h => exact h
  | 4, h => exact h
  | 5, h => exact h
  | 6, h => exact h
  | 7, h => exact h
  | 8, h => exact h
  | 9, h => exact h
  | 10, h => exact h
  | 11, ⟨S, N, G, c1, c2, c3, e, h1⟩ => exact ⟨S, N, G, c1, c2, c3, e, h1.keep hb⟩
  | 12, h => exact h
  | 13, h => exact h
  | n + 14, _ => trivial
theorem grow_callG {P : Program} {o : Oper} {a : Act} {w : World} {K : Act → World → Prop} {Q : Exit → Act → World → Prop} {f : FuncId} {args : Array Operand} {ts : Array TypeId} {vs : Array Value} (hop : o.op = .call { callee := .value (.func f), args := args, argTypes := ts }) (hx : args.map a.eval = vs)
    (hc : ∀ xs w, (callFunc f xs).run P w = .ok (.enter f xs) w) (h : Calls P f vs w fun e w' => ∃ v, e = .returned v ∧ K (a.put o.dst v) w') : o.wp P a w K Q := by
  have e2 : execOp a.eval o = callFunc f (#[] ++ args.map a.eval ++ #[]) := by
    unfold execOp
    rw [hop]
    rfl
  have e3 : (#[] ++ vs ++ #[] : Array Value) = vs := by simp
  unfold Oper.wp
  rw [e2, hx, e3, hc]
  refine h.mono ?_
  rintro _ w' ⟨v, rfl, hk⟩
  exact hk
set_option maxRecDepth 20000 in
set_option maxHeartbeats 4000000 in
theorem workerSame_walk (X Y A : Option Addr) (cx cy c : Nat) (xs ys : List Int) (m s : Int) (n : Int) (l : List Ev) (w : World) (hj : InJ w X Y cx cy xs ys m s) (hn : -9223372036854775808 ≤ n ∧ n ≤ 9223372036854775807) (hA : InE w A c l) :
    Calls Try.prog 5 #[.agg #[.slice X xs.length cx, .slice Y ys.length cy, .int .i64 m, .int .i64 s], .int .i64 n, .slice A l.length c] w fun e w' => e = .returned (.bool true) ∧ Below w.heap.size w w' := by
  have hx := hj.x
  have hy := hj.y
  have hcx := hj.cx
  have hAr := hA.r
  have hAl := hA.len
  have HF1 := Lib.hid (fun w hx hy => fit19_any X Y cx cy xs ys m s w hx hy)
  clear hj hA
  by_cases hno : fitJ xs ys m s = false ∨ n < 1 ∨ 6 < n ∨ 40 < l.length
  · have hcase : fitJ xs ys m s = false ∨ (fitJ xs ys m s = true ∧ decide (n < 1) = true) ∨ (fitJ xs ys m s = true ∧ decide (n < 1) = false ∧ decide (6 < n) = true) ∨ (fitJ xs ys m s = true ∧ decide (n < 1) = false ∧ decide (6 < n) = false ∧ decide (40 < (l.length : Int)) = true) := by
      cases hf : fitJ xs ys m s
      · exact .inl rfl
      · right
        by_cases h1 : n < 1
        · exact .inl ⟨rfl, decide_eq_true h1⟩
        · right
          by_cases h2 : 6 < n
          · exact .inl ⟨rfl, decide_eq_false h1, decide_eq_true h2⟩
          · right
            rw [hf] at hno
            exact ⟨rfl, decide_eq_false h1, decide_eq_false h2, decide_eq_true (by simp at hno; omega)⟩
    clear hno
    have hk := Blk.new w 24 #[.slice X xs.length cx, .slice Y ys.length cy, .int .i64 m, .int .i64 s]
    have hbX : Below w.heap.size w (w.alloc (.cells #[.slice X xs.length cx, .slice Y ys.length cy, .int .i64 m, .int .i64 s] 24)) := balloc (Below.refl _ _) _
    have q0 : World.cell? (w.alloc (.cells #[.slice X xs.length cx, .slice Y ys.length cy, .int .i64 m, .int .i64 s] 24)) ⟨w.heap.size, 0, none⟩ = some (.slice X xs.length cx) := hk.cell 0
    have f0 := hk.frozen 0
    have q1 : World.cell? (w.alloc (.cells #[.slice X xs.length cx, .slice Y ys.length cy, .int .i64 m, .int .i64 s] 24)) ⟨w.heap.size, 1, none⟩ = some (.slice Y ys.length cy) := hk.cell 1
    have f1 := hk.frozen 1
    have q2 : World.cell? (w.alloc (.cells #[.slice X xs.length cx, .slice Y ys.length cy, .int .i64 m, .int .i64 s] 24)) ⟨w.heap.size, 2, none⟩ = some (.int .i64 m) := hk.cell 2
    have f2 := hk.frozen 2
    have q3 : World.cell? (w.alloc (.cells #[.slice X xs.length cx, .slice Y ys.length cy, .int .i64 m, .int .i64 s] 24)) ⟨w.heap.size, 3, none⟩ = some (.int .i64 s) := hk.cell 3
    have f3 := hk.frozen 3
    have fl := hk.lt
    have hxk := hx.keep hbX
    have hyk := hy.keep hbX
    rcases hcase with h | ⟨h, h1⟩ | ⟨h, h1, h2⟩ | ⟨h, h1, h2, h3⟩
    all_goals
      rw [h] at HF1
      clear h
      go_enter Try.func5, Try.ntmps5
      go_wp2_with fail
      refine (alive19 _).mono ?_
      rintro _ w1 ⟨rfl, hb1⟩
      have hB1 := bstep hbX hb1
      clear q0 q1 q2 q3 f0 f1 f2 f3 fl
      replace hk := hk.keep hb1
      replace hxk := hxk.keep hb1
      replace hyk := hyk.keep hb1
      have q0 : World.cell? w1 ⟨w.heap.size, 0, none⟩ = some (.slice X xs.length cx) := hk.cell 0
      have f0 := hk.frozen 0
      have q1 : World.cell? w1 ⟨w.heap.size, 1, none⟩ = some (.slice Y ys.length cy) := hk.cell 1
      have f1 := hk.frozen 1
      have q2 : World.cell? w1 ⟨w.heap.size, 2, none⟩ = some (.int .i64 m) := hk.cell 2
      have f2 := hk.frozen 2
      have q3 : World.cell? w1 ⟨w.heap.size, 3, none⟩ = some (.int .i64 s) := hk.cell 3
      have f3 := hk.frozen 3
      have fl := hk.lt
      go_wp2_with fail
      refine (HF1.out _ hxk hyk).mono ?_
      rintro _ w2 ⟨rfl, hb2⟩
      go_wp2
      go_ret
      exact ⟨rfl, bstep hB1 hb2⟩
  have hft : fitJ xs ys m s = true := by
    cases hf : fitJ xs ys m s
    · exact absurd (.inl hf) hno
    · rfl
  rw [hft] at HF1
  have d1 : decide (n < 1) = false := decide_eq_false (fun h => hno (.inr (.inl h)))
  have d2 : decide (6 < n) = false := decide_eq_false (fun h => hno (.inr (.inr (.inl h))))
  have d3 : decide (40 < (l.length : Int)) = false := decide_eq_false (fun h => hno (.inr (.inr (.inr (by omega)))))
  obtain ⟨M, S, rfl, rfl, hJ, h12⟩ := fitJ_yes hft
  obtain ⟨N, rfl⟩ : ∃ N : Nat, n = N := ⟨n.toNat, by omega⟩
  have hlx := hJ.lx
  have hly := (streamErr_zero hJ.y).1
  have hM := hJ.m
  have HRun := Lib.hid (fun w hx hy hA => run_any X Y A cx cy c xs ys M S N l w hx hy hcx (by omega) (by omega) hA hAl)
  obtain ⟨d, t, k, e, hr1, _, hG, ht, hk, hek⟩ := run_facts (l := l) hJ (N := N) (by omega) (by omega) (by omega)
  rw [hr1] at HRun
  subst ht
  have hdl : d.length ≤ 64 := by have := hG.d; have := hJ.c; omega
  have hws := work_small hJ (st := (d, t)) hG
  have hws2 : (sumA xs ys M S d).s.length ≤ 511 ∧ (sumA xs ys M S d).n.length ≤ 511 ∧ (sumA xs ys M S d).g.length ≤ 64 := ⟨hws.1, hws.2.1, hws.2.2.1⟩
  have HRes := Lib.hid (fun S1 N1 G1 D T c1 c2 c3 c4 c5 w hx hy hr => result_any X Y S1 N1 G1 D T cx cy c1 c2 c3 c4 c5 xs ys M S (workS xs ys M S (d, t)) w hx hy hcx (by omega) (by omega) hr (by omega) (by omega) (by omega) (by omega) (by omega))
  rw [res_work hJ (st := (d, t)) hG] at HRes
  have HSum := Lib.hid (fun D c4 w hx hy hd => summed_any hJ X Y D cx cy c4 d w hx hy hd hG.d)
  have HSame := Lib.hid (fun Sa Na Ga S' N' G' x y z x' y' z' w hx hy => same18_any Sa Na Ga S' N' G' x y z x' y' z' (sumA xs ys M S d) (sumA xs ys M S d) w hx hy (by omega) (by omega) (by omega) (by omega) (by omega) (by omega))
  rw [show sameB (sumA xs ys M S d) (sumA xs ys M S d) = true from sameB_iff.2 rfl] at HSame
  have HOf := Lib.hid (fun w hx hy => lagOf_any X Y cx cy xs ys M w hx hy (by omega) (by omega))
  rw [ofSpec_ok hJ.x hJ.y (m := M) (by omega)] at HOf
  have HQ := Lib.hid (fun A B c d w hx hy => Lagc.same16_any A B c d (lagCells xs ys M) (lagCells xs ys M) w hx hy (by rw [lagCells_len]; omega) (by rw [lagCells_len]; omega))
  rw [decide_eq_true rfl] at HQ
  have HALL : Hid (d.all id = true → fullL (sumsF xs ys M S d) (2 * M + 1) = lagCells xs ys M) := Lib.hid (fun h => by
    have e1 := all_true h
    rw [hG.d] at e1
    have e2 := sums_all hJ
    rw [← e1] at e2
    exact e2)
  have hWS : workS xs ys M S (d, t) = ⟨sumA xs ys M S d, d, t⟩ := rfl
  rw [hWS] at HRun
  simp only [hWS] at HRes
  generalize fullL (sumsF xs ys M S d) (2 * M + 1) = FL at *
  generalize lagCells xs ys M = L at *
  generalize sumA xs ys M S d = SD at *
  clear hWS hws hws2 hr1 hJ h12 hft hno
  obtain ⟨bb, e1, e2⟩ : ∃ bb, (e == 0) = bb ∧ ((k : Int) == (l.length : Int)) = bb := by
    by_cases h0 : e = 0
    · exact ⟨true, by simp [h0], by simp [hek.1 h0]⟩
    · exact ⟨false, by simp [h0], by rw [beq_eq_false_iff_ne]; intro h; exact h0 (hek.2 (by omega))⟩
  have d4 : decide ((k : Int) < 0) = false := decide_eq_false (by omega)
  have d5 : decide ((l.length : Int) < (k : Int)) = false := decide_eq_false (by omega)
  have e3 : (bb != bb) = false := by cases bb <;> rfl
  clear hek hG
  have hkJ := Blk.new w 24 #[.slice X xs.length cx, .slice Y ys.length cy, .int .i64 (M : Int), .int .i64 (S : Int)]
  have hbX : Below w.heap.size w (w.alloc (.cells #[.slice X xs.length cx, .slice Y ys.length cy, .int .i64 (M : Int), .int .i64 (S : Int)] 24)) := balloc (Below.refl _ _) _
  have q0 : World.cell? (w.alloc (.cells #[.slice X xs.length cx, .slice Y ys.length cy, .int .i64 (M : Int), .int .i64 (S : Int)] 24)) ⟨w.heap.size, 0, none⟩ = some (.slice X xs.length cx) := hkJ.cell 0
  have f0 := hkJ.frozen 0
  have q1 : World.cell? (w.alloc (.cells #[.slice X xs.length cx, .slice Y ys.length cy, .int .i64 (M : Int), .int .i64 (S : Int)] 24)) ⟨w.heap.size, 1, none⟩ = some (.slice Y ys.length cy) := hkJ.cell 1
  have f1 := hkJ.frozen 1
  have q2 : World.cell? (w.alloc (.cells #[.slice X xs.length cx, .slice Y ys.length cy, .int .i64 (M : Int), .int .i64 (S : Int)] 24)) ⟨w.heap.size, 2, none⟩ = some (.int .i64 (M : Int)) := hkJ.cell 2
  have f2 := hkJ.frozen 2
  have q3 : World.cell? (w.alloc (.cells #[.slice X xs.length cx, .slice Y ys.length cy, .int .i64 (M : Int), .int .i64 (S : Int)] 24)) ⟨w.heap.size, 3, none⟩ = some (.int .i64 (S : Int)) := hkJ.cell 3
  have f3 := hkJ.frozen 3
  have fl := hkJ.lt
  have hxk := hx.keep hbX
  have hyk := hy.keep hbX
  have hAk := hAr.keep hbX
  go_enter Try.func5, Try.ntmps5
  go_wp2_with fail
  refine (alive19 _).mono ?_
  rintro _ w1 ⟨rfl, hb1⟩
  have hB1 := bstep hbX hb1
  clear q0 q1 q2 q3 f0 f1 f2 f3 fl
  replace hkJ := hkJ.keep hb1
  replace hxk := hxk.keep hb1
  replace hyk := hyk.keep hb1
  replace hAk := hAk.keep hb1
  have q0 : World.cell? w1 ⟨w.heap.size, 0, none⟩ = some (.slice X xs.length cx) := hkJ.cell 0
  have f0 := hkJ.frozen 0
  have q1 : World.cell? w1 ⟨w.heap.size, 1, none⟩ = some (.slice Y ys.length cy) := hkJ.cell 1
  have f1 := hkJ.frozen 1
  have q2 : World.cell? w1 ⟨w.heap.size, 2, none⟩ = some (.int .i64 (M : Int)) := hkJ.cell 2
  have f2 := hkJ.frozen 2
  have q3 : World.cell? w1 ⟨w.heap.size, 3, none⟩ = some (.int .i64 (S : Int)) := hkJ.cell 3
  have f3 := hkJ.frozen 3
  have fl := hkJ.lt
  go_wp2_with fail
  refine (HF1.out _ hxk hyk).mono ?_
  rintro _ w2 ⟨rfl, hb2⟩
  have hB2 := bstep hB1 hb2
  clear q0 q1 q2 q3 f0 f1 f2 f3 fl
  replace hkJ := hkJ.keep hb2
  replace hxk := hxk.keep hb2
  replace hyk := hyk.keep hb2
  replace hAk := hAk.keep hb2
  have q0 : World.cell? w2 ⟨w.heap.size, 0, none⟩ = some (.slice X xs.length cx) := hkJ.cell 0
  have f0 := hkJ.frozen 0
  have q1 : World.cell? w2 ⟨w.heap.size, 1, none⟩ = some (.slice Y ys.length cy) := hkJ.cell 1
  have f1 := hkJ.frozen 1
  have q2 : World.cell? w2 ⟨w.heap.size, 2, none⟩ = some (.int .i64 (M : Int)) := hkJ.cell 2
  have f2 := hkJ.frozen 2
  have q3 : World.cell? w2 ⟨w.heap.size, 3, none⟩ = some (.int .i64 (S : Int)) := hkJ.cell 3
  have f3 := hkJ.frozen 3
  have fl := hkJ.lt
  go_wp2_with fail
  refine (HRun.out _ hxk hyk hAk).mono ?_
  rintro _ w3 ⟨S3, N3, G3, D3, T3, y1, y2, y3, y4, y5, rfl, rw3, hb3⟩
  have hB3 := bstep hB2 hb3
  clear q0 q1 q2 q3 f0 f1 f2 f3 fl
  replace hkJ := hkJ.keep hb3
  replace hxk := hxk.keep hb3
  replace hyk := hyk.keep hb3
  obtain ⟨w4, hw4⟩ : ∃ w4, w4 = w3.alloc (.cells #[.slice S3 SD.s.length y1, .slice N3 SD.n.length y2, .slice G3 SD.g.length y3, .slice D3 d.length y4, .slice T3 t.length y5] 42) := ⟨_, rfl⟩
  have hk8 : Blk w4 w3.heap.size 42 #[.slice S3 SD.s.length y1, .slice N3 SD.n.length y2, .slice G3 SD.g.length y3, .slice D3 d.length y4, .slice T3 t.length y5] := by rw [hw4]; exact Blk.new _ _ _
  have hb4 : Below w3.heap.size w3 w4 := by rw [hw4]; exact balloc (Below.refl _ _) _
  go_wp2
  rw [← hw4]
  clear hw4
  have hB4 := bstep hB3 hb4
  replace hkJ := hkJ.keep hb4
  replace hxk := hxk.keep hb4
  replace hyk := hyk.keep hb4
  replace rw3 := rw3.keep hb4
  go_loopg [11, 12] d.length (fun gk v i wr => ∃ kk : Nat, kk + gk = d.length ∧ v = .bool ((d.take kk).all id) ∧ i = .int .i64 kk ∧ w4 = wr)
  case atStart => exact ⟨0, by omega, rfl, rfl, rfl⟩
  case round =>
    obtain ⟨kk, hkk, rfl, rfl, rfl⟩ := hrel
    have hk' : kk ≤ d.length := by omega
    have HK := Lib.hid hkk
    clear hkk
    have p0 : World.cell? w4 ⟨w3.heap.size, 0, none⟩ = some (.slice S3 SD.s.length y1) := hk8.cell 0
    have g0 := hk8.frozen 0
    have p1 : World.cell? w4 ⟨w3.heap.size, 1, none⟩ = some (.slice N3 SD.n.length y2) := hk8.cell 1
    have g1 := hk8.frozen 1
    have p2 : World.cell? w4 ⟨w3.heap.size, 2, none⟩ = some (.slice G3 SD.g.length y3) := hk8.cell 2
    have g2 := hk8.frozen 2
    have p3 : World.cell? w4 ⟨w3.heap.size, 3, none⟩ = some (.slice D3 d.length y4) := hk8.cell 3
    have g3 := hk8.frozen 3
    have p4 : World.cell? w4 ⟨w3.heap.size, 4, none⟩ = some (.slice T3 t.length y5) := hk8.cell 4
    have g4 := hk8.frozen 4
    have gl := hk8.lt
    by_cases hlt : kk < d.length
    · obtain ⟨bd, od, hDe, hdl2, hdc⟩ := rw3.d (by simp only; omega)
      have hdk := hdc kk hlt
      have HT := Lib.hid (take_all_succ hlt)
      clear hdc
      simp only at hdk
      subst hDe
      generalize d.getD kk false = x at *
      generalize (d.take kk).all id = av at *
      cases av <;> cases x
      all_goals
        go_wp2
        go_roundg (gk - 1)
        case rel => exact ⟨kk + 1, by have := HK.out; omega, by rw [HT.out]; rfl, by go_num, rfl⟩
        case measure => have := HK.out; omega
    · have hkd : kk = d.length := by omega
      have hta : (d.take kk).all id = d.all id := by rw [hkd, List.take_length]
      rw [hta]
      clear hta
      cases hall : d.all id
      · rw [hall, if_neg (by simp)] at HRes
        clear HALL hall HQ HOf
        have q0 : World.cell? w4 ⟨w.heap.size, 0, none⟩ = some (.slice X xs.length cx) := hkJ.cell 0
        have f0 := hkJ.frozen 0
        have q1 : World.cell? w4 ⟨w.heap.size, 1, none⟩ = some (.slice Y ys.length cy) := hkJ.cell 1
        have f1 := hkJ.frozen 1
        have q2 : World.cell? w4 ⟨w.heap.size, 2, none⟩ = some (.int .i64 (M : Int)) := hkJ.cell 2
        have f2 := hkJ.frozen 2
        have q3 : World.cell? w4 ⟨w.heap.size, 3, none⟩ = some (.int .i64 (S : Int)) := hkJ.cell 3
        have f3 := hkJ.frozen 3
        have fl := hkJ.lt
        go_wp2_with fail
        refine (HRes.out S3 N3 G3 D3 T3 y1 y2 y3 y4 y5 _ hxk hyk rw3).mono ?_
        rintro _ w5 ⟨A5, c5, rfl, ho5, hb5⟩
        have hB5 := bstep hB4 hb5
        clear q0 q1 q2 q3 f0 f1 f2 f3 fl
        clear p0 p1 p2 p3 p4 g0 g1 g2 g3 g4 gl
        replace hkJ := hkJ.keep hb5
        replace hk8 := hk8.keep hb5
        replace hxk := hxk.keep hb5
        replace hyk := hyk.keep hb5
        replace rw3 := rw3.keep hb5
        go_wp2_with fail
        refine wp_region_end (by kernel_rfl) (by kernel_rfl) (by kernel_rfl) (SmP.F ⟨w3.heap.size, w.heap.size, S3, N3, G3, D3, y1, y2, y3, y4, SD, d.length, .agg #[.slice X xs.length cx, .slice Y ys.length cy, .int .i64 (M : Int), .int .i64 (S : Int)]⟩) 14 (fun val w' => val 14 = .bool true ∧ Below w5.heap.size w5 w') (by kernel_rfl) (SmP.keep _) ⟨?_, ?_, ?_, ?_, ?_, ?_, ?_, ?_, ?_, ?_, ?_, ?_, ?_, ?_, ?_, trivial⟩ ?_
        · refine EndOk.grow ?_ (by decide)
          intro val a wr hb hdep hold K hK
          have x1 : a.tmps[7]?.getD undef = .bool true := ev_tmps ((hold 7 (by rfl)).trans (by rfl))
          clear hdep hold
          go_simp
          exact hK _ _ (Below.refl _ _) rfl
        · refine EndOk.grow ?_ (by decide)
          intro val a wr hb hdep hold K hK
          have x1 : a.tmps[94]?.getD undef = .bool true := ev_tmps ((hdep 0 94 _ rfl rfl rfl).1.trans (hdep 0 94 _ rfl rfl rfl).2)
          clear hdep hold
          go_simp
          exact hK _ _ (Below.refl _ _) rfl
        · refine EndOk.grow ?_ (by decide)
          intro val a wr hb hdep hold K hK
          have eg : a.tmps[95]?.getD undef = .bool true := ev_tmps ((hdep 1 95 _ rfl rfl rfl).1.trans (hdep 1 95 _ rfl rfl rfl).2)
          rw [if_pos (wanted_yes (j := 1) (d := 95) (b := true) rfl rfl rfl eg)]
          have x1 : a.tmps[14]?.getD undef = .int .i64 22 := ev_tmps ((hold 14 (by rfl)).trans (by rfl))
          clear hdep hold
          go_simp
          exact hK _ _ (Below.refl _ _) rfl
        · refine EndOk.grow ?_ (by decide)
          intro val a wr hb hdep hold K hK
          have eg : a.tmps[95]?.getD undef = .bool true := ev_tmps ((hdep 1 95 _ rfl rfl rfl).1.trans (hdep 1 95 _ rfl rfl rfl).2)
          rw [if_pos (wanted_yes (j := 1) (d := 95) (b := true) rfl rfl rfl eg)]
          have x1 : a.tmps[96]?.getD undef = .int .i64 22 := ev_tmps ((hdep 2 96 _ rfl rfl rfl).1.trans (hdep 2 96 _ rfl rfl rfl).2)
          clear hdep hold
          go_simp
          exact hK _ _ (Below.refl _ _) rfl
        · refine EndOk.grow ?_ (by decide)
          intro val a wr hb hdep hold K hK
          have x1 : a.tmps[95]?.getD undef = .bool true := ev_tmps ((hdep 1 95 _ rfl rfl rfl).1.trans (hdep 1 95 _ rfl rfl rfl).2)
          have x2 : a.tmps[97]?.getD undef = .bool true := ev_tmps ((hdep 3 97 _ rfl rfl rfl).1.trans (hdep 3 97 _ rfl rfl rfl).2)
          clear hdep hold
          go_simp
          exact hK _ _ (Below.refl _ _) rfl
        · refine EndOk.grow ?_ (by decide)
          intro val a wr hb hdep hold K hK
          have x1 : a.tmps[98]?.getD undef = .bool true := ev_tmps ((hdep 4 98 _ rfl rfl rfl).1.trans (hdep 4 98 _ rfl rfl rfl).2)
          clear hdep hold
          go_simp
          exact hK _ _ (Below.refl _ _) rfl
        · refine EndOk.grow ?_ (by decide)
          intro val a wr hb hdep hold K hK
          have eg : a.tmps[99]?.getD undef = .bool true := ev_tmps ((hdep 5 99 _ rfl rfl rfl).1.trans (hdep 5 99 _ rfl rfl rfl).2)
          rw [if_pos (wanted_yes (j := 5) (d := 99) (b := true) rfl rfl rfl eg)]
          have x1 : a.tmps[8]?.getD undef = .pointer (some ⟨w3.heap.size, 0, none⟩) := ev_tmps ((hold 8 (by rfl)).trans (by rfl))
          clear hdep hold
          go_simp
          exact hK _ _ (Below.refl _ _) rfl
        · refine EndOk.grow ?_ (by decide)
          intro val a wr hb hdep hold K hK
          have eg : a.tmps[99]?.getD undef = .bool true := ev_tmps ((hdep 5 99 _ rfl rfl rfl).1.trans (hdep 5 99 _ rfl rfl rfl).2)
          rw [if_pos (wanted_yes (j := 5) (d := 99) (b := true) rfl rfl rfl eg)]
          have x1 : a.tmps[100]?.getD undef = .pointer (some ⟨w3.heap.size, 0, none⟩) := ev_tmps ((hdep 6 100 _ rfl rfl rfl).1.trans (hdep 6 100 _ rfl rfl rfl).2)
          have hkr := hk8.keep hb
          have p0 : World.cell? wr ⟨w3.heap.size, 0, none⟩ = some (.slice S3 SD.s.length y1) := hkr.cell 0
          have g0 := hkr.frozen 0
          have p1 : World.cell? wr ⟨w3.heap.size, 1, none⟩ = some (.slice N3 SD.n.length y2) := hkr.cell 1
          have g1 := hkr.frozen 1
          have p2 : World.cell? wr ⟨w3.heap.size, 2, none⟩ = some (.slice G3 SD.g.length y3) := hkr.cell 2
          have g2 := hkr.frozen 2
          have p3 : World.cell? wr ⟨w3.heap.size, 3, none⟩ = some (.slice D3 d.length y4) := hkr.cell 3
          have g3 := hkr.frozen 3
          have p4 : World.cell? wr ⟨w3.heap.size, 4, none⟩ = some (.slice T3 t.length y5) := hkr.cell 4
          have g4 := hkr.frozen 4
          have gl := hkr.lt
          clear hdep hold
          go_simp
          exact hK _ _ (Below.refl _ _) rfl
        · refine EndOk.grow ?_ (by decide)
          intro val a wr hb hdep hold K hK
          have eg : a.tmps[99]?.getD undef = .bool true := ev_tmps ((hdep 5 99 _ rfl rfl rfl).1.trans (hdep 5 99 _ rfl rfl rfl).2)
          rw [if_pos (wanted_yes (j := 5) (d := 99) (b := true) rfl rfl rfl eg)]
          have x1 : a.tmps[3]?.getD undef = .pointer (some ⟨w.heap.size, 0, none⟩) := ev_tmps ((hold 3 (by rfl)).trans (by rfl))
          have hkr := hkJ.keep hb
          have p0 : World.cell? wr ⟨w.heap.size, 0, none⟩ = some (.slice X xs.length cx) := hkr.cell 0
          have g0 := hkr.frozen 0
          have p1 : World.cell? wr ⟨w.heap.size, 1, none⟩ = some (.slice Y ys.length cy) := hkr.cell 1
          have g1 := hkr.frozen 1
          have p2 : World.cell? wr ⟨w.heap.size, 2, none⟩ = some (.int .i64 (M : Int)) := hkr.cell 2
          have g2 := hkr.frozen 2
          have p3 : World.cell? wr ⟨w.heap.size, 3, none⟩ = some (.int .i64 (S : Int)) := hkr.cell 3
          have g3 := hkr.frozen 3
          have gl := hkr.lt
          clear hdep hold
          go_simp
          exact hK _ _ (Below.refl _ _) rfl
        · refine EndOk.grow ?_ (by decide)
          intro val a wr hb hdep hold K hK
          have eg : a.tmps[99]?.getD undef = .bool true := ev_tmps ((hdep 5 99 _ rfl rfl rfl).1.trans (hdep 5 99 _ rfl rfl rfl).2)
          rw [if_pos (wanted_yes (j := 5) (d := 99) (b := true) rfl rfl rfl eg)]
          have x1 : a.tmps[8]?.getD undef = .pointer (some ⟨w3.heap.size, 0, none⟩) := ev_tmps ((hold 8 (by rfl)).trans (by rfl))
          clear hdep hold
          go_simp
          exact hK _ _ (Below.refl _ _) rfl
        · refine EndOk.grow ?_ (by decide)
          intro val a wr hb hdep hold K hK
          have eg : a.tmps[99]?.getD undef = .bool true := ev_tmps ((hdep 5 99 _ rfl rfl rfl).1.trans (hdep 5 99 _ rfl rfl rfl).2)
          rw [if_pos (wanted_yes (j := 5) (d := 99) (b := true) rfl rfl rfl eg)]
          have x1 : a.tmps[103]?.getD undef = .pointer (some ⟨w3.heap.size, 3, none⟩) := ev_tmps ((hdep 9 103 _ rfl rfl rfl).1.trans (hdep 9 103 _ rfl rfl rfl).2)
          have hkr := hk8.keep hb
          have p3 := hkr.cell 3
          have pl := hkr.lt
          clear hdep hold
          go_simp
          exact hK _ _ (Below.refl _ _) rfl
        · refine EndOk.grow ?_ (by decide)
          intro val a wr hb hdep hold K hK
          have eg : a.tmps[99]?.getD undef = .bool true := ev_tmps ((hdep 5 99 _ rfl rfl rfl).1.trans (hdep 5 99 _ rfl rfl rfl).2)
          rw [if_pos (wanted_yes (j := 5) (d := 99) (b := true) rfl rfl rfl eg)]
          have x1 := (hdep 8 102 _ rfl rfl rfl).1.trans (hdep 8 102 _ rfl rfl rfl).2
          have x2 := (hdep 10 104 _ rfl rfl rfl).1.trans (hdep 10 104 _ rfl rfl rfl).2
          refine grow_callG (vs := #[.agg #[.slice X xs.length cx, .slice Y ys.length cy, .int .i64 (M : Int), .int .i64 (S : Int)], .slice D3 d.length y4]) rfl (by simp [x1, x2]) Try.call31 ((HSum.out D3 y4 wr (hxk.keep hb) (hyk.keep hb) (rw3.d.keep hb)).mono ?_)
          rintro e w' ⟨S9, N9, G9, u1, u2, u3, rfl, ra9, _, hb9⟩
          exact ⟨_, rfl, hK _ _ hb9 ⟨S9, N9, G9, u1, u2, u3, rfl, ra9⟩⟩
        · refine EndOk.grow ?_ (by decide)
          intro val a wr hb hdep hold K hK
          have eg : a.tmps[99]?.getD undef = .bool true := ev_tmps ((hdep 5 99 _ rfl rfl rfl).1.trans (hdep 5 99 _ rfl rfl rfl).2)
          rw [if_pos (wanted_yes (j := 5) (d := 99) (b := true) rfl rfl rfl eg)]
          have x1 := (hdep 7 101 _ rfl rfl rfl).1.trans (hdep 7 101 _ rfl rfl rfl).2
          obtain ⟨x2, S9, N9, G9, u1, u2, u3, x3, ra9⟩ := hdep 11 105 _ rfl rfl rfl
          replace x2 := x2.trans x3
          refine grow_callG (vs := #[.agg #[.slice S3 SD.s.length y1, .slice N3 SD.n.length y2, .slice G3 SD.g.length y3], .agg #[.slice S9 SD.s.length u1, .slice N9 SD.n.length u2, .slice G9 SD.g.length u3]]) rfl (by simp [x1, x2]) Try.call30 ((HSame.out S3 N3 G3 S9 N9 G9 y1 y2 y3 u1 u2 u3 wr (rw3.a.keep hb) ra9).mono ?_)
          rintro e w' ⟨rfl, hb9⟩
          exact ⟨_, rfl, hK _ _ hb9 rfl⟩
        · refine EndOk.grow ?_ (by decide)
          intro val a wr hb hdep hold K hK
          have x1 : a.tmps[99]?.getD undef = .bool true := ev_tmps ((hdep 5 99 _ rfl rfl rfl).1.trans (hdep 5 99 _ rfl rfl rfl).2)
          have x2 : a.tmps[106]?.getD undef = .bool true := ev_tmps ((hdep 12 106 _ rfl rfl rfl).1.trans (hdep 12 106 _ rfl rfl rfl).2)
          clear hdep hold
          go_simp
          exact hK _ _ (Below.refl _ _) rfl
        · refine EndOk.last ?_
          intro val a wr hb hall2 hdep hold K hK
          have x1 : a.tmps[107]?.getD undef = .bool true := ev_tmps ((hdep 13 107 _ rfl rfl (by decide)).trans (hall2 13 (by decide) (by decide)))
          have hFa := fun v w' h1 => hK v w' h1
          clear hdep hold hall2 hK
          go_simp
          exact hFa _ _ ⟨upd_same _ _ _, hb⟩
        · rintro val w' ⟨h14, hb'⟩
          generalize hF : putL _ 0 _ _ = aF
          have e : aF.tmps[6]?.getD undef = val 14 := by rw [← hF]; kernel_rfl
          have ed : aF.defers = [] := by rw [← hF]; kernel_rfl
          rw [h14] at e
          clear hF
          go_wp2
          exact bodyPost_ret (v := .bool true) (by simp [results, Try.results5, go_sem, e]) ed ⟨rfl, bstep hB5 hb'⟩
      · rw [hall, if_pos rfl, HALL.out hall] at HRes
        clear HALL hall HSum HSame
        have q0 : World.cell? w4 ⟨w.heap.size, 0, none⟩ = some (.slice X xs.length cx) := hkJ.cell 0
        have f0 := hkJ.frozen 0
        have q1 : World.cell? w4 ⟨w.heap.size, 1, none⟩ = some (.slice Y ys.length cy) := hkJ.cell 1
        have f1 := hkJ.frozen 1
        have q2 : World.cell? w4 ⟨w.heap.size, 2, none⟩ = some (.int .i64 (M : Int)) := hkJ.cell 2
        have f2 := hkJ.frozen 2
        have q3 : World.cell? w4 ⟨w.heap.size, 3, none⟩ = some (.int .i64 (S : Int)) := hkJ.cell 3
        have f3 := hkJ.frozen 3
        have fl := hkJ.lt
        go_wp2_with fail
        refine (HRes.out S3 N3 G3 D3 T3 y1 y2 y3 y4 y5 _ hxk hyk rw3).mono ?_
        rintro _ w5 ⟨A5, c5, rfl, ho5, hb5⟩
        have hB5 := bstep hB4 hb5
        replace ho5 := own_RL ho5
        clear q0 q1 q2 q3 f0 f1 f2 f3 fl
        clear p0 p1 p2 p3 p4 g0 g1 g2 g3 g4 gl
        replace hkJ := hkJ.keep hb5
        replace hxk := hxk.keep hb5
        replace hyk := hyk.keep hb5
        have q0 : World.cell? w5 ⟨w.heap.size, 0, none⟩ = some (.slice X xs.length cx) := hkJ.cell 0
        have f0 := hkJ.frozen 0
        have q1 : World.cell? w5 ⟨w.heap.size, 1, none⟩ = some (.slice Y ys.length cy) := hkJ.cell 1
        have f1 := hkJ.frozen 1
        have q2 : World.cell? w5 ⟨w.heap.size, 2, none⟩ = some (.int .i64 (M : Int)) := hkJ.cell 2
        have f2 := hkJ.frozen 2
        have q3 : World.cell? w5 ⟨w.heap.size, 3, none⟩ = some (.int .i64 (S : Int)) := hkJ.cell 3
        have f3 := hkJ.frozen 3
        have fl := hkJ.lt
        go_wp2_with fail
        refine (HOf.out _ hxk hyk).mono ?_
        rintro _ w6 ⟨A6, c6, rfl, ho6, hb6⟩
        replace ho6 := own_RL ho6
        have hB6 := bstep hB5 hb6
        go_wp2_with fail
        refine (HQ.out _ _ _ _ _ (ho5.keep hb6) ho6).mono ?_
        rintro _ _ ⟨rfl, n7, rfl⟩
        go_wp2
        go_ret
        exact ⟨rfl, below_drewN hB6 _⟩
theorem workerSame_w (X Y : Option Addr) (cx cy : Nat) (xs ys : List Int) (m s : Int) (n : Int) (A : Option Addr) (c : Nat) (l : List Ev) (w : World) (hj : InJ w X Y cx cy xs ys m s) (hn : -9223372036854775808 ≤ n ∧ n ≤ 9223372036854775807) (hA : InE w A c l) :
    Calls Try.prog 5 #[.agg #[.slice X xs.length cx, .slice Y ys.length cy, .int .i64 m, .int .i64 s], .int .i64 n, .slice A l.length c] w fun e w' => e = .returned (.bool true) ∧ Below w.heap.size w w' :=
  workerSame_walk X Y A cx cy c xs ys m s n l w hj hn hA
end Wk
end Go.Proofs.Ytdekbncpodjgnaa
