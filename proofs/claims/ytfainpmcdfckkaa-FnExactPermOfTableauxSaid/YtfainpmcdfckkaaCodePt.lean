/- What each function does, step by step, written by a program (Gen.lean); each equation is checked by the kernel. -/
import Derived.Test.YtfainpmcdfckkaaHead
namespace Go.Proofs.Ytfainpmcdfckkaa
open Go
set_option linter.unusedVariables false
set_option maxRecDepth 100000
namespace impl_PermOfTableaux
@[reducible] def cfg : Cfg := ⟨131, [(6, [0, 1, 6, 35, 36, 37]), (22, [0, 1, 9, 10, 11, 13, 14]), (19, [0, 1, 9, 10, 11, 13]), (12, [0, 1, 9, 10])], [(1, [0, 1, 6, 35, 36, 37]), (0, [0, 1, 6]), (7, [0, 1, 9, 10, 11, 13, 14]), (6, [0, 1, 9, 10, 11, 13, 14]), (5, [0, 1, 9, 10, 11, 13]), (4, [0, 1, 9, 10, 13]), (3, [0, 1, 9, 10]), (2, [9])], [(18, [0, 1, 9, 10, 11, 13])], [4, 5], [], [91, 60, 17, 21, 24, 26, 65, 27, 82, 64, 85, 108, 78, 53, 51], [86, 52, 88]⟩
def q14 (pr : Prims) (R : Ending → World → Prop) : Exit → Env → World → Prop := fun ex e w => normQ ex (fun e w => contE pr cfg (sub (codeOf Try.f45) [1, 1, 1, 1, 1]) (fun e w => wpC pr PP cfg (DD pr) (sub (codeOf Try.f45) [1, 1, 1, 1, 1]) (retQ Try.f45.results.toList R) e w) e w) (retQ Try.f45.results.toList R) e w
def q15 (pr : Prims) (R : Ending → World → Prop) : Exit → Env → World → Prop := fun ex e w => blockQ ex 0 (q14 pr R) e w
def q20 (pr : Prims) (R : Ending → World → Prop) : Exit → Env → World → Prop := fun ex e w => normQ ex (fun e w => contE pr cfg (sub (codeOf Try.f45) [1, 1, 1, 1, 1, 1, 1]) (fun e w => wpC pr PP cfg (DD pr) (sub (codeOf Try.f45) [1, 1, 1, 1, 1, 1, 1]) (retQ Try.f45.results.toList R) e w) e w) (retQ Try.f45.results.toList R) e w
def q24 (pr : Prims) (R : Ending → World → Prop) : Exit → Env → World → Prop := fun ex e w => blockQ ex 2 (q20 pr R) e w
def q26 (pr : Prims) (k : Env → World → Prop) (Q : Exit → Env → World → Prop) : Exit → Env → World → Prop := fun ex e w => normQ ex (fun e w => contE pr cfg (sub (codeOf Try.f45) [1, 1, 1, 1, 1, 1, 0, 1, 0, 0, 1, 1]) (fun e w => wpC pr PP cfg (DD pr) (sub (codeOf Try.f45) [1, 1, 1, 1, 1, 1, 0, 1, 0, 0, 1, 1]) (fun ex e w => normQ ex (fun e' w' => k (Env.restr e' (lookN cfg.loops (keyOf (sub (codeOf Try.f45) [1, 1, 1, 1, 1, 1, 0, 1, 0, 0])))) w') Q e w) e w) e w) (fun ex e w => normQ ex (fun e' w' => k (Env.restr e' (lookN cfg.loops (keyOf (sub (codeOf Try.f45) [1, 1, 1, 1, 1, 1, 0, 1, 0, 0])))) w') Q e w) e w
def q27 (pr : Prims) (k : Env → World → Prop) (Q : Exit → Env → World → Prop) : Exit → Env → World → Prop := fun ex e w => blockQ ex 3 (q26 pr k Q) e w
def q36 (pr : Prims) (k : Env → World → Prop) (Q : Exit → Env → World → Prop) : Exit → Env → World → Prop := fun ex e w => normQ ex (fun e w => contE pr cfg (sub (codeOf Try.f45) [1, 1, 1, 1, 1, 1, 0, 1, 0, 0, 1, 0, 0, 1, 1, 1, 1]) (fun e w => wpC pr PP cfg (DD pr) (sub (codeOf Try.f45) [1, 1, 1, 1, 1, 1, 0, 1, 0, 0, 1, 0, 0, 1, 1, 1, 1]) (q27 pr k Q) e w) e w) (q27 pr k Q) e w
def q48 (pr : Prims) (k : Env → World → Prop) (Q : Exit → Env → World → Prop) : Exit → Env → World → Prop := fun ex e w => normQ ex (fun e w => contE pr cfg (sub (codeOf Try.f45) [1, 1, 1, 1, 1, 1, 0, 1, 0, 0, 1, 0, 0, 1, 1, 1, 1, 1]) (fun e w => wpC pr PP cfg (DD pr) (sub (codeOf Try.f45) [1, 1, 1, 1, 1, 1, 0, 1, 0, 0, 1, 0, 0, 1, 1, 1, 1, 1]) (q27 pr k Q) e w) e w) (q27 pr k Q) e w
def q49 (pr : Prims) (k : Env → World → Prop) (Q : Exit → Env → World → Prop) : Exit → Env → World → Prop := fun ex e w => blockQ ex 4 (q48 pr k Q) e w
def q50 (pr : Prims) (k : Env → World → Prop) (Q : Exit → Env → World → Prop) : Exit → Env → World → Prop := fun ex e w => normQ ex (fun e w => contE pr cfg (sub (codeOf Try.f45) [1, 1, 1, 1, 1, 1, 0, 1, 0, 0, 1, 0, 0, 1, 1, 1, 1, 0, 1, 0, 0, 1, 1]) (fun e w => wpC pr PP cfg (DD pr) (sub (codeOf Try.f45) [1, 1, 1, 1, 1, 1, 0, 1, 0, 0, 1, 0, 0, 1, 1, 1, 1, 0, 1, 0, 0, 1, 1]) (fun ex e w => normQ ex (fun e' w' => k (Env.restr e' (lookN cfg.loops (keyOf (sub (codeOf Try.f45) [1, 1, 1, 1, 1, 1, 0, 1, 0, 0, 1, 0, 0, 1, 1, 1, 1, 0, 1, 0, 0])))) w') Q e w) e w) e w) (fun ex e w => normQ ex (fun e' w' => k (Env.restr e' (lookN cfg.loops (keyOf (sub (codeOf Try.f45) [1, 1, 1, 1, 1, 1, 0, 1, 0, 0, 1, 0, 0, 1, 1, 1, 1, 0, 1, 0, 0])))) w') Q e w) e w
def q51 (pr : Prims) (k : Env → World → Prop) (Q : Exit → Env → World → Prop) : Exit → Env → World → Prop := fun ex e w => blockQ ex 5 (q50 pr k Q) e w
def q54 (pr : Prims) (k : Env → World → Prop) (Q : Exit → Env → World → Prop) : Exit → Env → World → Prop := fun ex e w => normQ ex (fun e w => contE pr cfg (sub (codeOf Try.f45) [1, 1, 1, 1, 1, 1, 0, 1, 0, 0, 1, 0, 0, 1, 1, 1, 1, 0, 1, 0, 0, 1, 0, 0, 1, 1]) (fun e w => wpC pr PP cfg (DD pr) (sub (codeOf Try.f45) [1, 1, 1, 1, 1, 1, 0, 1, 0, 0, 1, 0, 0, 1, 1, 1, 1, 0, 1, 0, 0, 1, 0, 0, 1, 1]) (q51 pr k Q) e w) e w) (q51 pr k Q) e w
def q55 (pr : Prims) (k : Env → World → Prop) (Q : Exit → Env → World → Prop) : Exit → Env → World → Prop := fun ex e w => blockQ ex 6 (q54 pr k Q) e w
def emb6 (a_0 : Sl) (b_1 : Sl) (n_6 : Int) (t35 : Sl) (t36 : Int) (t37 : Int) : Env := [(0, Sl.v a_0), (1, Sl.v b_1), (6, vI n_6), (35, Sl.v t35), (36, vI t36), (37, vI t37)]
def x0 (a_0 : Sl) (b_1 : Sl) (n_6 : Int) : Env := [(0, Sl.v a_0), (1, Sl.v b_1), (6, vI n_6)]
def emb12 (a_0 : Sl) (b_1 : Sl) (out_9 : Sl) (i_10 : Addr) : Env := [(0, Sl.v a_0), (1, Sl.v b_1), (9, Sl.v out_9), (10, .pointer (some i_10))]
def j18 (a_0 : Sl) (b_1 : Sl) (out_9 : Sl) (i_10 : Addr) (row_11 : Int) (v_13 : Int) : Env := [(0, Sl.v a_0), (1, Sl.v b_1), (9, Sl.v out_9), (10, .pointer (some i_10)), (11, vI row_11), (13, vI v_13)]
def emb19 (a_0 : Sl) (b_1 : Sl) (out_9 : Sl) (i_10 : Addr) (row_11 : Int) (v_13 : Int) : Env := [(0, Sl.v a_0), (1, Sl.v b_1), (9, Sl.v out_9), (10, .pointer (some i_10)), (11, vI row_11), (13, vI v_13)]
def emb22 (a_0 : Sl) (b_1 : Sl) (out_9 : Sl) (i_10 : Addr) (row_11 : Int) (v_13 : Int) (at_14 : Int) : Env := [(0, Sl.v a_0), (1, Sl.v b_1), (9, Sl.v out_9), (10, .pointer (some i_10)), (11, vI row_11), (13, vI v_13), (14, vI at_14)]
def x6 (a_0 : Sl) (b_1 : Sl) (out_9 : Sl) (i_10 : Addr) (row_11 : Int) (v_13 : Int) (at_14 : Int) : Env := [(0, Sl.v a_0), (1, Sl.v b_1), (9, Sl.v out_9), (10, .pointer (some i_10)), (11, vI row_11), (13, vI v_13), (14, vI at_14)]
def x4 (a_0 : Sl) (b_1 : Sl) (out_9 : Sl) (i_10 : Addr) (v_13 : Int) : Env := [(0, Sl.v a_0), (1, Sl.v b_1), (9, Sl.v out_9), (10, .pointer (some i_10)), (13, vI v_13)]
def x2 (out_9 : Sl) : Env := [(9, Sl.v out_9)]
def S6 (pr : Prims) (Q : Exit → Env → World → Prop) : (Env → World → Prop) → Env → World → Prop := fun k e w => wpC pr PP cfg (DD pr) (sub (codeOf Try.f45) [1, 1, 1, 1, 0, 1, 0, 0]) (fun ex e w => normQ ex (fun e' w' => k (Env.restr e' (lookN cfg.loops (keyOf (sub (codeOf Try.f45) [1, 1, 1, 1, 0, 1, 0, 0])))) w') Q e w) e w
def S22 (pr : Prims) (Q : Exit → Env → World → Prop) : (Env → World → Prop) → Env → World → Prop := fun k e w => wpC pr PP cfg (DD pr) (sub (codeOf Try.f45) [1, 1, 1, 1, 1, 1, 0, 1, 0, 0, 1, 0, 0, 1, 1, 1, 1, 0, 1, 0, 0, 1, 0, 0, 1, 0, 0, 0]) (fun ex e w => normQ ex (fun e' w' => k (Env.restr e' (lookN cfg.loops (keyOf (sub (codeOf Try.f45) [1, 1, 1, 1, 1, 1, 0, 1, 0, 0, 1, 0, 0, 1, 1, 1, 1, 0, 1, 0, 0, 1, 0, 0, 1, 0, 0, 0])))) w') Q e w) e w
def S19 (pr : Prims) (Q : Exit → Env → World → Prop) : (Env → World → Prop) → Env → World → Prop := fun k e w => wpC pr PP cfg (DD pr) (sub (codeOf Try.f45) [1, 1, 1, 1, 1, 1, 0, 1, 0, 0, 1, 0, 0, 1, 1, 1, 1, 0, 1, 0, 0]) (fun ex e w => normQ ex (fun e' w' => k (Env.restr e' (lookN cfg.loops (keyOf (sub (codeOf Try.f45) [1, 1, 1, 1, 1, 1, 0, 1, 0, 0, 1, 0, 0, 1, 1, 1, 1, 0, 1, 0, 0])))) w') Q e w) e w
def S12 (pr : Prims) (Q : Exit → Env → World → Prop) : (Env → World → Prop) → Env → World → Prop := fun k e w => wpC pr PP cfg (DD pr) (sub (codeOf Try.f45) [1, 1, 1, 1, 1, 1, 0, 1, 0, 0]) (fun ex e w => normQ ex (fun e' w' => k (Env.restr e' (lookN cfg.loops (keyOf (sub (codeOf Try.f45) [1, 1, 1, 1, 1, 1, 0, 1, 0, 0])))) w') Q e w) e w
def B6 (pr : Prims) (a_0 : Sl) (b_1 : Sl) (n_6 : Int) (t35 : Sl) (t36 : Int) (t37 : Int) (w : World) (k : Env → World → Prop) (Q : Exit → Env → World → Prop) : Prop :=
  S6 pr Q k (emb6 a_0 b_1 n_6 t35 t36 t37) w
def L6 (pr : Prims) (a_0 : Sl) (b_1 : Sl) (n_6 : Int) (t35 : Sl) (t36 : Int) (t37 : Int) (w : World) (Q : Exit → Env → World → Prop) : Prop :=
  pr.loop (S6 pr Q) (emb6 a_0 b_1 n_6 t35 t36 t37) w
def B22 (pr : Prims) (a_0 : Sl) (b_1 : Sl) (out_9 : Sl) (i_10 : Addr) (row_11 : Int) (v_13 : Int) (at_14 : Int) (w : World) (k : Env → World → Prop) (Q : Exit → Env → World → Prop) : Prop :=
  S22 pr Q k (emb22 a_0 b_1 out_9 i_10 row_11 v_13 at_14) w
def L22 (pr : Prims) (a_0 : Sl) (b_1 : Sl) (out_9 : Sl) (i_10 : Addr) (row_11 : Int) (v_13 : Int) (at_14 : Int) (w : World) (Q : Exit → Env → World → Prop) : Prop :=
  pr.loop (S22 pr Q) (emb22 a_0 b_1 out_9 i_10 row_11 v_13 at_14) w
def B19 (pr : Prims) (a_0 : Sl) (b_1 : Sl) (out_9 : Sl) (i_10 : Addr) (row_11 : Int) (v_13 : Int) (w : World) (k : Env → World → Prop) (Q : Exit → Env → World → Prop) : Prop :=
  S19 pr Q k (emb19 a_0 b_1 out_9 i_10 row_11 v_13) w
def L19 (pr : Prims) (a_0 : Sl) (b_1 : Sl) (out_9 : Sl) (i_10 : Addr) (row_11 : Int) (v_13 : Int) (w : World) (Q : Exit → Env → World → Prop) : Prop :=
  pr.loop (S19 pr Q) (emb19 a_0 b_1 out_9 i_10 row_11 v_13) w
def J18 (pr : Prims) (a_0 : Sl) (b_1 : Sl) (out_9 : Sl) (i_10 : Addr) (row_11 : Int) (v_13 : Int) (w : World) (k : Env → World → Prop) (Q : Exit → Env → World → Prop) : Prop :=
  pr.seg (fun e w => wpC pr PP cfg (DD pr) (sub (codeOf Try.f45) [1, 1, 1, 1, 1, 1, 0, 1, 0, 0, 1, 0, 0, 1, 1, 1, 1]) (q27 pr k Q) e w) (j18 a_0 b_1 out_9 i_10 row_11 v_13) w
def B12 (pr : Prims) (a_0 : Sl) (b_1 : Sl) (out_9 : Sl) (i_10 : Addr) (w : World) (k : Env → World → Prop) (Q : Exit → Env → World → Prop) : Prop :=
  S12 pr Q k (emb12 a_0 b_1 out_9 i_10) w
def L12 (pr : Prims) (a_0 : Sl) (b_1 : Sl) (out_9 : Sl) (i_10 : Addr) (w : World) (Q : Exit → Env → World → Prop) : Prop :=
  pr.loop (S12 pr Q) (emb12 a_0 b_1 out_9 i_10) w
def E (pr : Prims) (a_0 : Sl) (b_1 : Sl) (w : World) (R : Ending → World → Prop) : Prop :=
  wpC pr PP cfg (DD pr) (codeOf Try.f45) (retQ Try.f45.results.toList R) (argE 0 [Sl.v a_0, Sl.v b_1]) w
theorem B6_eq (pr : Prims) (a_0 : Sl) (b_1 : Sl) (n_6 : Int) (t35 : Sl) (t36 : Int) (t37 : Int) (w : World) (k : Env → World → Prop) (Q : Exit → Env → World → Prop) : B6 pr a_0 b_1 n_6 t35 t36 t37 w k Q = (
  bif decide (t37 < t36) then (
  pr.idxK 1 t35 t37 fun (a16 : Addr) =>
  pr.load1 .sl a16 w fun (ξ17 : Sl) =>
  k (emb6 a_0 b_1 (w64 (n_6 + (ξ17.n : Int))) t35 t36 (w64 (t37 + 1))) w)
  else (
  Q (.exit 0) (x0 a_0 b_1 n_6) w)) := by kernel_rfl
theorem B6_s (a_0 : Sl) (b_1 : Sl) (n_6 : Int) (t35 : Sl) (t36 : Int) (t37 : Int) (w : World) (k : Env → World → Prop) (Q : Exit → Env → World → Prop) : B6 std a_0 b_1 n_6 t35 t36 t37 w k Q = (
  bif decide (t37 < t36) then (
  idxK 1 t35 t37 fun (a16 : Addr) =>
  load1 .sl a16 w fun (ξ17 : Sl) =>
  k (emb6 a_0 b_1 (w64 (n_6 + (ξ17.n : Int))) t35 t36 (w64 (t37 + 1))) w)
  else (
  Q (.exit 0) (x0 a_0 b_1 n_6) w)) := B6_eq std a_0 b_1 n_6 t35 t36 t37 w k Q
theorem L6_rule (a_0 : Sl) (b_1 : Sl) (n_6 : Int) (t35 : Sl) (t36 : Int) (t37 : Int) (w : World) (Q : Exit → Env → World → Prop) (I : Int → Int → World → Prop) (μ : Int → Int → World → Nat) (h0 : I n_6 t37 w)
    (h : ∀ (n_6 : Int) (t37 : Int) (w' : World), I n_6 t37 w' → B6 std a_0 b_1 n_6 t35 t36 t37 w' (fun e2 w2 => ∃ n_6_n t37_n, e2 = emb6 a_0 b_1 n_6_n t35 t36 t37_n ∧ I n_6_n t37_n w2 ∧ μ n_6_n t37_n w2 < μ n_6 t37 w') Q) :
    L6 std a_0 b_1 n_6 t35 t36 t37 w Q := by
  unfold L6
  refine LoopE.intro (σ := Int × Int) (step := S6 std Q) (fun s => emb6 a_0 b_1 s.1 t35 t36 s.2) (fun s w => I s.1 s.2 w) (fun s w => μ s.1 s.2 w) (n_6, t37) rfl h0 ?_
  intro s w' hI
  have h1 := h s.1 s.2 w' hI
  unfold B6 at h1
  simp only [Prod.exists]
  exact h1
theorem B22_eq (pr : Prims) (a_0 : Sl) (b_1 : Sl) (out_9 : Sl) (i_10 : Addr) (row_11 : Int) (v_13 : Int) (at_14 : Int) (w : World) (k : Env → World → Prop) (Q : Exit → Env → World → Prop) : B22 pr a_0 b_1 out_9 i_10 row_11 v_13 at_14 w k Q = (
  pr.idxK 1 a_0 row_11 fun (a56 : Addr) =>
  pr.load1 .sl a56 w fun (ξ57 : Sl) =>
  pr.idxK 1 ξ57 at_14 fun (a58 : Addr) =>
  pr.load1 (.int .i64) a58 w fun (ξ59 : Int) =>
  bif decide (ξ59 > v_13) then (
  k (emb22 a_0 b_1 out_9 i_10 row_11 v_13 (w64 (at_14 - 1))) w)
  else (
  Q (.exit 6) (x6 a_0 b_1 out_9 i_10 row_11 v_13 at_14) w)) := by kernel_rfl
theorem B22_s (a_0 : Sl) (b_1 : Sl) (out_9 : Sl) (i_10 : Addr) (row_11 : Int) (v_13 : Int) (at_14 : Int) (w : World) (k : Env → World → Prop) (Q : Exit → Env → World → Prop) : B22 std a_0 b_1 out_9 i_10 row_11 v_13 at_14 w k Q = (
  idxK 1 a_0 row_11 fun (a56 : Addr) =>
  load1 .sl a56 w fun (ξ57 : Sl) =>
  idxK 1 ξ57 at_14 fun (a58 : Addr) =>
  load1 (.int .i64) a58 w fun (ξ59 : Int) =>
  bif decide (ξ59 > v_13) then (
  k (emb22 a_0 b_1 out_9 i_10 row_11 v_13 (w64 (at_14 - 1))) w)
  else (
  Q (.exit 6) (x6 a_0 b_1 out_9 i_10 row_11 v_13 at_14) w)) := B22_eq std a_0 b_1 out_9 i_10 row_11 v_13 at_14 w k Q
theorem L22_rule (a_0 : Sl) (b_1 : Sl) (out_9 : Sl) (i_10 : Addr) (row_11 : Int) (v_13 : Int) (at_14 : Int) (w : World) (Q : Exit → Env → World → Prop) (I : Int → World → Prop) (μ : Int → World → Nat) (h0 : I at_14 w)
    (h : ∀ (at_14 : Int) (w' : World), I at_14 w' → B22 std a_0 b_1 out_9 i_10 row_11 v_13 at_14 w' (fun e2 w2 => ∃ at_14_n, e2 = emb22 a_0 b_1 out_9 i_10 row_11 v_13 at_14_n ∧ I at_14_n w2 ∧ μ at_14_n w2 < μ at_14 w') Q) :
    L22 std a_0 b_1 out_9 i_10 row_11 v_13 at_14 w Q := by
  unfold L22
  refine LoopE.intro (σ := Int) (step := S22 std Q) (fun s => emb22 a_0 b_1 out_9 i_10 row_11 v_13 s) (fun s w => I s w) (fun s w => μ s w) at_14 rfl h0 ?_
  intro s w' hI
  have h1 := h s w' hI
  unfold B22 at h1
  exact h1
theorem A22_6_eq (pr : Prims) (a_0 : Sl) (b_1 : Sl) (out_9 : Sl) (i_10 : Addr) (row_11 : Int) (v_13 : Int) (at_14 : Int) (w : World) (k : Env → World → Prop) (Q : Exit → Env → World → Prop) : (q55 pr k Q) (.exit 6) (x6 a_0 b_1 out_9 i_10 row_11 v_13 at_14) w = (
  pr.drewAll w fun ω60 =>
  pr.idxK 1 a_0 row_11 fun (a61 : Addr) =>
  pr.idxK 1 a_0 row_11 fun (a62 : Addr) =>
  (pr.load1 .sl a61 ω60 fun (ξ63 : Sl) =>
  pr.load1 .sl a62 ω60 fun (ξ64 : Sl) =>
  pr.idxK 1 ξ64 at_14 fun (a65 : Addr) =>
  pr.load1 (.int .i64) a65 ω60 fun (ξ66 : Int) =>
  pr.idxK 1 ξ63 at_14 fun (a67 : Addr) =>
  pr.storeC a67 (vI v_13) ω60 fun ω68 =>
  k (emb19 a_0 b_1 out_9 i_10 (w64 (row_11 - 1)) ξ66) ω68) ∧
  (pr.load1 .sl a62 ω60 fun (ξ69 : Sl) =>
  pr.idxK 1 ξ69 at_14 fun (a70 : Addr) =>
  (pr.load1 .sl a61 ω60 fun (ξ71 : Sl) =>
  pr.load1 (.int .i64) a70 ω60 fun (ξ72 : Int) =>
  pr.idxK 1 ξ71 at_14 fun (a73 : Addr) =>
  pr.storeC a73 (vI v_13) ω60 fun ω74 =>
  k (emb19 a_0 b_1 out_9 i_10 (w64 (row_11 - 1)) ξ72) ω74) ∧
  (pr.load1 (.int .i64) a70 ω60 fun (ξ75 : Int) =>
  pr.load1 .sl a61 ω60 fun (ξ76 : Sl) =>
  pr.idxK 1 ξ76 at_14 fun (a77 : Addr) =>
  pr.storeC a77 (vI v_13) ω60 fun ω78 =>
  k (emb19 a_0 b_1 out_9 i_10 (w64 (row_11 - 1)) ξ75) ω78))) := by kernel_rfl
theorem A22_6_s (a_0 : Sl) (b_1 : Sl) (out_9 : Sl) (i_10 : Addr) (row_11 : Int) (v_13 : Int) (at_14 : Int) (w : World) (k : Env → World → Prop) (Q : Exit → Env → World → Prop) : (q55 std k Q) (.exit 6) (x6 a_0 b_1 out_9 i_10 row_11 v_13 at_14) w = (
  drewAll w fun ω60 =>
  idxK 1 a_0 row_11 fun (a61 : Addr) =>
  idxK 1 a_0 row_11 fun (a62 : Addr) =>
  (load1 .sl a61 ω60 fun (ξ63 : Sl) =>
  load1 .sl a62 ω60 fun (ξ64 : Sl) =>
  idxK 1 ξ64 at_14 fun (a65 : Addr) =>
  load1 (.int .i64) a65 ω60 fun (ξ66 : Int) =>
  idxK 1 ξ63 at_14 fun (a67 : Addr) =>
  storeC a67 (vI v_13) ω60 fun ω68 =>
  k (emb19 a_0 b_1 out_9 i_10 (w64 (row_11 - 1)) ξ66) ω68) ∧
  (load1 .sl a62 ω60 fun (ξ69 : Sl) =>
  idxK 1 ξ69 at_14 fun (a70 : Addr) =>
  (load1 .sl a61 ω60 fun (ξ71 : Sl) =>
  load1 (.int .i64) a70 ω60 fun (ξ72 : Int) =>
  idxK 1 ξ71 at_14 fun (a73 : Addr) =>
  storeC a73 (vI v_13) ω60 fun ω74 =>
  k (emb19 a_0 b_1 out_9 i_10 (w64 (row_11 - 1)) ξ72) ω74) ∧
  (load1 (.int .i64) a70 ω60 fun (ξ75 : Int) =>
  load1 .sl a61 ω60 fun (ξ76 : Sl) =>
  idxK 1 ξ76 at_14 fun (a77 : Addr) =>
  storeC a77 (vI v_13) ω60 fun ω78 =>
  k (emb19 a_0 b_1 out_9 i_10 (w64 (row_11 - 1)) ξ75) ω78))) := A22_6_eq std a_0 b_1 out_9 i_10 row_11 v_13 at_14 w k Q
theorem B19_eq (pr : Prims) (a_0 : Sl) (b_1 : Sl) (out_9 : Sl) (i_10 : Addr) (row_11 : Int) (v_13 : Int) (w : World) (k : Env → World → Prop) (Q : Exit → Env → World → Prop) : B19 pr a_0 b_1 out_9 i_10 row_11 v_13 w k Q = (
  bif decide (row_11 ≥ 0) then (
  pr.idxK 1 a_0 row_11 fun (a52 : Addr) =>
  pr.load1 .sl a52 w fun (ξ53 : Sl) =>
  L22 pr a_0 b_1 out_9 i_10 row_11 v_13 (w64 ((ξ53.n : Int) - 1)) w (q55 pr k Q))
  else (
  Q (.exit 4) (x4 a_0 b_1 out_9 i_10 v_13) w)) := by kernel_rfl
theorem B19_s (a_0 : Sl) (b_1 : Sl) (out_9 : Sl) (i_10 : Addr) (row_11 : Int) (v_13 : Int) (w : World) (k : Env → World → Prop) (Q : Exit → Env → World → Prop) : B19 std a_0 b_1 out_9 i_10 row_11 v_13 w k Q = (
  bif decide (row_11 ≥ 0) then (
  idxK 1 a_0 row_11 fun (a52 : Addr) =>
  load1 .sl a52 w fun (ξ53 : Sl) =>
  L22 std a_0 b_1 out_9 i_10 row_11 v_13 (w64 ((ξ53.n : Int) - 1)) w (q55 std k Q))
  else (
  Q (.exit 4) (x4 a_0 b_1 out_9 i_10 v_13) w)) := B19_eq std a_0 b_1 out_9 i_10 row_11 v_13 w k Q
theorem L19_rule (a_0 : Sl) (b_1 : Sl) (out_9 : Sl) (i_10 : Addr) (row_11 : Int) (v_13 : Int) (w : World) (Q : Exit → Env → World → Prop) (I : Int → Int → World → Prop) (μ : Int → Int → World → Nat) (h0 : I row_11 v_13 w)
    (h : ∀ (row_11 : Int) (v_13 : Int) (w' : World), I row_11 v_13 w' → B19 std a_0 b_1 out_9 i_10 row_11 v_13 w' (fun e2 w2 => ∃ row_11_n v_13_n, e2 = emb19 a_0 b_1 out_9 i_10 row_11_n v_13_n ∧ I row_11_n v_13_n w2 ∧ μ row_11_n v_13_n w2 < μ row_11 v_13 w') Q) :
    L19 std a_0 b_1 out_9 i_10 row_11 v_13 w Q := by
  unfold L19
  refine LoopE.intro (σ := Int × Int) (step := S19 std Q) (fun s => emb19 a_0 b_1 out_9 i_10 s.1 s.2) (fun s w => I s.1 s.2 w) (fun s w => μ s.1 s.2 w) (row_11, v_13) rfl h0 ?_
  intro s w' hI
  have h1 := h s.1 s.2 w' hI
  unfold B19 at h1
  simp only [Prod.exists]
  exact h1
theorem A19_4_eq (pr : Prims) (a_0 : Sl) (b_1 : Sl) (out_9 : Sl) (i_10 : Addr) (v_13 : Int) (w : World) (k : Env → World → Prop) (Q : Exit → Env → World → Prop) : (q49 pr k Q) (.exit 4) (x4 a_0 b_1 out_9 i_10 v_13) w = (
  pr.load1 (.int .i64) i_10 w fun (ξ79 : Int) =>
  pr.idxK 1 out_9 (w64 (ξ79 - 1)) fun (a80 : Addr) =>
  pr.storeC a80 (vI v_13) w fun ω81 =>
  pr.load1 (.int .i64) i_10 ω81 fun (ξ82 : Int) =>
  pr.newK T_int #[vI 0] ω81 fun (a83 : Addr) ω84 =>
  pr.storeC a83 (vI ξ82) ω84 fun ω85 =>
  pr.load1 (.int .i64) a83 ω85 fun (ξ86 : Int) =>
  pr.storeC a83 (vI (w64 (ξ86 - 1))) ω85 fun ω87 =>
  k (emb12 a_0 b_1 out_9 a83) ω87) := by kernel_rfl
theorem A19_4_s (a_0 : Sl) (b_1 : Sl) (out_9 : Sl) (i_10 : Addr) (v_13 : Int) (w : World) (k : Env → World → Prop) (Q : Exit → Env → World → Prop) : (q49 std k Q) (.exit 4) (x4 a_0 b_1 out_9 i_10 v_13) w = (
  load1 (.int .i64) i_10 w fun (ξ79 : Int) =>
  idxK 1 out_9 (w64 (ξ79 - 1)) fun (a80 : Addr) =>
  storeC a80 (vI v_13) w fun ω81 =>
  load1 (.int .i64) i_10 ω81 fun (ξ82 : Int) =>
  newK T_int #[vI 0] ω81 fun (a83 : Addr) ω84 =>
  storeC a83 (vI ξ82) ω84 fun ω85 =>
  load1 (.int .i64) a83 ω85 fun (ξ86 : Int) =>
  storeC a83 (vI (w64 (ξ86 - 1))) ω85 fun ω87 =>
  k (emb12 a_0 b_1 out_9 a83) ω87) := A19_4_eq std a_0 b_1 out_9 i_10 v_13 w k Q
theorem A19_6_eq (pr : Prims) (a_0 : Sl) (b_1 : Sl) (out_9 : Sl) (i_10 : Addr) (row_11 : Int) (v_13 : Int) (at_14 : Int) (w : World) (k : Env → World → Prop) (Q : Exit → Env → World → Prop) : (q49 pr k Q) (.exit 6) (x6 a_0 b_1 out_9 i_10 row_11 v_13 at_14) w = (
  Q (.exit 6) (x6 a_0 b_1 out_9 i_10 row_11 v_13 at_14) w) := by kernel_rfl
theorem A19_6_s (a_0 : Sl) (b_1 : Sl) (out_9 : Sl) (i_10 : Addr) (row_11 : Int) (v_13 : Int) (at_14 : Int) (w : World) (k : Env → World → Prop) (Q : Exit → Env → World → Prop) : (q49 std k Q) (.exit 6) (x6 a_0 b_1 out_9 i_10 row_11 v_13 at_14) w = (
  Q (.exit 6) (x6 a_0 b_1 out_9 i_10 row_11 v_13 at_14) w) := A19_6_eq std a_0 b_1 out_9 i_10 row_11 v_13 at_14 w k Q
theorem J18_gen (pr : Prims) (a_0 : Sl) (b_1 : Sl) (out_9 : Sl) (i_10 : Addr) (row_11 : Int) (v_13 : Int) (w : World) (k : Env → World → Prop) (Q : Exit → Env → World → Prop) : wpC pr PP cfg (DD pr) (sub (codeOf Try.f45) [1, 1, 1, 1, 1, 1, 0, 1, 0, 0, 1, 0, 0, 1, 1, 1, 1]) (q27 pr k Q) (j18 a_0 b_1 out_9 i_10 row_11 v_13) w = (
  L19 pr a_0 b_1 out_9 i_10 (w64 (row_11 - 1)) v_13 w (q49 pr k Q)) := by kernel_rfl
theorem J18_s (a_0 : Sl) (b_1 : Sl) (out_9 : Sl) (i_10 : Addr) (row_11 : Int) (v_13 : Int) (w : World) (k : Env → World → Prop) (Q : Exit → Env → World → Prop) : J18 std a_0 b_1 out_9 i_10 row_11 v_13 w k Q = (
  L19 std a_0 b_1 out_9 i_10 (w64 (row_11 - 1)) v_13 w (q49 std k Q)) := J18_gen std a_0 b_1 out_9 i_10 row_11 v_13 w k Q
theorem B12_eq (pr : Prims) (a_0 : Sl) (b_1 : Sl) (out_9 : Sl) (i_10 : Addr) (w : World) (k : Env → World → Prop) (Q : Exit → Env → World → Prop) : B12 pr a_0 b_1 out_9 i_10 w k Q = (
  pr.load1 (.int .i64) i_10 w fun (ξ25 : Int) =>
  bif decide (ξ25 ≥ 1) then (
  pr.call1 (.int .i64) PP F.slices_IndexFunc_____int___int_ #[Sl.v b_1, (.func (.func F.impl_PermOfTableauxL1) #[] #[.pointer (some i_10)])] w fun (ρ28 : Int) ω29 =>
  pr.idxK 1 a_0 ρ28 fun (a30 : Addr) =>
  pr.load1 .sl a30 ω29 fun (ξ31 : Sl) =>
  pr.idxK 1 a_0 ρ28 fun (a32 : Addr) =>
  pr.load1 .sl a32 ω29 fun (ξ33 : Sl) =>
  pr.idxK 1 ξ33 (w64 ((ξ31.n : Int) - 1)) fun (a34 : Addr) =>
  pr.load1 (.int .i64) a34 ω29 fun (ξ35 : Int) =>
  pr.drewAll ω29 fun ω37 =>
  pr.idxK 1 a_0 ρ28 fun (a38 : Addr) =>
  pr.idxK 1 b_1 ρ28 fun (a39 : Addr) =>
  (pr.load1 .sl a38 ω37 fun (ξ40 : Sl) =>
  pr.cutK 1 ξ40 none (some (w64 ((ξ31.n : Int) - 1))) fun (s41 : Sl) =>
  pr.load1 .sl a39 ω37 fun (ξ42 : Sl) =>
  pr.cutK 1 ξ42 none (some (w64 ((ξ31.n : Int) - 1))) fun (s43 : Sl) =>
  pr.idxK 1 a_0 ρ28 fun (a44 : Addr) =>
  pr.storeC a44 (Sl.v s41) ω37 fun ω45 =>
  pr.idxK 1 b_1 ρ28 fun (a46 : Addr) =>
  pr.storeC a46 (Sl.v s43) ω45 fun ω47 =>
  J18 pr a_0 b_1 out_9 i_10 ρ28 ξ35 ω47 k Q) ∧
  (pr.load1 .sl a39 ω37 fun (ξ88 : Sl) =>
  pr.cutK 1 ξ88 none (some (w64 ((ξ31.n : Int) - 1))) fun (s89 : Sl) =>
  pr.load1 .sl a38 ω37 fun (ξ90 : Sl) =>
  pr.cutK 1 ξ90 none (some (w64 ((ξ31.n : Int) - 1))) fun (s91 : Sl) =>
  pr.idxK 1 a_0 ρ28 fun (a92 : Addr) =>
  pr.storeC a92 (Sl.v s91) ω37 fun ω93 =>
  pr.idxK 1 b_1 ρ28 fun (a94 : Addr) =>
  pr.storeC a94 (Sl.v s89) ω93 fun ω95 =>
  J18 pr a_0 b_1 out_9 i_10 ρ28 ξ35 ω95 k Q))
  else (
  Q (.exit 2) (x2 out_9) w)) := by kernel_rfl
theorem B12_s (a_0 : Sl) (b_1 : Sl) (out_9 : Sl) (i_10 : Addr) (w : World) (k : Env → World → Prop) (Q : Exit → Env → World → Prop) : B12 std a_0 b_1 out_9 i_10 w k Q = (
  load1 (.int .i64) i_10 w fun (ξ25 : Int) =>
  bif decide (ξ25 ≥ 1) then (
  call1 (.int .i64) PP F.slices_IndexFunc_____int___int_ #[Sl.v b_1, (.func (.func F.impl_PermOfTableauxL1) #[] #[.pointer (some i_10)])] w fun (ρ28 : Int) ω29 =>
  idxK 1 a_0 ρ28 fun (a30 : Addr) =>
  load1 .sl a30 ω29 fun (ξ31 : Sl) =>
  idxK 1 a_0 ρ28 fun (a32 : Addr) =>
  load1 .sl a32 ω29 fun (ξ33 : Sl) =>
  idxK 1 ξ33 (w64 ((ξ31.n : Int) - 1)) fun (a34 : Addr) =>
  load1 (.int .i64) a34 ω29 fun (ξ35 : Int) =>
  drewAll ω29 fun ω37 =>
  idxK 1 a_0 ρ28 fun (a38 : Addr) =>
  idxK 1 b_1 ρ28 fun (a39 : Addr) =>
  (load1 .sl a38 ω37 fun (ξ40 : Sl) =>
  cutK 1 ξ40 none (some (w64 ((ξ31.n : Int) - 1))) fun (s41 : Sl) =>
  load1 .sl a39 ω37 fun (ξ42 : Sl) =>
  cutK 1 ξ42 none (some (w64 ((ξ31.n : Int) - 1))) fun (s43 : Sl) =>
  idxK 1 a_0 ρ28 fun (a44 : Addr) =>
  storeC a44 (Sl.v s41) ω37 fun ω45 =>
  idxK 1 b_1 ρ28 fun (a46 : Addr) =>
  storeC a46 (Sl.v s43) ω45 fun ω47 =>
  J18 std a_0 b_1 out_9 i_10 ρ28 ξ35 ω47 k Q) ∧
  (load1 .sl a39 ω37 fun (ξ88 : Sl) =>
  cutK 1 ξ88 none (some (w64 ((ξ31.n : Int) - 1))) fun (s89 : Sl) =>
  load1 .sl a38 ω37 fun (ξ90 : Sl) =>
  cutK 1 ξ90 none (some (w64 ((ξ31.n : Int) - 1))) fun (s91 : Sl) =>
  idxK 1 a_0 ρ28 fun (a92 : Addr) =>
  storeC a92 (Sl.v s91) ω37 fun ω93 =>
  idxK 1 b_1 ρ28 fun (a94 : Addr) =>
  storeC a94 (Sl.v s89) ω93 fun ω95 =>
  J18 std a_0 b_1 out_9 i_10 ρ28 ξ35 ω95 k Q))
  else (
  Q (.exit 2) (x2 out_9) w)) := B12_eq std a_0 b_1 out_9 i_10 w k Q
theorem L12_rule (a_0 : Sl) (b_1 : Sl) (out_9 : Sl) (i_10 : Addr) (w : World) (Q : Exit → Env → World → Prop) (I : Addr → World → Prop) (μ : Addr → World → Nat) (h0 : I i_10 w)
    (h : ∀ (i_10 : Addr) (w' : World), I i_10 w' → B12 std a_0 b_1 out_9 i_10 w' (fun e2 w2 => ∃ i_10_n, e2 = emb12 a_0 b_1 out_9 i_10_n ∧ I i_10_n w2 ∧ μ i_10_n w2 < μ i_10 w') Q) :
    L12 std a_0 b_1 out_9 i_10 w Q := by
  unfold L12
  refine LoopE.intro (σ := Addr) (step := S12 std Q) (fun s => emb12 a_0 b_1 out_9 s) (fun s w => I s w) (fun s w => μ s w) i_10 rfl h0 ?_
  intro s w' hI
  have h1 := h s w' hI
  unfold B12 at h1
  exact h1
theorem A12_2_eq (pr : Prims) (out_9 : Sl) (w : World) (R : Ending → World → Prop) : (q24 pr R) (.exit 2) (x2 out_9) w = (
  R (.returned (.tuple #[Sl.v out_9, .bool true])) w) := by kernel_rfl
theorem A12_2_s (out_9 : Sl) (w : World) (R : Ending → World → Prop) : (q24 std R) (.exit 2) (x2 out_9) w = (
  R (.returned (.tuple #[Sl.v out_9, .bool true])) w) := A12_2_eq std out_9 w R
theorem A6_0_eq (pr : Prims) (a_0 : Sl) (b_1 : Sl) (n_6 : Int) (w : World) (R : Ending → World → Prop) : (q15 pr R) (.exit 0) (x0 a_0 b_1 n_6) w = (
  pr.sem1 .sl PP (Instr.makeSlice T_Sint (vI n_6) (vI n_6)) w fun (ρ18 : Sl) ω19 =>
  pr.newK T_int #[vI 0] ω19 fun (a21 : Addr) ω22 =>
  pr.storeC a21 (vI n_6) ω22 fun ω23 =>
  L12 pr a_0 b_1 ρ18 a21 ω23 (q24 pr R)) := by kernel_rfl
theorem A6_0_s (a_0 : Sl) (b_1 : Sl) (n_6 : Int) (w : World) (R : Ending → World → Prop) : (q15 std R) (.exit 0) (x0 a_0 b_1 n_6) w = (
  sem1 .sl PP (Instr.makeSlice T_Sint (vI n_6) (vI n_6)) w fun (ρ18 : Sl) ω19 =>
  newK T_int #[vI 0] ω19 fun (a21 : Addr) ω22 =>
  storeC a21 (vI n_6) ω22 fun ω23 =>
  L12 std a_0 b_1 ρ18 a21 ω23 (q24 std R)) := A6_0_eq std a_0 b_1 n_6 w R
theorem E_eq (pr : Prims) (a_0 : Sl) (b_1 : Sl) (w : World) (R : Ending → World → Prop) : E pr a_0 b_1 w R = (
  pr.call1 .bool PP F.impl_IsTableau #[Sl.v a_0] w fun (ρ0 : Bool) ω1 =>
  bif !ρ0 then (
  R (.returned (.tuple #[Sl.v Sl.nil, .bool false])) ω1)
  else (
  pr.call1 .bool PP F.impl_IsTableau #[Sl.v b_1] ω1 fun (ρ2 : Bool) ω3 =>
  bif !ρ2 then (
  R (.returned (.tuple #[Sl.v Sl.nil, .bool false])) ω3)
  else (
  pr.call1 .sl PP F.impl_form #[Sl.v a_0] ω3 fun (ρ4 : Sl) ω5 =>
  pr.call1 .sl PP F.impl_form #[Sl.v b_1] ω5 fun (ρ6 : Sl) ω7 =>
  pr.call1 .bool PP F.slices_Equal___int_int_ #[Sl.v ρ4, Sl.v ρ6] ω7 fun (ρ8 : Bool) ω9 =>
  bif !ρ8 then (
  R (.returned (.tuple #[Sl.v Sl.nil, .bool false])) ω9)
  else (
  pr.call1 .sl PP F.impl_copied #[Sl.v a_0] ω9 fun (ρ10 : Sl) ω11 =>
  pr.call1 .sl PP F.impl_copied #[Sl.v b_1] ω11 fun (ρ12 : Sl) ω13 =>
  L6 pr ρ10 ρ12 0 ρ10 (ρ10.n : Int) 0 ω13 (q15 pr R))))) := by kernel_rfl
theorem E_s (a_0 : Sl) (b_1 : Sl) (w : World) (R : Ending → World → Prop) : E std a_0 b_1 w R = (
  call1 .bool PP F.impl_IsTableau #[Sl.v a_0] w fun (ρ0 : Bool) ω1 =>
  bif !ρ0 then (
  R (.returned (.tuple #[Sl.v Sl.nil, .bool false])) ω1)
  else (
  call1 .bool PP F.impl_IsTableau #[Sl.v b_1] ω1 fun (ρ2 : Bool) ω3 =>
  bif !ρ2 then (
  R (.returned (.tuple #[Sl.v Sl.nil, .bool false])) ω3)
  else (
  call1 .sl PP F.impl_form #[Sl.v a_0] ω3 fun (ρ4 : Sl) ω5 =>
  call1 .sl PP F.impl_form #[Sl.v b_1] ω5 fun (ρ6 : Sl) ω7 =>
  call1 .bool PP F.slices_Equal___int_int_ #[Sl.v ρ4, Sl.v ρ6] ω7 fun (ρ8 : Bool) ω9 =>
  bif !ρ8 then (
  R (.returned (.tuple #[Sl.v Sl.nil, .bool false])) ω9)
  else (
  call1 .sl PP F.impl_copied #[Sl.v a_0] ω9 fun (ρ10 : Sl) ω11 =>
  call1 .sl PP F.impl_copied #[Sl.v b_1] ω11 fun (ρ12 : Sl) ω13 =>
  L6 std ρ10 ρ12 0 ρ10 (ρ10.n : Int) 0 ω13 (q15 std R))))) := E_eq std a_0 b_1 w R
theorem drawsOk : drawsOk PP cfg okD (codeOf Try.f45) = true := by kernel_rfl
theorem calls (a_0 : Sl) (b_1 : Sl) {w : World} {R : Ending → World → Prop} (h : E std a_0 b_1 w R) : Calls PP F.impl_PermOfTableaux #[Sl.v a_0, Sl.v b_1] w R :=
  calls_of noCount mixed drawOk Try.func45 rfl (c := cfg) (args := [Sl.v a_0, Sl.v b_1]) rfl (Nat.le_of_ble_eq_true (by kernel_rfl)) drawsOk h
end impl_PermOfTableaux

namespace impl_PermOfTableauxL1
@[reducible] def cfg : Cfg := ⟨17, [], [], [], [3], [1], [91, 60, 17, 21, 24, 26, 65, 27, 82, 64, 85, 108, 78, 53, 51], [86, 52, 88]⟩
def E (pr : Prims) (r_0 : Sl) (t1 : Addr) (w : World) (R : Ending → World → Prop) : Prop :=
  wpC pr PP cfg (DD pr) (codeOf Try.f85) (retQ Try.f85.results.toList R) (argE 0 [Sl.v r_0, .pointer (some t1)]) w
theorem E_eq (pr : Prims) (r_0 : Sl) (t1 : Addr) (w : World) (R : Ending → World → Prop) : E pr r_0 t1 w R = (
  bif decide ((r_0.n : Int) > 0) then (
  pr.idxK 1 r_0 (w64 ((r_0.n : Int) - 1)) fun (a0 : Addr) =>
  pr.load1 (.int .i64) a0 w fun (ξ1 : Int) =>
  pr.load1 (.int .i64) t1 w fun (ξ2 : Int) =>
  pr.drewAll w fun ω3 =>
  R (.returned (.bool (ξ1 == ξ2))) ω3)
  else (
  pr.drewAll w fun ω4 =>
  R (.returned (.bool false)) ω4)) := by kernel_rfl
theorem E_s (r_0 : Sl) (t1 : Addr) (w : World) (R : Ending → World → Prop) : E std r_0 t1 w R = (
  bif decide ((r_0.n : Int) > 0) then (
  idxK 1 r_0 (w64 ((r_0.n : Int) - 1)) fun (a0 : Addr) =>
  load1 (.int .i64) a0 w fun (ξ1 : Int) =>
  load1 (.int .i64) t1 w fun (ξ2 : Int) =>
  drewAll w fun ω3 =>
  R (.returned (.bool (ξ1 == ξ2))) ω3)
  else (
  drewAll w fun ω4 =>
  R (.returned (.bool false)) ω4)) := E_eq std r_0 t1 w R
theorem drawsOk : drawsOk PP cfg okD (codeOf Try.f85) = true := by kernel_rfl
theorem calls (r_0 : Sl) (t1 : Addr) {w : World} {R : Ending → World → Prop} (h : E std r_0 t1 w R) : Calls PP F.impl_PermOfTableauxL1 #[Sl.v r_0, .pointer (some t1)] w R :=
  calls_of noCount mixed drawOk Try.func85 rfl (c := cfg) (args := [Sl.v r_0, .pointer (some t1)]) rfl (Nat.le_of_ble_eq_true (by kernel_rfl)) drawsOk h
end impl_PermOfTableauxL1

namespace spec_PermOfTableaux
@[reducible] def cfg : Cfg := ⟨60, [(6, [1, 6, 7, 8]), (11, [1, 6, 9, 10])], [(1, [1, 6, 7, 8]), (0, [1, 6, 7]), (3, [1, 6, 9, 10]), (2, [9])], [], [4, 5], [], [91, 60, 17, 21, 24, 26, 65, 27, 82, 64, 85, 108, 78, 53, 51], [86, 52, 88]⟩
def q18 (pr : Prims) (R : Ending → World → Prop) : Exit → Env → World → Prop := fun ex e w => normQ ex (fun e w => contE pr cfg (sub (codeOf Try.f44) [1, 1, 1, 1, 1]) (fun e w => wpC pr PP cfg (DD pr) (sub (codeOf Try.f44) [1, 1, 1, 1, 1]) (retQ Try.f44.results.toList R) e w) e w) (retQ Try.f44.results.toList R) e w
def q19 (pr : Prims) (R : Ending → World → Prop) : Exit → Env → World → Prop := fun ex e w => blockQ ex 0 (q18 pr R) e w
def q24 (pr : Prims) (R : Ending → World → Prop) : Exit → Env → World → Prop := fun ex e w => normQ ex (fun e w => contE pr cfg (sub (codeOf Try.f44) [1, 1, 1, 1, 1, 1, 1]) (fun e w => wpC pr PP cfg (DD pr) (sub (codeOf Try.f44) [1, 1, 1, 1, 1, 1, 1]) (retQ Try.f44.results.toList R) e w) e w) (retQ Try.f44.results.toList R) e w
def q25 (pr : Prims) (R : Ending → World → Prop) : Exit → Env → World → Prop := fun ex e w => blockQ ex 2 (q24 pr R) e w
def emb6 (b_1 : Sl) (t_6 : Sl) (size_7 : Int) (r_8 : Int) : Env := [(1, Sl.v b_1), (6, Sl.v t_6), (7, vI size_7), (8, vI r_8)]
def x0 (b_1 : Sl) (t_6 : Sl) (size_7 : Int) : Env := [(1, Sl.v b_1), (6, Sl.v t_6), (7, vI size_7)]
def emb11 (b_1 : Sl) (t_6 : Sl) (out_9 : Sl) (k_10 : Int) : Env := [(1, Sl.v b_1), (6, Sl.v t_6), (9, Sl.v out_9), (10, vI k_10)]
def x2 (out_9 : Sl) : Env := [(9, Sl.v out_9)]
def S6 (pr : Prims) (Q : Exit → Env → World → Prop) : (Env → World → Prop) → Env → World → Prop := fun k e w => wpC pr PP cfg (DD pr) (sub (codeOf Try.f44) [1, 1, 1, 1, 0, 1, 0, 0]) (fun ex e w => normQ ex (fun e' w' => k (Env.restr e' (lookN cfg.loops (keyOf (sub (codeOf Try.f44) [1, 1, 1, 1, 0, 1, 0, 0])))) w') Q e w) e w
def S11 (pr : Prims) (Q : Exit → Env → World → Prop) : (Env → World → Prop) → Env → World → Prop := fun k e w => wpC pr PP cfg (DD pr) (sub (codeOf Try.f44) [1, 1, 1, 1, 1, 1, 0, 1, 0, 0]) (fun ex e w => normQ ex (fun e' w' => k (Env.restr e' (lookN cfg.loops (keyOf (sub (codeOf Try.f44) [1, 1, 1, 1, 1, 1, 0, 1, 0, 0])))) w') Q e w) e w
def B6 (pr : Prims) (b_1 : Sl) (t_6 : Sl) (size_7 : Int) (r_8 : Int) (w : World) (k : Env → World → Prop) (Q : Exit → Env → World → Prop) : Prop :=
  S6 pr Q k (emb6 b_1 t_6 size_7 r_8) w
def L6 (pr : Prims) (b_1 : Sl) (t_6 : Sl) (size_7 : Int) (r_8 : Int) (w : World) (Q : Exit → Env → World → Prop) : Prop :=
  pr.loop (S6 pr Q) (emb6 b_1 t_6 size_7 r_8) w
def B11 (pr : Prims) (b_1 : Sl) (t_6 : Sl) (out_9 : Sl) (k_10 : Int) (w : World) (k : Env → World → Prop) (Q : Exit → Env → World → Prop) : Prop :=
  S11 pr Q k (emb11 b_1 t_6 out_9 k_10) w
def L11 (pr : Prims) (b_1 : Sl) (t_6 : Sl) (out_9 : Sl) (k_10 : Int) (w : World) (Q : Exit → Env → World → Prop) : Prop :=
  pr.loop (S11 pr Q) (emb11 b_1 t_6 out_9 k_10) w
def E (pr : Prims) (a_0 : Sl) (b_1 : Sl) (w : World) (R : Ending → World → Prop) : Prop :=
  wpC pr PP cfg (DD pr) (codeOf Try.f44) (retQ Try.f44.results.toList R) (argE 0 [Sl.v a_0, Sl.v b_1]) w
theorem B6_eq (pr : Prims) (b_1 : Sl) (t_6 : Sl) (size_7 : Int) (r_8 : Int) (w : World) (k : Env → World → Prop) (Q : Exit → Env → World → Prop) : B6 pr b_1 t_6 size_7 r_8 w k Q = (
  bif decide (r_8 < (b_1.n : Int)) then (
  pr.idxK 1 b_1 r_8 fun (a20 : Addr) =>
  pr.load1 .sl a20 w fun (ξ21 : Sl) =>
  k (emb6 b_1 t_6 (w64 (size_7 + (ξ21.n : Int))) (w64 (r_8 + 1))) w)
  else (
  Q (.exit 0) (x0 b_1 t_6 size_7) w)) := by kernel_rfl
theorem B6_s (b_1 : Sl) (t_6 : Sl) (size_7 : Int) (r_8 : Int) (w : World) (k : Env → World → Prop) (Q : Exit → Env → World → Prop) : B6 std b_1 t_6 size_7 r_8 w k Q = (
  bif decide (r_8 < (b_1.n : Int)) then (
  idxK 1 b_1 r_8 fun (a20 : Addr) =>
  load1 .sl a20 w fun (ξ21 : Sl) =>
  k (emb6 b_1 t_6 (w64 (size_7 + (ξ21.n : Int))) (w64 (r_8 + 1))) w)
  else (
  Q (.exit 0) (x0 b_1 t_6 size_7) w)) := B6_eq std b_1 t_6 size_7 r_8 w k Q
theorem L6_rule (b_1 : Sl) (t_6 : Sl) (size_7 : Int) (r_8 : Int) (w : World) (Q : Exit → Env → World → Prop) (I : Int → Int → World → Prop) (μ : Int → Int → World → Nat) (h0 : I size_7 r_8 w)
    (h : ∀ (size_7 : Int) (r_8 : Int) (w' : World), I size_7 r_8 w' → B6 std b_1 t_6 size_7 r_8 w' (fun e2 w2 => ∃ size_7_n r_8_n, e2 = emb6 b_1 t_6 size_7_n r_8_n ∧ I size_7_n r_8_n w2 ∧ μ size_7_n r_8_n w2 < μ size_7 r_8 w') Q) :
    L6 std b_1 t_6 size_7 r_8 w Q := by
  unfold L6
  refine LoopE.intro (σ := Int × Int) (step := S6 std Q) (fun s => emb6 b_1 t_6 s.1 s.2) (fun s w => I s.1 s.2 w) (fun s w => μ s.1 s.2 w) (size_7, r_8) rfl h0 ?_
  intro s w' hI
  have h1 := h s.1 s.2 w' hI
  unfold B6 at h1
  simp only [Prod.exists]
  exact h1
theorem B11_eq (pr : Prims) (b_1 : Sl) (t_6 : Sl) (out_9 : Sl) (k_10 : Int) (w : World) (k : Env → World → Prop) (Q : Exit → Env → World → Prop) : B11 pr b_1 t_6 out_9 k_10 w k Q = (
  bif decide (k_10 ≥ 1) then (
  pr.call1 (.int .i64) PP F.spec_l19Row #[Sl.v b_1, vI k_10] w fun (ρ26 : Int) ω27 =>
  pr.call1 (.int .i64) PP F.spec_l19Take #[Sl.v t_6, vI ρ26] ω27 fun (ρ28 : Int) ω29 =>
  pr.idxK 1 out_9 (w64 (k_10 - 1)) fun (a30 : Addr) =>
  pr.storeC a30 (vI ρ28) ω29 fun ω31 =>
  k (emb11 b_1 t_6 out_9 (w64 (k_10 - 1))) ω31)
  else (
  Q (.exit 2) (x2 out_9) w)) := by kernel_rfl
theorem B11_s (b_1 : Sl) (t_6 : Sl) (out_9 : Sl) (k_10 : Int) (w : World) (k : Env → World → Prop) (Q : Exit → Env → World → Prop) : B11 std b_1 t_6 out_9 k_10 w k Q = (
  bif decide (k_10 ≥ 1) then (
  call1 (.int .i64) PP F.spec_l19Row #[Sl.v b_1, vI k_10] w fun (ρ26 : Int) ω27 =>
  call1 (.int .i64) PP F.spec_l19Take #[Sl.v t_6, vI ρ26] ω27 fun (ρ28 : Int) ω29 =>
  idxK 1 out_9 (w64 (k_10 - 1)) fun (a30 : Addr) =>
  storeC a30 (vI ρ28) ω29 fun ω31 =>
  k (emb11 b_1 t_6 out_9 (w64 (k_10 - 1))) ω31)
  else (
  Q (.exit 2) (x2 out_9) w)) := B11_eq std b_1 t_6 out_9 k_10 w k Q
theorem L11_rule (b_1 : Sl) (t_6 : Sl) (out_9 : Sl) (k_10 : Int) (w : World) (Q : Exit → Env → World → Prop) (I : Int → World → Prop) (μ : Int → World → Nat) (h0 : I k_10 w)
    (h : ∀ (k_10 : Int) (w' : World), I k_10 w' → B11 std b_1 t_6 out_9 k_10 w' (fun e2 w2 => ∃ k_10_n, e2 = emb11 b_1 t_6 out_9 k_10_n ∧ I k_10_n w2 ∧ μ k_10_n w2 < μ k_10 w') Q) :
    L11 std b_1 t_6 out_9 k_10 w Q := by
  unfold L11
  refine LoopE.intro (σ := Int) (step := S11 std Q) (fun s => emb11 b_1 t_6 out_9 s) (fun s w => I s w) (fun s w => μ s w) k_10 rfl h0 ?_
  intro s w' hI
  have h1 := h s w' hI
  unfold B11 at h1
  exact h1
theorem A11_2_eq (pr : Prims) (out_9 : Sl) (w : World) (R : Ending → World → Prop) : (q25 pr R) (.exit 2) (x2 out_9) w = (
  R (.returned (.tuple #[Sl.v out_9, .bool true])) w) := by kernel_rfl
theorem A11_2_s (out_9 : Sl) (w : World) (R : Ending → World → Prop) : (q25 std R) (.exit 2) (x2 out_9) w = (
  R (.returned (.tuple #[Sl.v out_9, .bool true])) w) := A11_2_eq std out_9 w R
theorem A6_0_eq (pr : Prims) (b_1 : Sl) (t_6 : Sl) (size_7 : Int) (w : World) (R : Ending → World → Prop) : (q19 pr R) (.exit 0) (x0 b_1 t_6 size_7) w = (
  pr.sem1 .sl PP (Instr.makeSlice T_Sint (vI size_7) (vI size_7)) w fun (ρ22 : Sl) ω23 =>
  L11 pr b_1 t_6 ρ22 size_7 ω23 (q25 pr R)) := by kernel_rfl
theorem A6_0_s (b_1 : Sl) (t_6 : Sl) (size_7 : Int) (w : World) (R : Ending → World → Prop) : (q19 std R) (.exit 0) (x0 b_1 t_6 size_7) w = (
  sem1 .sl PP (Instr.makeSlice T_Sint (vI size_7) (vI size_7)) w fun (ρ22 : Sl) ω23 =>
  L11 std b_1 t_6 ρ22 size_7 ω23 (q25 std R)) := A6_0_eq std b_1 t_6 size_7 w R
theorem E_eq (pr : Prims) (a_0 : Sl) (b_1 : Sl) (w : World) (R : Ending → World → Prop) : E pr a_0 b_1 w R = (
  pr.call1 .bool PP F.spec_IsTableau #[Sl.v a_0] w fun (ρ0 : Bool) ω1 =>
  bif !ρ0 then (
  pr.sem1 .sl PP (Instr.buildSlice T_Sint 0 #[]) ω1 fun (ρ2 : Sl) ω3 =>
  R (.returned (.tuple #[Sl.v ρ2, .bool false])) ω3)
  else (
  pr.call1 .bool PP F.spec_IsTableau #[Sl.v b_1] ω1 fun (ρ4 : Bool) ω5 =>
  bif !ρ4 then (
  pr.sem1 .sl PP (Instr.buildSlice T_Sint 0 #[]) ω5 fun (ρ6 : Sl) ω7 =>
  R (.returned (.tuple #[Sl.v ρ6, .bool false])) ω7)
  else (
  pr.call1 .sl PP F.spec_l19Lengths #[Sl.v a_0] ω5 fun (ρ8 : Sl) ω9 =>
  pr.call1 .sl PP F.spec_l19Lengths #[Sl.v b_1] ω9 fun (ρ10 : Sl) ω11 =>
  pr.call1 .bool PP F.spec_l2Same #[Sl.v ρ8, Sl.v ρ10] ω11 fun (ρ12 : Bool) ω13 =>
  bif !ρ12 then (
  pr.sem1 .sl PP (Instr.buildSlice T_Sint 0 #[]) ω13 fun (ρ14 : Sl) ω15 =>
  R (.returned (.tuple #[Sl.v ρ14, .bool false])) ω15)
  else (
  pr.call1 .sl PP F.spec_l2Copy #[Sl.v a_0] ω13 fun (ρ16 : Sl) ω17 =>
  L6 pr b_1 ρ16 0 0 ω17 (q19 pr R))))) := by kernel_rfl
theorem E_s (a_0 : Sl) (b_1 : Sl) (w : World) (R : Ending → World → Prop) : E std a_0 b_1 w R = (
  call1 .bool PP F.spec_IsTableau #[Sl.v a_0] w fun (ρ0 : Bool) ω1 =>
  bif !ρ0 then (
  sem1 .sl PP (Instr.buildSlice T_Sint 0 #[]) ω1 fun (ρ2 : Sl) ω3 =>
  R (.returned (.tuple #[Sl.v ρ2, .bool false])) ω3)
  else (
  call1 .bool PP F.spec_IsTableau #[Sl.v b_1] ω1 fun (ρ4 : Bool) ω5 =>
  bif !ρ4 then (
  sem1 .sl PP (Instr.buildSlice T_Sint 0 #[]) ω5 fun (ρ6 : Sl) ω7 =>
  R (.returned (.tuple #[Sl.v ρ6, .bool false])) ω7)
  else (
  call1 .sl PP F.spec_l19Lengths #[Sl.v a_0] ω5 fun (ρ8 : Sl) ω9 =>
  call1 .sl PP F.spec_l19Lengths #[Sl.v b_1] ω9 fun (ρ10 : Sl) ω11 =>
  call1 .bool PP F.spec_l2Same #[Sl.v ρ8, Sl.v ρ10] ω11 fun (ρ12 : Bool) ω13 =>
  bif !ρ12 then (
  sem1 .sl PP (Instr.buildSlice T_Sint 0 #[]) ω13 fun (ρ14 : Sl) ω15 =>
  R (.returned (.tuple #[Sl.v ρ14, .bool false])) ω15)
  else (
  call1 .sl PP F.spec_l2Copy #[Sl.v a_0] ω13 fun (ρ16 : Sl) ω17 =>
  L6 std b_1 ρ16 0 0 ω17 (q19 std R))))) := E_eq std a_0 b_1 w R
theorem drawsOk : drawsOk PP cfg okD (codeOf Try.f44) = true := by kernel_rfl
theorem calls (a_0 : Sl) (b_1 : Sl) {w : World} {R : Ending → World → Prop} (h : E std a_0 b_1 w R) : Calls PP F.spec_PermOfTableaux #[Sl.v a_0, Sl.v b_1] w R :=
  calls_of noCount mixed drawOk Try.func44 rfl (c := cfg) (args := [Sl.v a_0, Sl.v b_1]) rfl (Nat.le_of_ble_eq_true (by kernel_rfl)) drawsOk h
end spec_PermOfTableaux

namespace spec_l19Take
@[reducible] def cfg : Cfg := ⟨71, [(8, [0, 6, 7, 8]), (5, [0, 6, 7])], [(3, [0, 6, 7, 8]), (2, [0, 6, 7, 8]), (1, [0, 6, 7]), (0, [6])], [], [4], [], [91, 60, 17, 21, 24, 26, 65, 27, 82, 64, 85, 108, 78, 53, 51], [86, 52, 88]⟩
def q11 (pr : Prims) (R : Ending → World → Prop) : Exit → Env → World → Prop := fun ex e w => normQ ex (fun e w => contE pr cfg (sub (codeOf Try.f80) [1, 1, 1, 1, 1]) (fun e w => wpC pr PP cfg (DD pr) (sub (codeOf Try.f80) [1, 1, 1, 1, 1]) (retQ Try.f80.results.toList R) e w) e w) (retQ Try.f80.results.toList R) e w
def q12 (pr : Prims) (R : Ending → World → Prop) : Exit → Env → World → Prop := fun ex e w => blockQ ex 0 (q11 pr R) e w
def q13 (pr : Prims) (k : Env → World → Prop) (Q : Exit → Env → World → Prop) : Exit → Env → World → Prop := fun ex e w => normQ ex (fun e w => contE pr cfg (sub (codeOf Try.f80) [1, 1, 1, 1, 0, 1, 0, 0, 1, 1]) (fun e w => wpC pr PP cfg (DD pr) (sub (codeOf Try.f80) [1, 1, 1, 1, 0, 1, 0, 0, 1, 1]) (fun ex e w => normQ ex (fun e' w' => k (Env.restr e' (lookN cfg.loops (keyOf (sub (codeOf Try.f80) [1, 1, 1, 1, 0, 1, 0, 0])))) w') Q e w) e w) e w) (fun ex e w => normQ ex (fun e' w' => k (Env.restr e' (lookN cfg.loops (keyOf (sub (codeOf Try.f80) [1, 1, 1, 1, 0, 1, 0, 0])))) w') Q e w) e w
def q14 (pr : Prims) (k : Env → World → Prop) (Q : Exit → Env → World → Prop) : Exit → Env → World → Prop := fun ex e w => blockQ ex 1 (q13 pr k Q) e w
def q17 (pr : Prims) (k : Env → World → Prop) (Q : Exit → Env → World → Prop) : Exit → Env → World → Prop := fun ex e w => normQ ex (fun e w => contE pr cfg (sub (codeOf Try.f80) [1, 1, 1, 1, 0, 1, 0, 0, 1, 0, 0, 1, 1]) (fun e w => wpC pr PP cfg (DD pr) (sub (codeOf Try.f80) [1, 1, 1, 1, 0, 1, 0, 0, 1, 0, 0, 1, 1]) (q14 pr k Q) e w) e w) (q14 pr k Q) e w
def q18 (pr : Prims) (k : Env → World → Prop) (Q : Exit → Env → World → Prop) : Exit → Env → World → Prop := fun ex e w => blockQ ex 2 (q17 pr k Q) e w
def emb5 (t_0 : Sl) (n_6 : Int) (r_7 : Int) : Env := [(0, Sl.v t_0), (6, vI n_6), (7, vI r_7)]
def emb8 (t_0 : Sl) (n_6 : Int) (r_7 : Int) (c_8 : Int) : Env := [(0, Sl.v t_0), (6, vI n_6), (7, vI r_7), (8, vI c_8)]
def x2 (t_0 : Sl) (n_6 : Int) (r_7 : Int) (c_8 : Int) : Env := [(0, Sl.v t_0), (6, vI n_6), (7, vI r_7), (8, vI c_8)]
def x0 (n_6 : Int) : Env := [(6, vI n_6)]
def S8 (pr : Prims) (Q : Exit → Env → World → Prop) : (Env → World → Prop) → Env → World → Prop := fun k e w => wpC pr PP cfg (DD pr) (sub (codeOf Try.f80) [1, 1, 1, 1, 0, 1, 0, 0, 1, 0, 0, 1, 0, 0, 0]) (fun ex e w => normQ ex (fun e' w' => k (Env.restr e' (lookN cfg.loops (keyOf (sub (codeOf Try.f80) [1, 1, 1, 1, 0, 1, 0, 0, 1, 0, 0, 1, 0, 0, 0])))) w') Q e w) e w
def S5 (pr : Prims) (Q : Exit → Env → World → Prop) : (Env → World → Prop) → Env → World → Prop := fun k e w => wpC pr PP cfg (DD pr) (sub (codeOf Try.f80) [1, 1, 1, 1, 0, 1, 0, 0]) (fun ex e w => normQ ex (fun e' w' => k (Env.restr e' (lookN cfg.loops (keyOf (sub (codeOf Try.f80) [1, 1, 1, 1, 0, 1, 0, 0])))) w') Q e w) e w
def B8 (pr : Prims) (t_0 : Sl) (n_6 : Int) (r_7 : Int) (c_8 : Int) (w : World) (k : Env → World → Prop) (Q : Exit → Env → World → Prop) : Prop :=
  S8 pr Q k (emb8 t_0 n_6 r_7 c_8) w
def L8 (pr : Prims) (t_0 : Sl) (n_6 : Int) (r_7 : Int) (c_8 : Int) (w : World) (Q : Exit → Env → World → Prop) : Prop :=
  pr.loop (S8 pr Q) (emb8 t_0 n_6 r_7 c_8) w
def B5 (pr : Prims) (t_0 : Sl) (n_6 : Int) (r_7 : Int) (w : World) (k : Env → World → Prop) (Q : Exit → Env → World → Prop) : Prop :=
  S5 pr Q k (emb5 t_0 n_6 r_7) w
def L5 (pr : Prims) (t_0 : Sl) (n_6 : Int) (r_7 : Int) (w : World) (Q : Exit → Env → World → Prop) : Prop :=
  pr.loop (S5 pr Q) (emb5 t_0 n_6 r_7) w
def E (pr : Prims) (t_0 : Sl) (row_1 : Int) (w : World) (R : Ending → World → Prop) : Prop :=
  wpC pr PP cfg (DD pr) (codeOf Try.f80) (retQ Try.f80.results.toList R) (argE 0 [Sl.v t_0, vI row_1]) w
theorem B8_eq (pr : Prims) (t_0 : Sl) (n_6 : Int) (r_7 : Int) (c_8 : Int) (w : World) (k : Env → World → Prop) (Q : Exit → Env → World → Prop) : B8 pr t_0 n_6 r_7 c_8 w k Q = (
  pr.idxK 1 t_0 r_7 fun (a19 : Addr) =>
  pr.load1 .sl a19 w fun (ξ20 : Sl) =>
  pr.idxK 1 ξ20 c_8 fun (a21 : Addr) =>
  pr.load1 (.int .i64) a21 w fun (ξ22 : Int) =>
  bif decide (ξ22 > n_6) then (
  k (emb8 t_0 n_6 r_7 (w64 (c_8 - 1))) w)
  else (
  Q (.exit 2) (x2 t_0 n_6 r_7 c_8) w)) := by kernel_rfl
theorem B8_s (t_0 : Sl) (n_6 : Int) (r_7 : Int) (c_8 : Int) (w : World) (k : Env → World → Prop) (Q : Exit → Env → World → Prop) : B8 std t_0 n_6 r_7 c_8 w k Q = (
  idxK 1 t_0 r_7 fun (a19 : Addr) =>
  load1 .sl a19 w fun (ξ20 : Sl) =>
  idxK 1 ξ20 c_8 fun (a21 : Addr) =>
  load1 (.int .i64) a21 w fun (ξ22 : Int) =>
  bif decide (ξ22 > n_6) then (
  k (emb8 t_0 n_6 r_7 (w64 (c_8 - 1))) w)
  else (
  Q (.exit 2) (x2 t_0 n_6 r_7 c_8) w)) := B8_eq std t_0 n_6 r_7 c_8 w k Q
theorem L8_rule (t_0 : Sl) (n_6 : Int) (r_7 : Int) (c_8 : Int) (w : World) (Q : Exit → Env → World → Prop) (I : Int → World → Prop) (μ : Int → World → Nat) (h0 : I c_8 w)
    (h : ∀ (c_8 : Int) (w' : World), I c_8 w' → B8 std t_0 n_6 r_7 c_8 w' (fun e2 w2 => ∃ c_8_n, e2 = emb8 t_0 n_6 r_7 c_8_n ∧ I c_8_n w2 ∧ μ c_8_n w2 < μ c_8 w') Q) :
    L8 std t_0 n_6 r_7 c_8 w Q := by
  unfold L8
  refine LoopE.intro (σ := Int) (step := S8 std Q) (fun s => emb8 t_0 n_6 r_7 s) (fun s w => I s w) (fun s w => μ s w) c_8 rfl h0 ?_
  intro s w' hI
  have h1 := h s w' hI
  unfold B8 at h1
  exact h1
theorem A8_2_eq (pr : Prims) (t_0 : Sl) (n_6 : Int) (r_7 : Int) (c_8 : Int) (w : World) (k : Env → World → Prop) (Q : Exit → Env → World → Prop) : (q18 pr k Q) (.exit 2) (x2 t_0 n_6 r_7 c_8) w = (
  pr.idxK 1 t_0 r_7 fun (a23 : Addr) =>
  pr.load1 .sl a23 w fun (ξ24 : Sl) =>
  pr.idxK 1 ξ24 c_8 fun (a25 : Addr) =>
  pr.load1 (.int .i64) a25 w fun (ξ26 : Int) =>
  pr.idxK 1 t_0 r_7 fun (a27 : Addr) =>
  pr.load1 .sl a27 w fun (ξ28 : Sl) =>
  pr.idxK 1 ξ28 c_8 fun (a29 : Addr) =>
  pr.storeC a29 (vI n_6) w fun ω30 =>
  k (emb5 t_0 ξ26 (w64 (r_7 - 1))) ω30) := by kernel_rfl
theorem A8_2_s (t_0 : Sl) (n_6 : Int) (r_7 : Int) (c_8 : Int) (w : World) (k : Env → World → Prop) (Q : Exit → Env → World → Prop) : (q18 std k Q) (.exit 2) (x2 t_0 n_6 r_7 c_8) w = (
  idxK 1 t_0 r_7 fun (a23 : Addr) =>
  load1 .sl a23 w fun (ξ24 : Sl) =>
  idxK 1 ξ24 c_8 fun (a25 : Addr) =>
  load1 (.int .i64) a25 w fun (ξ26 : Int) =>
  idxK 1 t_0 r_7 fun (a27 : Addr) =>
  load1 .sl a27 w fun (ξ28 : Sl) =>
  idxK 1 ξ28 c_8 fun (a29 : Addr) =>
  storeC a29 (vI n_6) w fun ω30 =>
  k (emb5 t_0 ξ26 (w64 (r_7 - 1))) ω30) := A8_2_eq std t_0 n_6 r_7 c_8 w k Q
theorem B5_eq (pr : Prims) (t_0 : Sl) (n_6 : Int) (r_7 : Int) (w : World) (k : Env → World → Prop) (Q : Exit → Env → World → Prop) : B5 pr t_0 n_6 r_7 w k Q = (
  bif decide (r_7 ≥ 0) then (
  pr.idxK 1 t_0 r_7 fun (a15 : Addr) =>
  pr.load1 .sl a15 w fun (ξ16 : Sl) =>
  L8 pr t_0 n_6 r_7 (w64 ((ξ16.n : Int) - 1)) w (q18 pr k Q))
  else (
  Q (.exit 0) (x0 n_6) w)) := by kernel_rfl
theorem B5_s (t_0 : Sl) (n_6 : Int) (r_7 : Int) (w : World) (k : Env → World → Prop) (Q : Exit → Env → World → Prop) : B5 std t_0 n_6 r_7 w k Q = (
  bif decide (r_7 ≥ 0) then (
  idxK 1 t_0 r_7 fun (a15 : Addr) =>
  load1 .sl a15 w fun (ξ16 : Sl) =>
  L8 std t_0 n_6 r_7 (w64 ((ξ16.n : Int) - 1)) w (q18 std k Q))
  else (
  Q (.exit 0) (x0 n_6) w)) := B5_eq std t_0 n_6 r_7 w k Q
theorem L5_rule (t_0 : Sl) (n_6 : Int) (r_7 : Int) (w : World) (Q : Exit → Env → World → Prop) (I : Int → Int → World → Prop) (μ : Int → Int → World → Nat) (h0 : I n_6 r_7 w)
    (h : ∀ (n_6 : Int) (r_7 : Int) (w' : World), I n_6 r_7 w' → B5 std t_0 n_6 r_7 w' (fun e2 w2 => ∃ n_6_n r_7_n, e2 = emb5 t_0 n_6_n r_7_n ∧ I n_6_n r_7_n w2 ∧ μ n_6_n r_7_n w2 < μ n_6 r_7 w') Q) :
    L5 std t_0 n_6 r_7 w Q := by
  unfold L5
  refine LoopE.intro (σ := Int × Int) (step := S5 std Q) (fun s => emb5 t_0 s.1 s.2) (fun s w => I s.1 s.2 w) (fun s w => μ s.1 s.2 w) (n_6, r_7) rfl h0 ?_
  intro s w' hI
  have h1 := h s.1 s.2 w' hI
  unfold B5 at h1
  simp only [Prod.exists]
  exact h1
theorem A5_0_eq (pr : Prims) (n_6 : Int) (w : World) (R : Ending → World → Prop) : (q12 pr R) (.exit 0) (x0 n_6) w = (
  R (.returned (vI n_6)) w) := by kernel_rfl
theorem A5_0_s (n_6 : Int) (w : World) (R : Ending → World → Prop) : (q12 std R) (.exit 0) (x0 n_6) w = (
  R (.returned (vI n_6)) w) := A5_0_eq std n_6 w R
theorem E_eq (pr : Prims) (t_0 : Sl) (row_1 : Int) (w : World) (R : Ending → World → Prop) : E pr t_0 row_1 w R = (
  pr.idxK 1 t_0 row_1 fun (a0 : Addr) =>
  pr.load1 .sl a0 w fun (ξ1 : Sl) =>
  pr.idxK 1 t_0 row_1 fun (a2 : Addr) =>
  pr.load1 .sl a2 w fun (ξ3 : Sl) =>
  pr.idxK 1 ξ3 (w64 ((ξ1.n : Int) - 1)) fun (a4 : Addr) =>
  pr.load1 (.int .i64) a4 w fun (ξ5 : Int) =>
  pr.idxK 1 t_0 row_1 fun (a6 : Addr) =>
  pr.load1 .sl a6 w fun (ξ7 : Sl) =>
  pr.cutK 1 ξ7 none (some (w64 ((ξ1.n : Int) - 1))) fun (s8 : Sl) =>
  pr.idxK 1 t_0 row_1 fun (a9 : Addr) =>
  pr.storeC a9 (Sl.v s8) w fun ω10 =>
  L5 pr t_0 ξ5 (w64 (row_1 - 1)) ω10 (q12 pr R)) := by kernel_rfl
theorem E_s (t_0 : Sl) (row_1 : Int) (w : World) (R : Ending → World → Prop) : E std t_0 row_1 w R = (
  idxK 1 t_0 row_1 fun (a0 : Addr) =>
  load1 .sl a0 w fun (ξ1 : Sl) =>
  idxK 1 t_0 row_1 fun (a2 : Addr) =>
  load1 .sl a2 w fun (ξ3 : Sl) =>
  idxK 1 ξ3 (w64 ((ξ1.n : Int) - 1)) fun (a4 : Addr) =>
  load1 (.int .i64) a4 w fun (ξ5 : Int) =>
  idxK 1 t_0 row_1 fun (a6 : Addr) =>
  load1 .sl a6 w fun (ξ7 : Sl) =>
  cutK 1 ξ7 none (some (w64 ((ξ1.n : Int) - 1))) fun (s8 : Sl) =>
  idxK 1 t_0 row_1 fun (a9 : Addr) =>
  storeC a9 (Sl.v s8) w fun ω10 =>
  L5 std t_0 ξ5 (w64 (row_1 - 1)) ω10 (q12 std R)) := E_eq std t_0 row_1 w R
theorem drawsOk : drawsOk PP cfg okD (codeOf Try.f80) = true := by kernel_rfl
theorem calls (t_0 : Sl) (row_1 : Int) {w : World} {R : Ending → World → Prop} (h : E std t_0 row_1 w R) : Calls PP F.spec_l19Take #[Sl.v t_0, vI row_1] w R :=
  calls_of noCount mixed drawOk Try.func80 rfl (c := cfg) (args := [Sl.v t_0, vI row_1]) rfl (Nat.le_of_ble_eq_true (by kernel_rfl)) drawsOk h
end spec_l19Take

namespace spec_l19Row
@[reducible] def cfg : Cfg := ⟨19, [(2, [0, 1, 5])], [(1, [0, 1, 5]), (0, [])], [], [4], [], [91, 60, 17, 21, 24, 26, 65, 27, 82, 64, 85, 108, 78, 53, 51], [86, 52, 88]⟩
def q0 (pr : Prims) (R : Ending → World → Prop) : Exit → Env → World → Prop := fun ex e w => normQ ex (fun e w => contE pr cfg (sub (codeOf Try.f81) [1, 1]) (fun e w => wpC pr PP cfg (DD pr) (sub (codeOf Try.f81) [1, 1]) (retQ Try.f81.results.toList R) e w) e w) (retQ Try.f81.results.toList R) e w
def q1 (pr : Prims) (R : Ending → World → Prop) : Exit → Env → World → Prop := fun ex e w => blockQ ex 0 (q0 pr R) e w
def emb2 (t_0 : Sl) (n_1 : Int) (r_5 : Int) : Env := [(0, Sl.v t_0), (1, vI n_1), (5, vI r_5)]
def x0 : Env := []
def S2 (pr : Prims) (Q : Exit → Env → World → Prop) : (Env → World → Prop) → Env → World → Prop := fun k e w => wpC pr PP cfg (DD pr) (sub (codeOf Try.f81) [1, 0, 1, 0, 0]) (fun ex e w => normQ ex (fun e' w' => k (Env.restr e' (lookN cfg.loops (keyOf (sub (codeOf Try.f81) [1, 0, 1, 0, 0])))) w') Q e w) e w
def B2 (pr : Prims) (t_0 : Sl) (n_1 : Int) (r_5 : Int) (w : World) (k : Env → World → Prop) (Q : Exit → Env → World → Prop) : Prop :=
  S2 pr Q k (emb2 t_0 n_1 r_5) w
def L2 (pr : Prims) (t_0 : Sl) (n_1 : Int) (r_5 : Int) (w : World) (Q : Exit → Env → World → Prop) : Prop :=
  pr.loop (S2 pr Q) (emb2 t_0 n_1 r_5) w
def E (pr : Prims) (t_0 : Sl) (n_1 : Int) (w : World) (R : Ending → World → Prop) : Prop :=
  wpC pr PP cfg (DD pr) (codeOf Try.f81) (retQ Try.f81.results.toList R) (argE 0 [Sl.v t_0, vI n_1]) w
theorem B2_eq (pr : Prims) (t_0 : Sl) (n_1 : Int) (r_5 : Int) (w : World) (k : Env → World → Prop) (Q : Exit → Env → World → Prop) : B2 pr t_0 n_1 r_5 w k Q = (
  bif decide (r_5 < (t_0.n : Int)) then (
  pr.idxK 1 t_0 r_5 fun (a2 : Addr) =>
  pr.load1 .sl a2 w fun (ξ3 : Sl) =>
  pr.call1 .bool PP F.spec_l2Has #[Sl.v ξ3, vI n_1] w fun (ρ4 : Bool) ω5 =>
  bif ρ4 then (
  Q .ret [(4, vI r_5)] ω5)
  else (
  k (emb2 t_0 n_1 (w64 (r_5 + 1))) ω5))
  else (
  Q (.exit 0) (x0) w)) := by kernel_rfl
theorem B2_s (t_0 : Sl) (n_1 : Int) (r_5 : Int) (w : World) (k : Env → World → Prop) (Q : Exit → Env → World → Prop) : B2 std t_0 n_1 r_5 w k Q = (
  bif decide (r_5 < (t_0.n : Int)) then (
  idxK 1 t_0 r_5 fun (a2 : Addr) =>
  load1 .sl a2 w fun (ξ3 : Sl) =>
  call1 .bool PP F.spec_l2Has #[Sl.v ξ3, vI n_1] w fun (ρ4 : Bool) ω5 =>
  bif ρ4 then (
  Q .ret [(4, vI r_5)] ω5)
  else (
  k (emb2 t_0 n_1 (w64 (r_5 + 1))) ω5))
  else (
  Q (.exit 0) (x0) w)) := B2_eq std t_0 n_1 r_5 w k Q
theorem L2_rule (t_0 : Sl) (n_1 : Int) (r_5 : Int) (w : World) (Q : Exit → Env → World → Prop) (I : Int → World → Prop) (μ : Int → World → Nat) (h0 : I r_5 w)
    (h : ∀ (r_5 : Int) (w' : World), I r_5 w' → B2 std t_0 n_1 r_5 w' (fun e2 w2 => ∃ r_5_n, e2 = emb2 t_0 n_1 r_5_n ∧ I r_5_n w2 ∧ μ r_5_n w2 < μ r_5 w') Q) :
    L2 std t_0 n_1 r_5 w Q := by
  unfold L2
  refine LoopE.intro (σ := Int) (step := S2 std Q) (fun s => emb2 t_0 n_1 s) (fun s w => I s w) (fun s w => μ s w) r_5 rfl h0 ?_
  intro s w' hI
  have h1 := h s w' hI
  unfold B2 at h1
  exact h1
theorem A2_0_eq (pr : Prims) (w : World) (R : Ending → World → Prop) : (q1 pr R) (.exit 0) (x0) w = (
  R (.returned (vI 0)) w) := by kernel_rfl
theorem A2_0_s (w : World) (R : Ending → World → Prop) : (q1 std R) (.exit 0) (x0) w = (
  R (.returned (vI 0)) w) := A2_0_eq std w R
theorem R2_eq (pr : Prims) (v4 : Value) (w : World) (R : Ending → World → Prop) : (q1 pr R) .ret [(4, v4)] w = (
  R (.returned (v4)) w) := by kernel_rfl
theorem R2_s (v4 : Value) (w : World) (R : Ending → World → Prop) : (q1 std R) .ret [(4, v4)] w = (
  R (.returned (v4)) w) := R2_eq std v4 w R
theorem E_eq (pr : Prims) (t_0 : Sl) (n_1 : Int) (w : World) (R : Ending → World → Prop) : E pr t_0 n_1 w R = (
  L2 pr t_0 n_1 0 w (q1 pr R)) := by kernel_rfl
theorem E_s (t_0 : Sl) (n_1 : Int) (w : World) (R : Ending → World → Prop) : E std t_0 n_1 w R = (
  L2 std t_0 n_1 0 w (q1 std R)) := E_eq std t_0 n_1 w R
theorem drawsOk : drawsOk PP cfg okD (codeOf Try.f81) = true := by kernel_rfl
theorem calls (t_0 : Sl) (n_1 : Int) {w : World} {R : Ending → World → Prop} (h : E std t_0 n_1 w R) : Calls PP F.spec_l19Row #[Sl.v t_0, vI n_1] w R :=
  calls_of noCount mixed drawOk Try.func81 rfl (c := cfg) (args := [Sl.v t_0, vI n_1]) rfl (Nat.le_of_ble_eq_true (by kernel_rfl)) drawsOk h
end spec_l19Row

namespace laws_FnExactPermOfTableaux
@[reducible] def cfg : Cfg := ⟨119, [], [], [], [4], [], [91, 60, 17, 21, 24, 26, 65, 27, 82, 64, 85, 108, 78, 53, 51], [86, 52, 88]⟩
def E (pr : Prims) (aA_0 : Sl) (aB_1 : Sl) (w : World) (R : Ending → World → Prop) : Prop :=
  wpC pr PP cfg (DD pr) (codeOf Try.f12) (retQ Try.f12.results.toList R) (argE 0 [Sl.v aA_0, Sl.v aB_1]) w
theorem E_eq (pr : Prims) (aA_0 : Sl) (aB_1 : Sl) (w : World) (R : Ending → World → Prop) : E pr aA_0 aB_1 w R = (
  pr.call1 (.int .i64) PP F.laws_szIntSS #[Sl.v aA_0, vI 1048576] w fun (ρ0 : Int) ω1 =>
  bif decide (ρ0 < 0) then (
  R (.returned (.bool true)) ω1)
  else (
  pr.call1 (.int .i64) PP F.laws_szIntSS #[Sl.v aB_1, vI ρ0] ω1 fun (ρ2 : Int) ω3 =>
  bif decide (ρ2 < 0) then (
  R (.returned (.bool true)) ω3)
  else (
  pr.call1 .sl PP F.laws_toIntSS #[Sl.v aA_0] ω3 fun (ρ4 : Sl) ω5 =>
  pr.call1 .sl PP F.laws_toIntSS #[Sl.v aB_1] ω5 fun (ρ6 : Sl) ω7 =>
  pr.call2 .sl .bool PP F.spec_PermOfTableaux #[Sl.v ρ4, Sl.v ρ6] ω7 fun (ρ8 : Sl) (ρ9 : Bool) ω10 =>
  pr.call1 .sl PP F.laws_toIntSS #[Sl.v aA_0] ω10 fun (ρ11 : Sl) ω12 =>
  pr.call1 .sl PP F.laws_toIntSS #[Sl.v aB_1] ω12 fun (ρ13 : Sl) ω14 =>
  pr.call2 .sl .bool PP F.impl_PermOfTableaux #[Sl.v ρ11, Sl.v ρ13] ω14 fun (ρ15 : Sl) (ρ16 : Bool) ω17 =>
  pr.call1 .bool PP F.laws_eqIntS #[Sl.v ρ15, Sl.v ρ8] ω17 fun (ρ18 : Bool) ω19 =>
  bif !ρ18 then (
  R (.returned (.bool false)) ω19)
  else (
  bif !(ρ16 == ρ9) then (
  R (.returned (.bool false)) ω19)
  else (
  pr.call1 .sl PP F.laws_toIntSS #[Sl.v aA_0] ω19 fun (ρ20 : Sl) ω21 =>
  pr.call1 .bool PP F.laws_eqIntSS #[Sl.v ρ11, Sl.v ρ20] ω21 fun (ρ22 : Bool) ω23 =>
  bif !ρ22 then (
  R (.returned (.bool false)) ω23)
  else (
  pr.call1 .sl PP F.laws_toIntSS #[Sl.v aB_1] ω23 fun (ρ24 : Sl) ω25 =>
  pr.call1 .bool PP F.laws_eqIntSS #[Sl.v ρ13, Sl.v ρ24] ω25 fun (ρ26 : Bool) ω27 =>
  bif !ρ26 then (
  R (.returned (.bool false)) ω27)
  else (
  pr.call1 (.int .i64) PP F.laws_markIntSS #[Sl.v ρ11, vI 1] ω27 fun (ρ28 : Int) ω29 =>
  pr.call1 (.int .i64) PP F.laws_markIntSS #[Sl.v ρ13, vI ρ28] ω29 fun (ρ30 : Int) ω31 =>
  bif decide (ρ30 < 0) then (
  R (.returned (.bool false)) ω31)
  else (
  pr.call1 .bool PP F.laws_eqIntS #[Sl.v ρ15, Sl.v ρ8] ω31 fun (ρ32 : Bool) ω33 =>
  bif !ρ32 then (
  R (.returned (.bool false)) ω33)
  else (
  bif !(ρ16 == ρ9) then (
  R (.returned (.bool false)) ω33)
  else (
  pr.call1 (.int .i64) PP F.laws_markIntS #[Sl.v ρ15, vI 1] ω33 fun (ρ34 : Int) ω35 =>
  pr.call1 (.int .i64) PP F.laws_heldIntS #[Sl.v ρ15, vI 1] ω35 fun (ρ36 : Int) ω37 =>
  bif decide (ρ36 < 0) then (
  R (.returned (.bool false)) ω37)
  else (
  bif ρ36 != ρ34 then (
  R (.returned (.bool false)) ω37)
  else (
  pr.call1 .sl PP F.laws_toIntSS #[Sl.v aA_0] ω37 fun (ρ38 : Sl) ω39 =>
  pr.call1 .sl PP F.laws_toIntSS #[Sl.v aB_1] ω39 fun (ρ40 : Sl) ω41 =>
  pr.call2 .sl .bool PP F.impl_PermOfTableaux #[Sl.v ρ38, Sl.v ρ40] ω41 fun (ρ42 : Sl) (ρ43 : Bool) ω44 =>
  pr.call1 .bool PP F.laws_eqIntS #[Sl.v ρ42, Sl.v ρ8] ω44 fun (ρ45 : Bool) ω46 =>
  bif !ρ45 then (
  R (.returned (.bool false)) ω46)
  else (
  bif !(ρ43 == ρ9) then (
  R (.returned (.bool false)) ω46)
  else (
  pr.call1 (.int .i64) PP F.laws_heldIntS #[Sl.v ρ15, vI 1] ω46 fun (ρ47 : Int) ω48 =>
  bif decide (ρ47 < 0) then (
  R (.returned (.bool false)) ω48)
  else (
  bif ρ47 != ρ34 then (
  R (.returned (.bool false)) ω48)
  else (
  R (.returned (.bool true)) ω48)))))))))))))))) := by kernel_rfl
theorem E_s (aA_0 : Sl) (aB_1 : Sl) (w : World) (R : Ending → World → Prop) : E std aA_0 aB_1 w R = (
  call1 (.int .i64) PP F.laws_szIntSS #[Sl.v aA_0, vI 1048576] w fun (ρ0 : Int) ω1 =>
  bif decide (ρ0 < 0) then (
  R (.returned (.bool true)) ω1)
  else (
  call1 (.int .i64) PP F.laws_szIntSS #[Sl.v aB_1, vI ρ0] ω1 fun (ρ2 : Int) ω3 =>
  bif decide (ρ2 < 0) then (
  R (.returned (.bool true)) ω3)
  else (
  call1 .sl PP F.laws_toIntSS #[Sl.v aA_0] ω3 fun (ρ4 : Sl) ω5 =>
  call1 .sl PP F.laws_toIntSS #[Sl.v aB_1] ω5 fun (ρ6 : Sl) ω7 =>
  call2 .sl .bool PP F.spec_PermOfTableaux #[Sl.v ρ4, Sl.v ρ6] ω7 fun (ρ8 : Sl) (ρ9 : Bool) ω10 =>
  call1 .sl PP F.laws_toIntSS #[Sl.v aA_0] ω10 fun (ρ11 : Sl) ω12 =>
  call1 .sl PP F.laws_toIntSS #[Sl.v aB_1] ω12 fun (ρ13 : Sl) ω14 =>
  call2 .sl .bool PP F.impl_PermOfTableaux #[Sl.v ρ11, Sl.v ρ13] ω14 fun (ρ15 : Sl) (ρ16 : Bool) ω17 =>
  call1 .bool PP F.laws_eqIntS #[Sl.v ρ15, Sl.v ρ8] ω17 fun (ρ18 : Bool) ω19 =>
  bif !ρ18 then (
  R (.returned (.bool false)) ω19)
  else (
  bif !(ρ16 == ρ9) then (
  R (.returned (.bool false)) ω19)
  else (
  call1 .sl PP F.laws_toIntSS #[Sl.v aA_0] ω19 fun (ρ20 : Sl) ω21 =>
  call1 .bool PP F.laws_eqIntSS #[Sl.v ρ11, Sl.v ρ20] ω21 fun (ρ22 : Bool) ω23 =>
  bif !ρ22 then (
  R (.returned (.bool false)) ω23)
  else (
  call1 .sl PP F.laws_toIntSS #[Sl.v aB_1] ω23 fun (ρ24 : Sl) ω25 =>
  call1 .bool PP F.laws_eqIntSS #[Sl.v ρ13, Sl.v ρ24] ω25 fun (ρ26 : Bool) ω27 =>
  bif !ρ26 then (
  R (.returned (.bool false)) ω27)
  else (
  call1 (.int .i64) PP F.laws_markIntSS #[Sl.v ρ11, vI 1] ω27 fun (ρ28 : Int) ω29 =>
  call1 (.int .i64) PP F.laws_markIntSS #[Sl.v ρ13, vI ρ28] ω29 fun (ρ30 : Int) ω31 =>
  bif decide (ρ30 < 0) then (
  R (.returned (.bool false)) ω31)
  else (
  call1 .bool PP F.laws_eqIntS #[Sl.v ρ15, Sl.v ρ8] ω31 fun (ρ32 : Bool) ω33 =>
  bif !ρ32 then (
  R (.returned (.bool false)) ω33)
  else (
  bif !(ρ16 == ρ9) then (
  R (.returned (.bool false)) ω33)
  else (
  call1 (.int .i64) PP F.laws_markIntS #[Sl.v ρ15, vI 1] ω33 fun (ρ34 : Int) ω35 =>
  call1 (.int .i64) PP F.laws_heldIntS #[Sl.v ρ15, vI 1] ω35 fun (ρ36 : Int) ω37 =>
  bif decide (ρ36 < 0) then (
  R (.returned (.bool false)) ω37)
  else (
  bif ρ36 != ρ34 then (
  R (.returned (.bool false)) ω37)
  else (
  call1 .sl PP F.laws_toIntSS #[Sl.v aA_0] ω37 fun (ρ38 : Sl) ω39 =>
  call1 .sl PP F.laws_toIntSS #[Sl.v aB_1] ω39 fun (ρ40 : Sl) ω41 =>
  call2 .sl .bool PP F.impl_PermOfTableaux #[Sl.v ρ38, Sl.v ρ40] ω41 fun (ρ42 : Sl) (ρ43 : Bool) ω44 =>
  call1 .bool PP F.laws_eqIntS #[Sl.v ρ42, Sl.v ρ8] ω44 fun (ρ45 : Bool) ω46 =>
  bif !ρ45 then (
  R (.returned (.bool false)) ω46)
  else (
  bif !(ρ43 == ρ9) then (
  R (.returned (.bool false)) ω46)
  else (
  call1 (.int .i64) PP F.laws_heldIntS #[Sl.v ρ15, vI 1] ω46 fun (ρ47 : Int) ω48 =>
  bif decide (ρ47 < 0) then (
  R (.returned (.bool false)) ω48)
  else (
  bif ρ47 != ρ34 then (
  R (.returned (.bool false)) ω48)
  else (
  R (.returned (.bool true)) ω48)))))))))))))))) := E_eq std aA_0 aB_1 w R
theorem drawsOk : drawsOk PP cfg okD (codeOf Try.f12) = true := by kernel_rfl
theorem calls (aA_0 : Sl) (aB_1 : Sl) {w : World} {R : Ending → World → Prop} (h : E std aA_0 aB_1 w R) : Calls PP F.laws_FnExactPermOfTableaux #[Sl.v aA_0, Sl.v aB_1] w R :=
  calls_of noCount mixed drawOk Try.func12 rfl (c := cfg) (args := [Sl.v aA_0, Sl.v aB_1]) rfl (Nat.le_of_ble_eq_true (by kernel_rfl)) drawsOk h
end laws_FnExactPermOfTableaux

end Go.Proofs.Ytfainpmcdfckkaa
