/- What each function does, step by step, written by a program (Gen.lean); each equation is checked by the kernel. -/
import Derived.Test.YtjojajnkofgfpaaHead
namespace Go.Proofs.Ytjojajnkofgfpaa
open Go
set_option linter.unusedVariables false
set_option maxRecDepth 100000
namespace impl_rest
@[reducible] def cfg : Cfg := ⟨83, [(5, [0, 1, 5, 6, 7, 23, 24, 25]), (10, [0, 1, 5, 6, 7, 34, 35, 36]), (18, [1, 5, 6, 7, 12, 53, 54, 55])], [(1, [0, 1, 5, 6, 7, 23, 24, 25]), (0, [0, 1, 5, 6, 7]), (3, [0, 1, 5, 6, 7, 34, 35, 36]), (2, [0, 1, 5, 6, 7]), (5, [1, 5, 6, 7, 12, 53, 54, 55]), (4, [5])], [], [4], [], [30, 27, 11, 13, 20, 26, 37, 16, 52, 109, 83, 111, 72, 70, 36], [49, 46, 97, 75, 33, 104]⟩
def q6 (pr : Prims) (R : Ending → World → Prop) : Exit → Env → World → Prop := fun ex e w => normQ ex (fun e w => contE pr cfg (sub (codeOf Try.f32) [1, 1, 1, 1, 1]) (fun e w => wpC pr PP cfg (DD pr) (sub (codeOf Try.f32) [1, 1, 1, 1, 1]) (retQ Try.f32.results.toList R) e w) e w) (retQ Try.f32.results.toList R) e w
def q9 (pr : Prims) (R : Ending → World → Prop) : Exit → Env → World → Prop := fun ex e w => blockQ ex 0 (q6 pr R) e w
def q14 (pr : Prims) (R : Ending → World → Prop) : Exit → Env → World → Prop := fun ex e w => normQ ex (fun e w => contE pr cfg (sub (codeOf Try.f32) [1, 1, 1, 1, 1, 1]) (fun e w => wpC pr PP cfg (DD pr) (sub (codeOf Try.f32) [1, 1, 1, 1, 1, 1]) (retQ Try.f32.results.toList R) e w) e w) (retQ Try.f32.results.toList R) e w
def q15 (pr : Prims) (R : Ending → World → Prop) : Exit → Env → World → Prop := fun ex e w => blockQ ex 2 (q14 pr R) e w
def q25 (pr : Prims) (R : Ending → World → Prop) : Exit → Env → World → Prop := fun ex e w => normQ ex (fun e w => contE pr cfg (sub (codeOf Try.f32) [1, 1, 1, 1, 1, 1, 1, 1, 1]) (fun e w => wpC pr PP cfg (DD pr) (sub (codeOf Try.f32) [1, 1, 1, 1, 1, 1, 1, 1, 1]) (retQ Try.f32.results.toList R) e w) e w) (retQ Try.f32.results.toList R) e w
def q26 (pr : Prims) (R : Ending → World → Prop) : Exit → Env → World → Prop := fun ex e w => blockQ ex 4 (q25 pr R) e w
def emb5 (p_0 : Sl) (pick_1 : Value) (out_5 : Sl) (left_6 : Sl) (isLow_7 : Sl) (t23 : Sl) (t24 : Int) (t25 : Int) : Env := [(0, Sl.v p_0), (1, pick_1), (5, Sl.v out_5), (6, Sl.v left_6), (7, Sl.v isLow_7), (23, Sl.v t23), (24, vI t24), (25, vI t25)]
def x0 (p_0 : Sl) (pick_1 : Value) (out_5 : Sl) (left_6 : Sl) (isLow_7 : Sl) : Env := [(0, Sl.v p_0), (1, pick_1), (5, Sl.v out_5), (6, Sl.v left_6), (7, Sl.v isLow_7)]
def emb10 (p_0 : Sl) (pick_1 : Value) (out_5 : Sl) (left_6 : Sl) (isLow_7 : Sl) (t34 : Sl) (t35 : Int) (t36 : Int) : Env := [(0, Sl.v p_0), (1, pick_1), (5, Sl.v out_5), (6, Sl.v left_6), (7, Sl.v isLow_7), (34, Sl.v t34), (35, vI t35), (36, vI t36)]
def x2 (p_0 : Sl) (pick_1 : Value) (out_5 : Sl) (left_6 : Sl) (isLow_7 : Sl) : Env := [(0, Sl.v p_0), (1, pick_1), (5, Sl.v out_5), (6, Sl.v left_6), (7, Sl.v isLow_7)]
def emb18 (pick_1 : Value) (out_5 : Sl) (left_6 : Sl) (isLow_7 : Sl) (low_12 : Int) (t53 : Sl) (t54 : Int) (t55 : Int) : Env := [(1, pick_1), (5, Sl.v out_5), (6, Sl.v left_6), (7, Sl.v isLow_7), (12, vI low_12), (53, Sl.v t53), (54, vI t54), (55, vI t55)]
def x4 (out_5 : Sl) : Env := [(5, Sl.v out_5)]
def S5 (pr : Prims) (Q : Exit → Env → World → Prop) : (Env → World → Prop) → Env → World → Prop := fun k e w => wpC pr PP cfg (DD pr) (sub (codeOf Try.f32) [1, 1, 1, 1, 0, 1, 0, 0]) (fun ex e w => normQ ex (fun e' w' => k (Env.restr e' (lookN cfg.loops (keyOf (sub (codeOf Try.f32) [1, 1, 1, 1, 0, 1, 0, 0])))) w') Q e w) e w
def S10 (pr : Prims) (Q : Exit → Env → World → Prop) : (Env → World → Prop) → Env → World → Prop := fun k e w => wpC pr PP cfg (DD pr) (sub (codeOf Try.f32) [1, 1, 1, 1, 1, 0, 1, 0, 0]) (fun ex e w => normQ ex (fun e' w' => k (Env.restr e' (lookN cfg.loops (keyOf (sub (codeOf Try.f32) [1, 1, 1, 1, 1, 0, 1, 0, 0])))) w') Q e w) e w
def S18 (pr : Prims) (Q : Exit → Env → World → Prop) : (Env → World → Prop) → Env → World → Prop := fun k e w => wpC pr PP cfg (DD pr) (sub (codeOf Try.f32) [1, 1, 1, 1, 1, 1, 1, 1, 0, 1, 0, 0]) (fun ex e w => normQ ex (fun e' w' => k (Env.restr e' (lookN cfg.loops (keyOf (sub (codeOf Try.f32) [1, 1, 1, 1, 1, 1, 1, 1, 0, 1, 0, 0])))) w') Q e w) e w
def B5 (pr : Prims) (p_0 : Sl) (pick_1 : Value) (out_5 : Sl) (left_6 : Sl) (isLow_7 : Sl) (t23 : Sl) (t24 : Int) (t25 : Int) (w : World) (k : Env → World → Prop) (Q : Exit → Env → World → Prop) : Prop :=
  S5 pr Q k (emb5 p_0 pick_1 out_5 left_6 isLow_7 t23 t24 t25) w
def L5 (pr : Prims) (p_0 : Sl) (pick_1 : Value) (out_5 : Sl) (left_6 : Sl) (isLow_7 : Sl) (t23 : Sl) (t24 : Int) (t25 : Int) (w : World) (Q : Exit → Env → World → Prop) : Prop :=
  pr.loop (S5 pr Q) (emb5 p_0 pick_1 out_5 left_6 isLow_7 t23 t24 t25) w
def B10 (pr : Prims) (p_0 : Sl) (pick_1 : Value) (out_5 : Sl) (left_6 : Sl) (isLow_7 : Sl) (t34 : Sl) (t35 : Int) (t36 : Int) (w : World) (k : Env → World → Prop) (Q : Exit → Env → World → Prop) : Prop :=
  S10 pr Q k (emb10 p_0 pick_1 out_5 left_6 isLow_7 t34 t35 t36) w
def L10 (pr : Prims) (p_0 : Sl) (pick_1 : Value) (out_5 : Sl) (left_6 : Sl) (isLow_7 : Sl) (t34 : Sl) (t35 : Int) (t36 : Int) (w : World) (Q : Exit → Env → World → Prop) : Prop :=
  pr.loop (S10 pr Q) (emb10 p_0 pick_1 out_5 left_6 isLow_7 t34 t35 t36) w
def B18 (pr : Prims) (pick_1 : Value) (out_5 : Sl) (left_6 : Sl) (isLow_7 : Sl) (low_12 : Int) (t53 : Sl) (t54 : Int) (t55 : Int) (w : World) (k : Env → World → Prop) (Q : Exit → Env → World → Prop) : Prop :=
  S18 pr Q k (emb18 pick_1 out_5 left_6 isLow_7 low_12 t53 t54 t55) w
def L18 (pr : Prims) (pick_1 : Value) (out_5 : Sl) (left_6 : Sl) (isLow_7 : Sl) (low_12 : Int) (t53 : Sl) (t54 : Int) (t55 : Int) (w : World) (Q : Exit → Env → World → Prop) : Prop :=
  pr.loop (S18 pr Q) (emb18 pick_1 out_5 left_6 isLow_7 low_12 t53 t54 t55) w
def E (pr : Prims) (p_0 : Sl) (pick_1 : Value) (w : World) (R : Ending → World → Prop) : Prop :=
  wpC pr PP cfg (DD pr) (codeOf Try.f32) (retQ Try.f32.results.toList R) (argE 0 [Sl.v p_0, pick_1]) w
theorem B5_eq (pr : Prims) (p_0 : Sl) (pick_1 : Value) (out_5 : Sl) (left_6 : Sl) (isLow_7 : Sl) (t23 : Sl) (t24 : Int) (t25 : Int) (w : World) (k : Env → World → Prop) (Q : Exit → Env → World → Prop) : B5 pr p_0 pick_1 out_5 left_6 isLow_7 t23 t24 t25 w k Q = (
  bif decide (t25 < t24) then (
  pr.idxK 1 t23 t25 fun (a10 : Addr) =>
  pr.load1 (.int .i64) a10 w fun (ξ11 : Int) =>
  pr.idxK 1 isLow_7 (w64 (ξ11 - 1)) fun (a12 : Addr) =>
  pr.storeC a12 (.bool true) w fun ω13 =>
  k (emb5 p_0 pick_1 out_5 left_6 isLow_7 t23 t24 (w64 (t25 + 1))) ω13)
  else (
  Q (.exit 0) (x0 p_0 pick_1 out_5 left_6 isLow_7) w)) := by kernel_rfl
theorem B5_s (p_0 : Sl) (pick_1 : Value) (out_5 : Sl) (left_6 : Sl) (isLow_7 : Sl) (t23 : Sl) (t24 : Int) (t25 : Int) (w : World) (k : Env → World → Prop) (Q : Exit → Env → World → Prop) : B5 std p_0 pick_1 out_5 left_6 isLow_7 t23 t24 t25 w k Q = (
  bif decide (t25 < t24) then (
  idxK 1 t23 t25 fun (a10 : Addr) =>
  load1 (.int .i64) a10 w fun (ξ11 : Int) =>
  idxK 1 isLow_7 (w64 (ξ11 - 1)) fun (a12 : Addr) =>
  storeC a12 (.bool true) w fun ω13 =>
  k (emb5 p_0 pick_1 out_5 left_6 isLow_7 t23 t24 (w64 (t25 + 1))) ω13)
  else (
  Q (.exit 0) (x0 p_0 pick_1 out_5 left_6 isLow_7) w)) := B5_eq std p_0 pick_1 out_5 left_6 isLow_7 t23 t24 t25 w k Q
theorem L5_rule (p_0 : Sl) (pick_1 : Value) (out_5 : Sl) (left_6 : Sl) (isLow_7 : Sl) (t23 : Sl) (t24 : Int) (t25 : Int) (w : World) (Q : Exit → Env → World → Prop) (I : Int → World → Prop) (μ : Int → World → Nat) (h0 : I t25 w)
    (h : ∀ (t25 : Int) (w' : World), I t25 w' → B5 std p_0 pick_1 out_5 left_6 isLow_7 t23 t24 t25 w' (fun e2 w2 => ∃ t25_n, e2 = emb5 p_0 pick_1 out_5 left_6 isLow_7 t23 t24 t25_n ∧ I t25_n w2 ∧ μ t25_n w2 < μ t25 w') Q) :
    L5 std p_0 pick_1 out_5 left_6 isLow_7 t23 t24 t25 w Q := by
  unfold L5
  refine LoopE.intro (σ := Int) (step := S5 std Q) (fun s => emb5 p_0 pick_1 out_5 left_6 isLow_7 t23 t24 s) (fun s w => I s w) (fun s w => μ s w) t25 rfl h0 ?_
  intro s w' hI
  have h1 := h s w' hI
  unfold B5 at h1
  exact h1
theorem B10_eq (pr : Prims) (p_0 : Sl) (pick_1 : Value) (out_5 : Sl) (left_6 : Sl) (isLow_7 : Sl) (t34 : Sl) (t35 : Int) (t36 : Int) (w : World) (k : Env → World → Prop) (Q : Exit → Env → World → Prop) : B10 pr p_0 pick_1 out_5 left_6 isLow_7 t34 t35 t36 w k Q = (
  bif decide (t36 < t35) then (
  pr.idxK 1 t34 t36 fun (a16 : Addr) =>
  pr.load1 (.int .i64) a16 w fun (ξ17 : Int) =>
  pr.idxK 1 isLow_7 t36 fun (a18 : Addr) =>
  pr.load1 .bool a18 w fun (ξ19 : Bool) =>
  bif !ξ19 then (
  pr.sem1 .sl PP (Instr.buildSlice T_Sint 1 #[(0, vI ξ17)]) w fun (ρ20 : Sl) ω21 =>
  pr.sem1 .sl PP (Builtin.append_ #[T_Sint, T_Sint] T_Sint #[Sl.v left_6, Sl.v ρ20]) ω21 fun (ρ22 : Sl) ω23 =>
  k (emb10 p_0 pick_1 out_5 ρ22 isLow_7 t34 t35 (w64 (t36 + 1))) ω23)
  else (
  k (emb10 p_0 pick_1 out_5 left_6 isLow_7 t34 t35 (w64 (t36 + 1))) w))
  else (
  Q (.exit 2) (x2 p_0 pick_1 out_5 left_6 isLow_7) w)) := by kernel_rfl
theorem B10_s (p_0 : Sl) (pick_1 : Value) (out_5 : Sl) (left_6 : Sl) (isLow_7 : Sl) (t34 : Sl) (t35 : Int) (t36 : Int) (w : World) (k : Env → World → Prop) (Q : Exit → Env → World → Prop) : B10 std p_0 pick_1 out_5 left_6 isLow_7 t34 t35 t36 w k Q = (
  bif decide (t36 < t35) then (
  idxK 1 t34 t36 fun (a16 : Addr) =>
  load1 (.int .i64) a16 w fun (ξ17 : Int) =>
  idxK 1 isLow_7 t36 fun (a18 : Addr) =>
  load1 .bool a18 w fun (ξ19 : Bool) =>
  bif !ξ19 then (
  sem1 .sl PP (Instr.buildSlice T_Sint 1 #[(0, vI ξ17)]) w fun (ρ20 : Sl) ω21 =>
  sem1 .sl PP (Builtin.append_ #[T_Sint, T_Sint] T_Sint #[Sl.v left_6, Sl.v ρ20]) ω21 fun (ρ22 : Sl) ω23 =>
  k (emb10 p_0 pick_1 out_5 ρ22 isLow_7 t34 t35 (w64 (t36 + 1))) ω23)
  else (
  k (emb10 p_0 pick_1 out_5 left_6 isLow_7 t34 t35 (w64 (t36 + 1))) w))
  else (
  Q (.exit 2) (x2 p_0 pick_1 out_5 left_6 isLow_7) w)) := B10_eq std p_0 pick_1 out_5 left_6 isLow_7 t34 t35 t36 w k Q
theorem L10_rule (p_0 : Sl) (pick_1 : Value) (out_5 : Sl) (left_6 : Sl) (isLow_7 : Sl) (t34 : Sl) (t35 : Int) (t36 : Int) (w : World) (Q : Exit → Env → World → Prop) (I : Sl → Int → World → Prop) (μ : Sl → Int → World → Nat) (h0 : I left_6 t36 w)
    (h : ∀ (left_6 : Sl) (t36 : Int) (w' : World), I left_6 t36 w' → B10 std p_0 pick_1 out_5 left_6 isLow_7 t34 t35 t36 w' (fun e2 w2 => ∃ left_6_n t36_n, e2 = emb10 p_0 pick_1 out_5 left_6_n isLow_7 t34 t35 t36_n ∧ I left_6_n t36_n w2 ∧ μ left_6_n t36_n w2 < μ left_6 t36 w') Q) :
    L10 std p_0 pick_1 out_5 left_6 isLow_7 t34 t35 t36 w Q := by
  unfold L10
  refine LoopE.intro (σ := Sl × Int) (step := S10 std Q) (fun s => emb10 p_0 pick_1 out_5 s.1 isLow_7 t34 t35 s.2) (fun s w => I s.1 s.2 w) (fun s w => μ s.1 s.2 w) (left_6, t36) rfl h0 ?_
  intro s w' hI
  have h1 := h s.1 s.2 w' hI
  unfold B10 at h1
  simp only [Prod.exists]
  exact h1
theorem B18_eq (pr : Prims) (pick_1 : Value) (out_5 : Sl) (left_6 : Sl) (isLow_7 : Sl) (low_12 : Int) (t53 : Sl) (t54 : Int) (t55 : Int) (w : World) (k : Env → World → Prop) (Q : Exit → Env → World → Prop) : B18 pr pick_1 out_5 left_6 isLow_7 low_12 t53 t54 t55 w k Q = (
  bif decide (t55 < t54) then (
  pr.idxK 1 t53 t55 fun (a27 : Addr) =>
  pr.load1 (.int .i64) a27 w fun (ξ28 : Int) =>
  pr.idxK 1 isLow_7 t55 fun (a29 : Addr) =>
  pr.load1 .bool a29 w fun (ξ30 : Bool) =>
  bif ξ30 then (
  k (emb18 pick_1 out_5 left_6 isLow_7 ξ28 t53 t54 (w64 (t55 + 1))) w)
  else (
  pr.callV1 (.int .i64) PP (pick_1) [Sl.v left_6, vI low_12] w fun (ρ31 : Int) ω32 =>
  pr.idxK 1 left_6 ρ31 fun (a33 : Addr) =>
  pr.load1 (.int .i64) a33 ω32 fun (ξ34 : Int) =>
  pr.idxK 1 out_5 t55 fun (a35 : Addr) =>
  pr.storeC a35 (vI ξ34) ω32 fun ω36 =>
  pr.call1 .sl PP F.slices_Delete___int_int_ #[Sl.v left_6, vI ρ31, vI (w64 (ρ31 + 1))] ω36 fun (ρ37 : Sl) ω38 =>
  k (emb18 pick_1 out_5 ρ37 isLow_7 low_12 t53 t54 (w64 (t55 + 1))) ω38))
  else (
  Q (.exit 4) (x4 out_5) w)) := by kernel_rfl
theorem B18_s (pick_1 : Value) (out_5 : Sl) (left_6 : Sl) (isLow_7 : Sl) (low_12 : Int) (t53 : Sl) (t54 : Int) (t55 : Int) (w : World) (k : Env → World → Prop) (Q : Exit → Env → World → Prop) : B18 std pick_1 out_5 left_6 isLow_7 low_12 t53 t54 t55 w k Q = (
  bif decide (t55 < t54) then (
  idxK 1 t53 t55 fun (a27 : Addr) =>
  load1 (.int .i64) a27 w fun (ξ28 : Int) =>
  idxK 1 isLow_7 t55 fun (a29 : Addr) =>
  load1 .bool a29 w fun (ξ30 : Bool) =>
  bif ξ30 then (
  k (emb18 pick_1 out_5 left_6 isLow_7 ξ28 t53 t54 (w64 (t55 + 1))) w)
  else (
  callV1 (.int .i64) PP (pick_1) [Sl.v left_6, vI low_12] w fun (ρ31 : Int) ω32 =>
  idxK 1 left_6 ρ31 fun (a33 : Addr) =>
  load1 (.int .i64) a33 ω32 fun (ξ34 : Int) =>
  idxK 1 out_5 t55 fun (a35 : Addr) =>
  storeC a35 (vI ξ34) ω32 fun ω36 =>
  call1 .sl PP F.slices_Delete___int_int_ #[Sl.v left_6, vI ρ31, vI (w64 (ρ31 + 1))] ω36 fun (ρ37 : Sl) ω38 =>
  k (emb18 pick_1 out_5 ρ37 isLow_7 low_12 t53 t54 (w64 (t55 + 1))) ω38))
  else (
  Q (.exit 4) (x4 out_5) w)) := B18_eq std pick_1 out_5 left_6 isLow_7 low_12 t53 t54 t55 w k Q
theorem L18_rule (pick_1 : Value) (out_5 : Sl) (left_6 : Sl) (isLow_7 : Sl) (low_12 : Int) (t53 : Sl) (t54 : Int) (t55 : Int) (w : World) (Q : Exit → Env → World → Prop) (I : Sl → Int → Int → World → Prop) (μ : Sl → Int → Int → World → Nat) (h0 : I left_6 low_12 t55 w)
    (h : ∀ (left_6 : Sl) (low_12 : Int) (t55 : Int) (w' : World), I left_6 low_12 t55 w' → B18 std pick_1 out_5 left_6 isLow_7 low_12 t53 t54 t55 w' (fun e2 w2 => ∃ left_6_n low_12_n t55_n, e2 = emb18 pick_1 out_5 left_6_n isLow_7 low_12_n t53 t54 t55_n ∧ I left_6_n low_12_n t55_n w2 ∧ μ left_6_n low_12_n t55_n w2 < μ left_6 low_12 t55 w') Q) :
    L18 std pick_1 out_5 left_6 isLow_7 low_12 t53 t54 t55 w Q := by
  unfold L18
  refine LoopE.intro (σ := Sl × Int × Int) (step := S18 std Q) (fun s => emb18 pick_1 out_5 s.1 isLow_7 s.2.1 t53 t54 s.2.2) (fun s w => I s.1 s.2.1 s.2.2 w) (fun s w => μ s.1 s.2.1 s.2.2 w) (left_6, low_12, t55) rfl h0 ?_
  intro s w' hI
  have h1 := h s.1 s.2.1 s.2.2 w' hI
  unfold B18 at h1
  simp only [Prod.exists]
  exact h1
theorem A18_4_eq (pr : Prims) (out_5 : Sl) (w : World) (R : Ending → World → Prop) : (q26 pr R) (.exit 4) (x4 out_5) w = (
  R (.returned (Sl.v out_5)) w) := by kernel_rfl
theorem A18_4_s (out_5 : Sl) (w : World) (R : Ending → World → Prop) : (q26 std R) (.exit 4) (x4 out_5) w = (
  R (.returned (Sl.v out_5)) w) := A18_4_eq std out_5 w R
theorem A10_2_eq (pr : Prims) (p_0 : Sl) (pick_1 : Value) (out_5 : Sl) (left_6 : Sl) (isLow_7 : Sl) (w : World) (R : Ending → World → Prop) : (q15 pr R) (.exit 2) (x2 p_0 pick_1 out_5 left_6 isLow_7) w = (
  pr.call0  PP F.slices_Sort___int_int_ #[Sl.v left_6] w fun ω24 =>
  L18 pr pick_1 out_5 left_6 isLow_7 0 p_0 (p_0.n : Int) 0 ω24 (q26 pr R)) := by kernel_rfl
theorem A10_2_s (p_0 : Sl) (pick_1 : Value) (out_5 : Sl) (left_6 : Sl) (isLow_7 : Sl) (w : World) (R : Ending → World → Prop) : (q15 std R) (.exit 2) (x2 p_0 pick_1 out_5 left_6 isLow_7) w = (
  call0  PP F.slices_Sort___int_int_ #[Sl.v left_6] w fun ω24 =>
  L18 std pick_1 out_5 left_6 isLow_7 0 p_0 (p_0.n : Int) 0 ω24 (q26 std R)) := A10_2_eq std p_0 pick_1 out_5 left_6 isLow_7 w R
theorem A5_0_eq (pr : Prims) (p_0 : Sl) (pick_1 : Value) (out_5 : Sl) (left_6 : Sl) (isLow_7 : Sl) (w : World) (R : Ending → World → Prop) : (q9 pr R) (.exit 0) (x0 p_0 pick_1 out_5 left_6 isLow_7) w = (
  L10 pr p_0 pick_1 out_5 left_6 isLow_7 p_0 (p_0.n : Int) 0 w (q15 pr R)) := by kernel_rfl
theorem A5_0_s (p_0 : Sl) (pick_1 : Value) (out_5 : Sl) (left_6 : Sl) (isLow_7 : Sl) (w : World) (R : Ending → World → Prop) : (q9 std R) (.exit 0) (x0 p_0 pick_1 out_5 left_6 isLow_7) w = (
  L10 std p_0 pick_1 out_5 left_6 isLow_7 p_0 (p_0.n : Int) 0 w (q15 std R)) := A5_0_eq std p_0 pick_1 out_5 left_6 isLow_7 w R
theorem E_eq (pr : Prims) (p_0 : Sl) (pick_1 : Value) (w : World) (R : Ending → World → Prop) : E pr p_0 pick_1 w R = (
  pr.call1 .sl PP F.slices_Clone___int_int_ #[Sl.v p_0] w fun (ρ0 : Sl) ω1 =>
  pr.sem1 .sl PP (Instr.buildSlice T_Sint 0 #[]) ω1 fun (ρ2 : Sl) ω3 =>
  pr.sem1 .sl PP (Instr.makeSlice T_Sbool (vI (p_0.n : Int)) (vI (p_0.n : Int))) ω3 fun (ρ4 : Sl) ω5 =>
  pr.call1 .sl PP F.impl_LowsOf #[Sl.v p_0] ω5 fun (ρ7 : Sl) ω8 =>
  L5 pr p_0 pick_1 ρ0 ρ2 ρ4 ρ7 (ρ7.n : Int) 0 ω8 (q9 pr R)) := by kernel_rfl
theorem E_s (p_0 : Sl) (pick_1 : Value) (w : World) (R : Ending → World → Prop) : E std p_0 pick_1 w R = (
  call1 .sl PP F.slices_Clone___int_int_ #[Sl.v p_0] w fun (ρ0 : Sl) ω1 =>
  sem1 .sl PP (Instr.buildSlice T_Sint 0 #[]) ω1 fun (ρ2 : Sl) ω3 =>
  sem1 .sl PP (Instr.makeSlice T_Sbool (vI (p_0.n : Int)) (vI (p_0.n : Int))) ω3 fun (ρ4 : Sl) ω5 =>
  call1 .sl PP F.impl_LowsOf #[Sl.v p_0] ω5 fun (ρ7 : Sl) ω8 =>
  L5 std p_0 pick_1 ρ0 ρ2 ρ4 ρ7 (ρ7.n : Int) 0 ω8 (q9 std R)) := E_eq std p_0 pick_1 w R
theorem drawsOk : drawsOk PP cfg okD (codeOf Try.f32) = true := by kernel_rfl
theorem calls (p_0 : Sl) (pick_1 : Value) {w : World} {R : Ending → World → Prop} (h : E std p_0 pick_1 w R) : Calls PP F.impl_rest #[Sl.v p_0, pick_1] w R :=
  calls_of noCount mixed drawOk Try.func32 rfl (c := cfg) (args := [Sl.v p_0, pick_1]) rfl (Nat.le_of_ble_eq_true (by kernel_rfl)) drawsOk h
end impl_rest

namespace impl_DescendingRest
@[reducible] def cfg : Cfg := ⟨9, [], [], [], [2, 3], [], [30, 27, 11, 13, 20, 26, 37, 16, 52, 109, 83, 111, 72, 70, 36], [49, 46, 97, 75, 33, 104]⟩
def E (pr : Prims) (p_0 : Sl) (w : World) (R : Ending → World → Prop) : Prop :=
  wpC pr PP cfg (DD pr) (codeOf Try.f10) (retQ Try.f10.results.toList R) (argE 0 [Sl.v p_0]) w
theorem E_eq (pr : Prims) (p_0 : Sl) (w : World) (R : Ending → World → Prop) : E pr p_0 w R = (
  pr.call1 .bool PP F.impl_IsPerm #[Sl.v p_0] w fun (ρ0 : Bool) ω1 =>
  bif !ρ0 then (
  R (.returned (.tuple #[Sl.v Sl.nil, .bool false])) ω1)
  else (
  pr.call1 .sl PP F.impl_rest #[Sl.v p_0, .func (.func F.impl_DescendingRestL1) #[] #[]] ω1 fun (ρ2 : Sl) ω3 =>
  R (.returned (.tuple #[Sl.v ρ2, .bool true])) ω3)) := by kernel_rfl
theorem E_s (p_0 : Sl) (w : World) (R : Ending → World → Prop) : E std p_0 w R = (
  call1 .bool PP F.impl_IsPerm #[Sl.v p_0] w fun (ρ0 : Bool) ω1 =>
  bif !ρ0 then (
  R (.returned (.tuple #[Sl.v Sl.nil, .bool false])) ω1)
  else (
  call1 .sl PP F.impl_rest #[Sl.v p_0, .func (.func F.impl_DescendingRestL1) #[] #[]] ω1 fun (ρ2 : Sl) ω3 =>
  R (.returned (.tuple #[Sl.v ρ2, .bool true])) ω3)) := E_eq std p_0 w R
theorem drawsOk : drawsOk PP cfg okD (codeOf Try.f10) = true := by kernel_rfl
theorem calls (p_0 : Sl) {w : World} {R : Ending → World → Prop} (h : E std p_0 w R) : Calls PP F.impl_DescendingRest #[Sl.v p_0] w R :=
  calls_of noCount mixed drawOk Try.func10 rfl (c := cfg) (args := [Sl.v p_0]) rfl (Nat.le_of_ble_eq_true (by kernel_rfl)) drawsOk h
end impl_DescendingRest

namespace impl_DescendingRestL1
@[reducible] def cfg : Cfg := ⟨8, [], [], [], [4], [], [30, 27, 11, 13, 20, 26, 37, 16, 52, 109, 83, 111, 72, 70, 36], [49, 46, 97, 75, 33, 104]⟩
def E (pr : Prims) (left_0 : Sl) (low_1 : Int) (w : World) (R : Ending → World → Prop) : Prop :=
  wpC pr PP cfg (DD pr) (codeOf Try.f33) (retQ Try.f33.results.toList R) (argE 0 [Sl.v left_0, vI low_1]) w
theorem E_eq (pr : Prims) (left_0 : Sl) (low_1 : Int) (w : World) (R : Ending → World → Prop) : E pr left_0 low_1 w R = (
  R (.returned (vI (w64 ((left_0.n : Int) - 1)))) w) := by kernel_rfl
theorem E_s (left_0 : Sl) (low_1 : Int) (w : World) (R : Ending → World → Prop) : E std left_0 low_1 w R = (
  R (.returned (vI (w64 ((left_0.n : Int) - 1)))) w) := E_eq std left_0 low_1 w R
theorem drawsOk : drawsOk PP cfg okD (codeOf Try.f33) = true := by kernel_rfl
theorem calls (left_0 : Sl) (low_1 : Int) {w : World} {R : Ending → World → Prop} (h : E std left_0 low_1 w R) : Calls PP F.impl_DescendingRestL1 #[Sl.v left_0, vI low_1] w R :=
  calls_of noCount mixed drawOk Try.func33 rfl (c := cfg) (args := [Sl.v left_0, vI low_1]) rfl (Nat.le_of_ble_eq_true (by kernel_rfl)) drawsOk h
end impl_DescendingRestL1

namespace impl_NearestRest
@[reducible] def cfg : Cfg := ⟨9, [], [], [], [2, 3], [], [30, 27, 11, 13, 20, 26, 37, 16, 52, 109, 83, 111, 72, 70, 36], [49, 46, 97, 75, 33, 104]⟩
def E (pr : Prims) (p_0 : Sl) (w : World) (R : Ending → World → Prop) : Prop :=
  wpC pr PP cfg (DD pr) (codeOf Try.f15) (retQ Try.f15.results.toList R) (argE 0 [Sl.v p_0]) w
theorem E_eq (pr : Prims) (p_0 : Sl) (w : World) (R : Ending → World → Prop) : E pr p_0 w R = (
  pr.call1 .bool PP F.impl_IsPerm #[Sl.v p_0] w fun (ρ0 : Bool) ω1 =>
  bif !ρ0 then (
  R (.returned (.tuple #[Sl.v Sl.nil, .bool false])) ω1)
  else (
  pr.call1 .sl PP F.impl_rest #[Sl.v p_0, .func (.func F.impl_NearestRestL1) #[] #[]] ω1 fun (ρ2 : Sl) ω3 =>
  R (.returned (.tuple #[Sl.v ρ2, .bool true])) ω3)) := by kernel_rfl
theorem E_s (p_0 : Sl) (w : World) (R : Ending → World → Prop) : E std p_0 w R = (
  call1 .bool PP F.impl_IsPerm #[Sl.v p_0] w fun (ρ0 : Bool) ω1 =>
  bif !ρ0 then (
  R (.returned (.tuple #[Sl.v Sl.nil, .bool false])) ω1)
  else (
  call1 .sl PP F.impl_rest #[Sl.v p_0, .func (.func F.impl_NearestRestL1) #[] #[]] ω1 fun (ρ2 : Sl) ω3 =>
  R (.returned (.tuple #[Sl.v ρ2, .bool true])) ω3)) := E_eq std p_0 w R
theorem drawsOk : drawsOk PP cfg okD (codeOf Try.f15) = true := by kernel_rfl
theorem calls (p_0 : Sl) {w : World} {R : Ending → World → Prop} (h : E std p_0 w R) : Calls PP F.impl_NearestRest #[Sl.v p_0] w R :=
  calls_of noCount mixed drawOk Try.func15 rfl (c := cfg) (args := [Sl.v p_0]) rfl (Nat.le_of_ble_eq_true (by kernel_rfl)) drawsOk h
end impl_NearestRest

namespace impl_NearestRestL1
@[reducible] def cfg : Cfg := ⟨8, [], [], [], [4], [], [30, 27, 11, 13, 20, 26, 37, 16, 52, 109, 83, 111, 72, 70, 36], [49, 46, 97, 75, 33, 104]⟩
def E (pr : Prims) (left_0 : Sl) (low_1 : Int) (w : World) (R : Ending → World → Prop) : Prop :=
  wpC pr PP cfg (DD pr) (codeOf Try.f34) (retQ Try.f34.results.toList R) (argE 0 [Sl.v left_0, vI low_1]) w
theorem E_eq (pr : Prims) (left_0 : Sl) (low_1 : Int) (w : World) (R : Ending → World → Prop) : E pr left_0 low_1 w R = (
  pr.newK T_int #[vI low_1] w fun (a0 : Addr) ω1 =>
  pr.call1 (.int .i64) PP F.slices_IndexFunc___int_int_ #[Sl.v left_0, (.func (.func F.impl_NearestRestL1L1) #[] #[.pointer (some a0)])] ω1 fun (ρ2 : Int) ω3 =>
  R (.returned (vI ρ2)) ω3) := by kernel_rfl
theorem E_s (left_0 : Sl) (low_1 : Int) (w : World) (R : Ending → World → Prop) : E std left_0 low_1 w R = (
  newK T_int #[vI low_1] w fun (a0 : Addr) ω1 =>
  call1 (.int .i64) PP F.slices_IndexFunc___int_int_ #[Sl.v left_0, (.func (.func F.impl_NearestRestL1L1) #[] #[.pointer (some a0)])] ω1 fun (ρ2 : Int) ω3 =>
  R (.returned (vI ρ2)) ω3) := E_eq std left_0 low_1 w R
theorem drawsOk : drawsOk PP cfg okD (codeOf Try.f34) = true := by kernel_rfl
theorem calls (left_0 : Sl) (low_1 : Int) {w : World} {R : Ending → World → Prop} (h : E std left_0 low_1 w R) : Calls PP F.impl_NearestRestL1 #[Sl.v left_0, vI low_1] w R :=
  calls_of noCount mixed drawOk Try.func34 rfl (c := cfg) (args := [Sl.v left_0, vI low_1]) rfl (Nat.le_of_ble_eq_true (by kernel_rfl)) drawsOk h
end impl_NearestRestL1

namespace impl_NearestRestL1L1
@[reducible] def cfg : Cfg := ⟨7, [], [], [], [3], [], [30, 27, 11, 13, 20, 26, 37, 16, 52, 109, 83, 111, 72, 70, 36], [49, 46, 97, 75, 33, 104]⟩
def E (pr : Prims) (v_0 : Int) (t1 : Addr) (w : World) (R : Ending → World → Prop) : Prop :=
  wpC pr PP cfg (DD pr) (codeOf Try.f36) (retQ Try.f36.results.toList R) (argE 0 [vI v_0, .pointer (some t1)]) w
theorem E_eq (pr : Prims) (v_0 : Int) (t1 : Addr) (w : World) (R : Ending → World → Prop) : E pr v_0 t1 w R = (
  pr.load1 (.int .i64) t1 w fun (ξ0 : Int) =>
  R (.returned (.bool (decide (v_0 > ξ0)))) w) := by kernel_rfl
theorem E_s (v_0 : Int) (t1 : Addr) (w : World) (R : Ending → World → Prop) : E std v_0 t1 w R = (
  load1 (.int .i64) t1 w fun (ξ0 : Int) =>
  R (.returned (.bool (decide (v_0 > ξ0)))) w) := E_eq std v_0 t1 w R
theorem drawsOk : drawsOk PP cfg okD (codeOf Try.f36) = true := by kernel_rfl
theorem calls (v_0 : Int) (t1 : Addr) {w : World} {R : Ending → World → Prop} (h : E std v_0 t1 w R) : Calls PP F.impl_NearestRestL1L1 #[vI v_0, .pointer (some t1)] w R :=
  calls_of noCount mixed drawOk Try.func36 rfl (c := cfg) (args := [vI v_0, .pointer (some t1)]) rfl (Nat.le_of_ble_eq_true (by kernel_rfl)) drawsOk h
end impl_NearestRestL1L1

namespace spec_l17Rest
@[reducible] def cfg : Cfg := ⟨29, [(4, [0, 3, 4, 5])], [(1, [0, 3, 4, 5]), (0, [4])], [], [2], [], [30, 27, 11, 13, 20, 26, 37, 16, 52, 109, 83, 111, 72, 70, 36], [49, 46, 97, 75, 33, 104]⟩
def q4 (pr : Prims) (R : Ending → World → Prop) : Exit → Env → World → Prop := fun ex e w => normQ ex (fun e w => contE pr cfg (sub (codeOf Try.f29) [1, 1, 1, 1]) (fun e w => wpC pr PP cfg (DD pr) (sub (codeOf Try.f29) [1, 1, 1, 1]) (retQ Try.f29.results.toList R) e w) e w) (retQ Try.f29.results.toList R) e w
def q5 (pr : Prims) (R : Ending → World → Prop) : Exit → Env → World → Prop := fun ex e w => blockQ ex 0 (q4 pr R) e w
def emb4 (p_0 : Sl) (lows_3 : Sl) (out_4 : Sl) (k_5 : Int) : Env := [(0, Sl.v p_0), (3, Sl.v lows_3), (4, Sl.v out_4), (5, vI k_5)]
def x0 (out_4 : Sl) : Env := [(4, Sl.v out_4)]
def S4 (pr : Prims) (Q : Exit → Env → World → Prop) : (Env → World → Prop) → Env → World → Prop := fun k e w => wpC pr PP cfg (DD pr) (sub (codeOf Try.f29) [1, 1, 1, 0, 1, 0, 0]) (fun ex e w => normQ ex (fun e' w' => k (Env.restr e' (lookN cfg.loops (keyOf (sub (codeOf Try.f29) [1, 1, 1, 0, 1, 0, 0])))) w') Q e w) e w
def B4 (pr : Prims) (p_0 : Sl) (lows_3 : Sl) (out_4 : Sl) (k_5 : Int) (w : World) (k : Env → World → Prop) (Q : Exit → Env → World → Prop) : Prop :=
  S4 pr Q k (emb4 p_0 lows_3 out_4 k_5) w
def L4 (pr : Prims) (p_0 : Sl) (lows_3 : Sl) (out_4 : Sl) (k_5 : Int) (w : World) (Q : Exit → Env → World → Prop) : Prop :=
  pr.loop (S4 pr Q) (emb4 p_0 lows_3 out_4 k_5) w
def E (pr : Prims) (p_0 : Sl) (w : World) (R : Ending → World → Prop) : Prop :=
  wpC pr PP cfg (DD pr) (codeOf Try.f29) (retQ Try.f29.results.toList R) (argE 0 [Sl.v p_0]) w
theorem B4_eq (pr : Prims) (p_0 : Sl) (lows_3 : Sl) (out_4 : Sl) (k_5 : Int) (w : World) (k : Env → World → Prop) (Q : Exit → Env → World → Prop) : B4 pr p_0 lows_3 out_4 k_5 w k Q = (
  bif decide (k_5 < (p_0.n : Int)) then (
  pr.call1 .bool PP F.spec_l2Has #[Sl.v lows_3, vI (w64 (k_5 + 1))] w fun (ρ6 : Bool) ω7 =>
  bif !ρ6 then (
  pr.idxK 1 p_0 k_5 fun (a8 : Addr) =>
  pr.load1 (.int .i64) a8 ω7 fun (ξ9 : Int) =>
  pr.sem1 .sl PP (Instr.buildSlice T_Sint 1 #[(0, vI ξ9)]) ω7 fun (ρ10 : Sl) ω11 =>
  pr.sem1 .sl PP (Builtin.append_ #[T_Sint, T_Sint] T_Sint #[Sl.v out_4, Sl.v ρ10]) ω11 fun (ρ12 : Sl) ω13 =>
  k (emb4 p_0 lows_3 ρ12 (w64 (k_5 + 1))) ω13)
  else (
  k (emb4 p_0 lows_3 out_4 (w64 (k_5 + 1))) ω7))
  else (
  Q (.exit 0) (x0 out_4) w)) := by kernel_rfl
theorem B4_s (p_0 : Sl) (lows_3 : Sl) (out_4 : Sl) (k_5 : Int) (w : World) (k : Env → World → Prop) (Q : Exit → Env → World → Prop) : B4 std p_0 lows_3 out_4 k_5 w k Q = (
  bif decide (k_5 < (p_0.n : Int)) then (
  call1 .bool PP F.spec_l2Has #[Sl.v lows_3, vI (w64 (k_5 + 1))] w fun (ρ6 : Bool) ω7 =>
  bif !ρ6 then (
  idxK 1 p_0 k_5 fun (a8 : Addr) =>
  load1 (.int .i64) a8 ω7 fun (ξ9 : Int) =>
  sem1 .sl PP (Instr.buildSlice T_Sint 1 #[(0, vI ξ9)]) ω7 fun (ρ10 : Sl) ω11 =>
  sem1 .sl PP (Builtin.append_ #[T_Sint, T_Sint] T_Sint #[Sl.v out_4, Sl.v ρ10]) ω11 fun (ρ12 : Sl) ω13 =>
  k (emb4 p_0 lows_3 ρ12 (w64 (k_5 + 1))) ω13)
  else (
  k (emb4 p_0 lows_3 out_4 (w64 (k_5 + 1))) ω7))
  else (
  Q (.exit 0) (x0 out_4) w)) := B4_eq std p_0 lows_3 out_4 k_5 w k Q
theorem L4_rule (p_0 : Sl) (lows_3 : Sl) (out_4 : Sl) (k_5 : Int) (w : World) (Q : Exit → Env → World → Prop) (I : Sl → Int → World → Prop) (μ : Sl → Int → World → Nat) (h0 : I out_4 k_5 w)
    (h : ∀ (out_4 : Sl) (k_5 : Int) (w' : World), I out_4 k_5 w' → B4 std p_0 lows_3 out_4 k_5 w' (fun e2 w2 => ∃ out_4_n k_5_n, e2 = emb4 p_0 lows_3 out_4_n k_5_n ∧ I out_4_n k_5_n w2 ∧ μ out_4_n k_5_n w2 < μ out_4 k_5 w') Q) :
    L4 std p_0 lows_3 out_4 k_5 w Q := by
  unfold L4
  refine LoopE.intro (σ := Sl × Int) (step := S4 std Q) (fun s => emb4 p_0 lows_3 s.1 s.2) (fun s w => I s.1 s.2 w) (fun s w => μ s.1 s.2 w) (out_4, k_5) rfl h0 ?_
  intro s w' hI
  have h1 := h s.1 s.2 w' hI
  unfold B4 at h1
  simp only [Prod.exists]
  exact h1
theorem A4_0_eq (pr : Prims) (out_4 : Sl) (w : World) (R : Ending → World → Prop) : (q5 pr R) (.exit 0) (x0 out_4) w = (
  pr.call1 .sl PP F.spec_l15Sort #[Sl.v out_4] w fun (ρ14 : Sl) ω15 =>
  R (.returned (Sl.v ρ14)) ω15) := by kernel_rfl
theorem A4_0_s (out_4 : Sl) (w : World) (R : Ending → World → Prop) : (q5 std R) (.exit 0) (x0 out_4) w = (
  call1 .sl PP F.spec_l15Sort #[Sl.v out_4] w fun (ρ14 : Sl) ω15 =>
  R (.returned (Sl.v ρ14)) ω15) := A4_0_eq std out_4 w R
theorem E_eq (pr : Prims) (p_0 : Sl) (w : World) (R : Ending → World → Prop) : E pr p_0 w R = (
  pr.call1 .sl PP F.spec_LowsOf #[Sl.v p_0] w fun (ρ0 : Sl) ω1 =>
  pr.sem1 .sl PP (Instr.buildSlice T_Sint 0 #[]) ω1 fun (ρ2 : Sl) ω3 =>
  L4 pr p_0 ρ0 ρ2 0 ω3 (q5 pr R)) := by kernel_rfl
theorem E_s (p_0 : Sl) (w : World) (R : Ending → World → Prop) : E std p_0 w R = (
  call1 .sl PP F.spec_LowsOf #[Sl.v p_0] w fun (ρ0 : Sl) ω1 =>
  sem1 .sl PP (Instr.buildSlice T_Sint 0 #[]) ω1 fun (ρ2 : Sl) ω3 =>
  L4 std p_0 ρ0 ρ2 0 ω3 (q5 std R)) := E_eq std p_0 w R
theorem drawsOk : drawsOk PP cfg okD (codeOf Try.f29) = true := by kernel_rfl
theorem calls (p_0 : Sl) {w : World} {R : Ending → World → Prop} (h : E std p_0 w R) : Calls PP F.spec_l17Rest #[Sl.v p_0] w R :=
  calls_of noCount mixed drawOk Try.func29 rfl (c := cfg) (args := [Sl.v p_0]) rfl (Nat.le_of_ble_eq_true (by kernel_rfl)) drawsOk h
end spec_l17Rest

namespace spec_DescendingRest
@[reducible] def cfg : Cfg := ⟨49, [(7, [0, 4, 5, 6, 7])], [(1, [0, 4, 5, 6, 7]), (0, [6])], [], [2, 3], [], [30, 27, 11, 13, 20, 26, 37, 16, 52, 109, 83, 111, 72, 70, 36], [49, 46, 97, 75, 33, 104]⟩
def q10 (pr : Prims) (R : Ending → World → Prop) : Exit → Env → World → Prop := fun ex e w => normQ ex (fun e w => contE pr cfg (sub (codeOf Try.f8) [1, 1, 1, 1, 1, 1]) (fun e w => wpC pr PP cfg (DD pr) (sub (codeOf Try.f8) [1, 1, 1, 1, 1, 1]) (retQ Try.f8.results.toList R) e w) e w) (retQ Try.f8.results.toList R) e w
def q11 (pr : Prims) (R : Ending → World → Prop) : Exit → Env → World → Prop := fun ex e w => blockQ ex 0 (q10 pr R) e w
def emb7 (p_0 : Sl) (lows_4 : Sl) (rest_5 : Sl) (out_6 : Sl) (k_7 : Int) : Env := [(0, Sl.v p_0), (4, Sl.v lows_4), (5, Sl.v rest_5), (6, Sl.v out_6), (7, vI k_7)]
def x0 (out_6 : Sl) : Env := [(6, Sl.v out_6)]
def S7 (pr : Prims) (Q : Exit → Env → World → Prop) : (Env → World → Prop) → Env → World → Prop := fun k e w => wpC pr PP cfg (DD pr) (sub (codeOf Try.f8) [1, 1, 1, 1, 1, 0, 1, 0, 0]) (fun ex e w => normQ ex (fun e' w' => k (Env.restr e' (lookN cfg.loops (keyOf (sub (codeOf Try.f8) [1, 1, 1, 1, 1, 0, 1, 0, 0])))) w') Q e w) e w
def B7 (pr : Prims) (p_0 : Sl) (lows_4 : Sl) (rest_5 : Sl) (out_6 : Sl) (k_7 : Int) (w : World) (k : Env → World → Prop) (Q : Exit → Env → World → Prop) : Prop :=
  S7 pr Q k (emb7 p_0 lows_4 rest_5 out_6 k_7) w
def L7 (pr : Prims) (p_0 : Sl) (lows_4 : Sl) (rest_5 : Sl) (out_6 : Sl) (k_7 : Int) (w : World) (Q : Exit → Env → World → Prop) : Prop :=
  pr.loop (S7 pr Q) (emb7 p_0 lows_4 rest_5 out_6 k_7) w
def E (pr : Prims) (p_0 : Sl) (w : World) (R : Ending → World → Prop) : Prop :=
  wpC pr PP cfg (DD pr) (codeOf Try.f8) (retQ Try.f8.results.toList R) (argE 0 [Sl.v p_0]) w
theorem B7_eq (pr : Prims) (p_0 : Sl) (lows_4 : Sl) (rest_5 : Sl) (out_6 : Sl) (k_7 : Int) (w : World) (k : Env → World → Prop) (Q : Exit → Env → World → Prop) : B7 pr p_0 lows_4 rest_5 out_6 k_7 w k Q = (
  bif decide (k_7 < (p_0.n : Int)) then (
  pr.call1 .bool PP F.spec_l2Has #[Sl.v lows_4, vI (w64 (k_7 + 1))] w fun (ρ12 : Bool) ω13 =>
  bif ρ12 then (
  pr.idxK 1 p_0 k_7 fun (a14 : Addr) =>
  pr.load1 (.int .i64) a14 ω13 fun (ξ15 : Int) =>
  pr.sem1 .sl PP (Instr.buildSlice T_Sint 1 #[(0, vI ξ15)]) ω13 fun (ρ16 : Sl) ω17 =>
  pr.sem1 .sl PP (Builtin.append_ #[T_Sint, T_Sint] T_Sint #[Sl.v out_6, Sl.v ρ16]) ω17 fun (ρ18 : Sl) ω19 =>
  k (emb7 p_0 lows_4 rest_5 ρ18 (w64 (k_7 + 1))) ω19)
  else (
  pr.idxK 1 rest_5 (w64 ((rest_5.n : Int) - 1)) fun (a20 : Addr) =>
  pr.load1 (.int .i64) a20 ω13 fun (ξ21 : Int) =>
  pr.sem1 .sl PP (Instr.buildSlice T_Sint 1 #[(0, vI ξ21)]) ω13 fun (ρ22 : Sl) ω23 =>
  pr.sem1 .sl PP (Builtin.append_ #[T_Sint, T_Sint] T_Sint #[Sl.v out_6, Sl.v ρ22]) ω23 fun (ρ24 : Sl) ω25 =>
  pr.cutK 1 rest_5 none (some (w64 ((rest_5.n : Int) - 1))) fun (s26 : Sl) =>
  k (emb7 p_0 lows_4 s26 ρ24 (w64 (k_7 + 1))) ω25))
  else (
  Q (.exit 0) (x0 out_6) w)) := by kernel_rfl
theorem B7_s (p_0 : Sl) (lows_4 : Sl) (rest_5 : Sl) (out_6 : Sl) (k_7 : Int) (w : World) (k : Env → World → Prop) (Q : Exit → Env → World → Prop) : B7 std p_0 lows_4 rest_5 out_6 k_7 w k Q = (
  bif decide (k_7 < (p_0.n : Int)) then (
  call1 .bool PP F.spec_l2Has #[Sl.v lows_4, vI (w64 (k_7 + 1))] w fun (ρ12 : Bool) ω13 =>
  bif ρ12 then (
  idxK 1 p_0 k_7 fun (a14 : Addr) =>
  load1 (.int .i64) a14 ω13 fun (ξ15 : Int) =>
  sem1 .sl PP (Instr.buildSlice T_Sint 1 #[(0, vI ξ15)]) ω13 fun (ρ16 : Sl) ω17 =>
  sem1 .sl PP (Builtin.append_ #[T_Sint, T_Sint] T_Sint #[Sl.v out_6, Sl.v ρ16]) ω17 fun (ρ18 : Sl) ω19 =>
  k (emb7 p_0 lows_4 rest_5 ρ18 (w64 (k_7 + 1))) ω19)
  else (
  idxK 1 rest_5 (w64 ((rest_5.n : Int) - 1)) fun (a20 : Addr) =>
  load1 (.int .i64) a20 ω13 fun (ξ21 : Int) =>
  sem1 .sl PP (Instr.buildSlice T_Sint 1 #[(0, vI ξ21)]) ω13 fun (ρ22 : Sl) ω23 =>
  sem1 .sl PP (Builtin.append_ #[T_Sint, T_Sint] T_Sint #[Sl.v out_6, Sl.v ρ22]) ω23 fun (ρ24 : Sl) ω25 =>
  cutK 1 rest_5 none (some (w64 ((rest_5.n : Int) - 1))) fun (s26 : Sl) =>
  k (emb7 p_0 lows_4 s26 ρ24 (w64 (k_7 + 1))) ω25))
  else (
  Q (.exit 0) (x0 out_6) w)) := B7_eq std p_0 lows_4 rest_5 out_6 k_7 w k Q
theorem L7_rule (p_0 : Sl) (lows_4 : Sl) (rest_5 : Sl) (out_6 : Sl) (k_7 : Int) (w : World) (Q : Exit → Env → World → Prop) (I : Sl → Sl → Int → World → Prop) (μ : Sl → Sl → Int → World → Nat) (h0 : I rest_5 out_6 k_7 w)
    (h : ∀ (rest_5 : Sl) (out_6 : Sl) (k_7 : Int) (w' : World), I rest_5 out_6 k_7 w' → B7 std p_0 lows_4 rest_5 out_6 k_7 w' (fun e2 w2 => ∃ rest_5_n out_6_n k_7_n, e2 = emb7 p_0 lows_4 rest_5_n out_6_n k_7_n ∧ I rest_5_n out_6_n k_7_n w2 ∧ μ rest_5_n out_6_n k_7_n w2 < μ rest_5 out_6 k_7 w') Q) :
    L7 std p_0 lows_4 rest_5 out_6 k_7 w Q := by
  unfold L7
  refine LoopE.intro (σ := Sl × Sl × Int) (step := S7 std Q) (fun s => emb7 p_0 lows_4 s.1 s.2.1 s.2.2) (fun s w => I s.1 s.2.1 s.2.2 w) (fun s w => μ s.1 s.2.1 s.2.2 w) (rest_5, out_6, k_7) rfl h0 ?_
  intro s w' hI
  have h1 := h s.1 s.2.1 s.2.2 w' hI
  unfold B7 at h1
  simp only [Prod.exists]
  exact h1
theorem A7_0_eq (pr : Prims) (out_6 : Sl) (w : World) (R : Ending → World → Prop) : (q11 pr R) (.exit 0) (x0 out_6) w = (
  R (.returned (.tuple #[Sl.v out_6, .bool true])) w) := by kernel_rfl
theorem A7_0_s (out_6 : Sl) (w : World) (R : Ending → World → Prop) : (q11 std R) (.exit 0) (x0 out_6) w = (
  R (.returned (.tuple #[Sl.v out_6, .bool true])) w) := A7_0_eq std out_6 w R
theorem E_eq (pr : Prims) (p_0 : Sl) (w : World) (R : Ending → World → Prop) : E pr p_0 w R = (
  pr.call1 .bool PP F.spec_IsPerm #[Sl.v p_0] w fun (ρ0 : Bool) ω1 =>
  bif !ρ0 then (
  pr.sem1 .sl PP (Instr.buildSlice T_Sint 0 #[]) ω1 fun (ρ2 : Sl) ω3 =>
  R (.returned (.tuple #[Sl.v ρ2, .bool false])) ω3)
  else (
  pr.call1 .sl PP F.spec_LowsOf #[Sl.v p_0] ω1 fun (ρ4 : Sl) ω5 =>
  pr.call1 .sl PP F.spec_l17Rest #[Sl.v p_0] ω5 fun (ρ6 : Sl) ω7 =>
  pr.sem1 .sl PP (Instr.buildSlice T_Sint 0 #[]) ω7 fun (ρ8 : Sl) ω9 =>
  L7 pr p_0 ρ4 ρ6 ρ8 0 ω9 (q11 pr R))) := by kernel_rfl
theorem E_s (p_0 : Sl) (w : World) (R : Ending → World → Prop) : E std p_0 w R = (
  call1 .bool PP F.spec_IsPerm #[Sl.v p_0] w fun (ρ0 : Bool) ω1 =>
  bif !ρ0 then (
  sem1 .sl PP (Instr.buildSlice T_Sint 0 #[]) ω1 fun (ρ2 : Sl) ω3 =>
  R (.returned (.tuple #[Sl.v ρ2, .bool false])) ω3)
  else (
  call1 .sl PP F.spec_LowsOf #[Sl.v p_0] ω1 fun (ρ4 : Sl) ω5 =>
  call1 .sl PP F.spec_l17Rest #[Sl.v p_0] ω5 fun (ρ6 : Sl) ω7 =>
  sem1 .sl PP (Instr.buildSlice T_Sint 0 #[]) ω7 fun (ρ8 : Sl) ω9 =>
  L7 std p_0 ρ4 ρ6 ρ8 0 ω9 (q11 std R))) := E_eq std p_0 w R
theorem drawsOk : drawsOk PP cfg okD (codeOf Try.f8) = true := by kernel_rfl
theorem calls (p_0 : Sl) {w : World} {R : Ending → World → Prop} (h : E std p_0 w R) : Calls PP F.spec_DescendingRest #[Sl.v p_0] w R :=
  calls_of noCount mixed drawOk Try.func8 rfl (c := cfg) (args := [Sl.v p_0]) rfl (Nat.le_of_ble_eq_true (by kernel_rfl)) drawsOk h
end spec_DescendingRest

namespace spec_NearestRest
@[reducible] def cfg : Cfg := ⟨63, [(14, [0, 4, 5, 6, 7, 8, 9]), (8, [0, 4, 5, 6, 7, 8])], [(3, [0, 4, 5, 6, 7, 8, 9]), (2, [0, 4, 5, 6, 7, 8, 9]), (1, [0, 4, 5, 6, 7, 8]), (0, [6])], [], [2, 3], [], [30, 27, 11, 13, 20, 26, 37, 16, 52, 109, 83, 111, 72, 70, 36], [49, 46, 97, 75, 33, 104]⟩
def q10 (pr : Prims) (R : Ending → World → Prop) : Exit → Env → World → Prop := fun ex e w => normQ ex (fun e w => contE pr cfg (sub (codeOf Try.f14) [1, 1, 1, 1, 1, 1, 1]) (fun e w => wpC pr PP cfg (DD pr) (sub (codeOf Try.f14) [1, 1, 1, 1, 1, 1, 1]) (retQ Try.f14.results.toList R) e w) e w) (retQ Try.f14.results.toList R) e w
def q11 (pr : Prims) (R : Ending → World → Prop) : Exit → Env → World → Prop := fun ex e w => blockQ ex 0 (q10 pr R) e w
def q12 (pr : Prims) (k : Env → World → Prop) (Q : Exit → Env → World → Prop) : Exit → Env → World → Prop := fun ex e w => normQ ex (fun e w => contE pr cfg (sub (codeOf Try.f14) [1, 1, 1, 1, 1, 1, 0, 1, 0, 0, 1, 1]) (fun e w => wpC pr PP cfg (DD pr) (sub (codeOf Try.f14) [1, 1, 1, 1, 1, 1, 0, 1, 0, 0, 1, 1]) (fun ex e w => normQ ex (fun e' w' => k (Env.restr e' (lookN cfg.loops (keyOf (sub (codeOf Try.f14) [1, 1, 1, 1, 1, 1, 0, 1, 0, 0])))) w') Q e w) e w) e w) (fun ex e w => normQ ex (fun e' w' => k (Env.restr e' (lookN cfg.loops (keyOf (sub (codeOf Try.f14) [1, 1, 1, 1, 1, 1, 0, 1, 0, 0])))) w') Q e w) e w
def q13 (pr : Prims) (k : Env → World → Prop) (Q : Exit → Env → World → Prop) : Exit → Env → World → Prop := fun ex e w => blockQ ex 1 (q12 pr k Q) e w
def q22 (pr : Prims) (k : Env → World → Prop) (Q : Exit → Env → World → Prop) : Exit → Env → World → Prop := fun ex e w => normQ ex (fun e w => contE pr cfg (sub (codeOf Try.f14) [1, 1, 1, 1, 1, 1, 0, 1, 0, 0, 1, 0, 0, 1, 1, 1]) (fun e w => wpC pr PP cfg (DD pr) (sub (codeOf Try.f14) [1, 1, 1, 1, 1, 1, 0, 1, 0, 0, 1, 0, 0, 1, 1, 1]) (q13 pr k Q) e w) e w) (q13 pr k Q) e w
def q23 (pr : Prims) (k : Env → World → Prop) (Q : Exit → Env → World → Prop) : Exit → Env → World → Prop := fun ex e w => blockQ ex 2 (q22 pr k Q) e w
def emb8 (p_0 : Sl) (lows_4 : Sl) (rest_5 : Sl) (out_6 : Sl) (low_7 : Int) (k_8 : Int) : Env := [(0, Sl.v p_0), (4, Sl.v lows_4), (5, Sl.v rest_5), (6, Sl.v out_6), (7, vI low_7), (8, vI k_8)]
def emb14 (p_0 : Sl) (lows_4 : Sl) (rest_5 : Sl) (out_6 : Sl) (low_7 : Int) (k_8 : Int) (at_9 : Int) : Env := [(0, Sl.v p_0), (4, Sl.v lows_4), (5, Sl.v rest_5), (6, Sl.v out_6), (7, vI low_7), (8, vI k_8), (9, vI at_9)]
def x2 (p_0 : Sl) (lows_4 : Sl) (rest_5 : Sl) (out_6 : Sl) (low_7 : Int) (k_8 : Int) (at_9 : Int) : Env := [(0, Sl.v p_0), (4, Sl.v lows_4), (5, Sl.v rest_5), (6, Sl.v out_6), (7, vI low_7), (8, vI k_8), (9, vI at_9)]
def x0 (out_6 : Sl) : Env := [(6, Sl.v out_6)]
def S14 (pr : Prims) (Q : Exit → Env → World → Prop) : (Env → World → Prop) → Env → World → Prop := fun k e w => wpC pr PP cfg (DD pr) (sub (codeOf Try.f14) [1, 1, 1, 1, 1, 1, 0, 1, 0, 0, 1, 0, 0, 1, 1, 0, 0, 0]) (fun ex e w => normQ ex (fun e' w' => k (Env.restr e' (lookN cfg.loops (keyOf (sub (codeOf Try.f14) [1, 1, 1, 1, 1, 1, 0, 1, 0, 0, 1, 0, 0, 1, 1, 0, 0, 0])))) w') Q e w) e w
def S8 (pr : Prims) (Q : Exit → Env → World → Prop) : (Env → World → Prop) → Env → World → Prop := fun k e w => wpC pr PP cfg (DD pr) (sub (codeOf Try.f14) [1, 1, 1, 1, 1, 1, 0, 1, 0, 0]) (fun ex e w => normQ ex (fun e' w' => k (Env.restr e' (lookN cfg.loops (keyOf (sub (codeOf Try.f14) [1, 1, 1, 1, 1, 1, 0, 1, 0, 0])))) w') Q e w) e w
def B14 (pr : Prims) (p_0 : Sl) (lows_4 : Sl) (rest_5 : Sl) (out_6 : Sl) (low_7 : Int) (k_8 : Int) (at_9 : Int) (w : World) (k : Env → World → Prop) (Q : Exit → Env → World → Prop) : Prop :=
  S14 pr Q k (emb14 p_0 lows_4 rest_5 out_6 low_7 k_8 at_9) w
def L14 (pr : Prims) (p_0 : Sl) (lows_4 : Sl) (rest_5 : Sl) (out_6 : Sl) (low_7 : Int) (k_8 : Int) (at_9 : Int) (w : World) (Q : Exit → Env → World → Prop) : Prop :=
  pr.loop (S14 pr Q) (emb14 p_0 lows_4 rest_5 out_6 low_7 k_8 at_9) w
def B8 (pr : Prims) (p_0 : Sl) (lows_4 : Sl) (rest_5 : Sl) (out_6 : Sl) (low_7 : Int) (k_8 : Int) (w : World) (k : Env → World → Prop) (Q : Exit → Env → World → Prop) : Prop :=
  S8 pr Q k (emb8 p_0 lows_4 rest_5 out_6 low_7 k_8) w
def L8 (pr : Prims) (p_0 : Sl) (lows_4 : Sl) (rest_5 : Sl) (out_6 : Sl) (low_7 : Int) (k_8 : Int) (w : World) (Q : Exit → Env → World → Prop) : Prop :=
  pr.loop (S8 pr Q) (emb8 p_0 lows_4 rest_5 out_6 low_7 k_8) w
def E (pr : Prims) (p_0 : Sl) (w : World) (R : Ending → World → Prop) : Prop :=
  wpC pr PP cfg (DD pr) (codeOf Try.f14) (retQ Try.f14.results.toList R) (argE 0 [Sl.v p_0]) w
theorem B14_eq (pr : Prims) (p_0 : Sl) (lows_4 : Sl) (rest_5 : Sl) (out_6 : Sl) (low_7 : Int) (k_8 : Int) (at_9 : Int) (w : World) (k : Env → World → Prop) (Q : Exit → Env → World → Prop) : B14 pr p_0 lows_4 rest_5 out_6 low_7 k_8 at_9 w k Q = (
  pr.idxK 1 rest_5 at_9 fun (a24 : Addr) =>
  pr.load1 (.int .i64) a24 w fun (ξ25 : Int) =>
  bif decide (ξ25 < low_7) then (
  k (emb14 p_0 lows_4 rest_5 out_6 low_7 k_8 (w64 (at_9 + 1))) w)
  else (
  Q (.exit 2) (x2 p_0 lows_4 rest_5 out_6 low_7 k_8 at_9) w)) := by kernel_rfl
theorem B14_s (p_0 : Sl) (lows_4 : Sl) (rest_5 : Sl) (out_6 : Sl) (low_7 : Int) (k_8 : Int) (at_9 : Int) (w : World) (k : Env → World → Prop) (Q : Exit → Env → World → Prop) : B14 std p_0 lows_4 rest_5 out_6 low_7 k_8 at_9 w k Q = (
  idxK 1 rest_5 at_9 fun (a24 : Addr) =>
  load1 (.int .i64) a24 w fun (ξ25 : Int) =>
  bif decide (ξ25 < low_7) then (
  k (emb14 p_0 lows_4 rest_5 out_6 low_7 k_8 (w64 (at_9 + 1))) w)
  else (
  Q (.exit 2) (x2 p_0 lows_4 rest_5 out_6 low_7 k_8 at_9) w)) := B14_eq std p_0 lows_4 rest_5 out_6 low_7 k_8 at_9 w k Q
theorem L14_rule (p_0 : Sl) (lows_4 : Sl) (rest_5 : Sl) (out_6 : Sl) (low_7 : Int) (k_8 : Int) (at_9 : Int) (w : World) (Q : Exit → Env → World → Prop) (I : Int → World → Prop) (μ : Int → World → Nat) (h0 : I at_9 w)
    (h : ∀ (at_9 : Int) (w' : World), I at_9 w' → B14 std p_0 lows_4 rest_5 out_6 low_7 k_8 at_9 w' (fun e2 w2 => ∃ at_9_n, e2 = emb14 p_0 lows_4 rest_5 out_6 low_7 k_8 at_9_n ∧ I at_9_n w2 ∧ μ at_9_n w2 < μ at_9 w') Q) :
    L14 std p_0 lows_4 rest_5 out_6 low_7 k_8 at_9 w Q := by
  unfold L14
  refine LoopE.intro (σ := Int) (step := S14 std Q) (fun s => emb14 p_0 lows_4 rest_5 out_6 low_7 k_8 s) (fun s w => I s w) (fun s w => μ s w) at_9 rfl h0 ?_
  intro s w' hI
  have h1 := h s w' hI
  unfold B14 at h1
  exact h1
theorem A14_2_eq (pr : Prims) (p_0 : Sl) (lows_4 : Sl) (rest_5 : Sl) (out_6 : Sl) (low_7 : Int) (k_8 : Int) (at_9 : Int) (w : World) (k : Env → World → Prop) (Q : Exit → Env → World → Prop) : (q23 pr k Q) (.exit 2) (x2 p_0 lows_4 rest_5 out_6 low_7 k_8 at_9) w = (
  pr.idxK 1 rest_5 at_9 fun (a26 : Addr) =>
  pr.load1 (.int .i64) a26 w fun (ξ27 : Int) =>
  pr.sem1 .sl PP (Instr.buildSlice T_Sint 1 #[(0, vI ξ27)]) w fun (ρ28 : Sl) ω29 =>
  pr.sem1 .sl PP (Builtin.append_ #[T_Sint, T_Sint] T_Sint #[Sl.v out_6, Sl.v ρ28]) ω29 fun (ρ30 : Sl) ω31 =>
  pr.drewAll ω31 fun ω32 =>
  pr.cutK 1 rest_5 none (some at_9) fun (s33 : Sl) =>
  pr.cutK 1 rest_5 (some (w64 (at_9 + 1))) none fun (s34 : Sl) =>
  pr.sem1 .sl PP (Instr.buildSlice T_Sint 0 #[]) ω32 fun (ρ35 : Sl) ω36 =>
  pr.sem1 .sl PP (Builtin.append_ #[T_Sint, T_Sint] T_Sint #[Sl.v ρ35, Sl.v s33]) ω36 fun (ρ37 : Sl) ω38 =>
  pr.sem1 .sl PP (Builtin.append_ #[T_Sint, T_Sint] T_Sint #[Sl.v ρ37, Sl.v s34]) ω38 fun (ρ39 : Sl) ω40 =>
  k (emb8 p_0 lows_4 ρ39 ρ30 low_7 (w64 (k_8 + 1))) ω40) := by kernel_rfl
theorem A14_2_s (p_0 : Sl) (lows_4 : Sl) (rest_5 : Sl) (out_6 : Sl) (low_7 : Int) (k_8 : Int) (at_9 : Int) (w : World) (k : Env → World → Prop) (Q : Exit → Env → World → Prop) : (q23 std k Q) (.exit 2) (x2 p_0 lows_4 rest_5 out_6 low_7 k_8 at_9) w = (
  idxK 1 rest_5 at_9 fun (a26 : Addr) =>
  load1 (.int .i64) a26 w fun (ξ27 : Int) =>
  sem1 .sl PP (Instr.buildSlice T_Sint 1 #[(0, vI ξ27)]) w fun (ρ28 : Sl) ω29 =>
  sem1 .sl PP (Builtin.append_ #[T_Sint, T_Sint] T_Sint #[Sl.v out_6, Sl.v ρ28]) ω29 fun (ρ30 : Sl) ω31 =>
  drewAll ω31 fun ω32 =>
  cutK 1 rest_5 none (some at_9) fun (s33 : Sl) =>
  cutK 1 rest_5 (some (w64 (at_9 + 1))) none fun (s34 : Sl) =>
  sem1 .sl PP (Instr.buildSlice T_Sint 0 #[]) ω32 fun (ρ35 : Sl) ω36 =>
  sem1 .sl PP (Builtin.append_ #[T_Sint, T_Sint] T_Sint #[Sl.v ρ35, Sl.v s33]) ω36 fun (ρ37 : Sl) ω38 =>
  sem1 .sl PP (Builtin.append_ #[T_Sint, T_Sint] T_Sint #[Sl.v ρ37, Sl.v s34]) ω38 fun (ρ39 : Sl) ω40 =>
  k (emb8 p_0 lows_4 ρ39 ρ30 low_7 (w64 (k_8 + 1))) ω40) := A14_2_eq std p_0 lows_4 rest_5 out_6 low_7 k_8 at_9 w k Q
theorem B8_eq (pr : Prims) (p_0 : Sl) (lows_4 : Sl) (rest_5 : Sl) (out_6 : Sl) (low_7 : Int) (k_8 : Int) (w : World) (k : Env → World → Prop) (Q : Exit → Env → World → Prop) : B8 pr p_0 lows_4 rest_5 out_6 low_7 k_8 w k Q = (
  bif decide (k_8 < (p_0.n : Int)) then (
  pr.call1 .bool PP F.spec_l2Has #[Sl.v lows_4, vI (w64 (k_8 + 1))] w fun (ρ14 : Bool) ω15 =>
  bif ρ14 then (
  pr.idxK 1 p_0 k_8 fun (a16 : Addr) =>
  pr.load1 (.int .i64) a16 ω15 fun (ξ17 : Int) =>
  pr.sem1 .sl PP (Instr.buildSlice T_Sint 1 #[(0, vI ξ17)]) ω15 fun (ρ18 : Sl) ω19 =>
  pr.sem1 .sl PP (Builtin.append_ #[T_Sint, T_Sint] T_Sint #[Sl.v out_6, Sl.v ρ18]) ω19 fun (ρ20 : Sl) ω21 =>
  k (emb8 p_0 lows_4 rest_5 ρ20 ξ17 (w64 (k_8 + 1))) ω21)
  else (
  L14 pr p_0 lows_4 rest_5 out_6 low_7 k_8 0 ω15 (q23 pr k Q)))
  else (
  Q (.exit 0) (x0 out_6) w)) := by kernel_rfl
theorem B8_s (p_0 : Sl) (lows_4 : Sl) (rest_5 : Sl) (out_6 : Sl) (low_7 : Int) (k_8 : Int) (w : World) (k : Env → World → Prop) (Q : Exit → Env → World → Prop) : B8 std p_0 lows_4 rest_5 out_6 low_7 k_8 w k Q = (
  bif decide (k_8 < (p_0.n : Int)) then (
  call1 .bool PP F.spec_l2Has #[Sl.v lows_4, vI (w64 (k_8 + 1))] w fun (ρ14 : Bool) ω15 =>
  bif ρ14 then (
  idxK 1 p_0 k_8 fun (a16 : Addr) =>
  load1 (.int .i64) a16 ω15 fun (ξ17 : Int) =>
  sem1 .sl PP (Instr.buildSlice T_Sint 1 #[(0, vI ξ17)]) ω15 fun (ρ18 : Sl) ω19 =>
  sem1 .sl PP (Builtin.append_ #[T_Sint, T_Sint] T_Sint #[Sl.v out_6, Sl.v ρ18]) ω19 fun (ρ20 : Sl) ω21 =>
  k (emb8 p_0 lows_4 rest_5 ρ20 ξ17 (w64 (k_8 + 1))) ω21)
  else (
  L14 std p_0 lows_4 rest_5 out_6 low_7 k_8 0 ω15 (q23 std k Q)))
  else (
  Q (.exit 0) (x0 out_6) w)) := B8_eq std p_0 lows_4 rest_5 out_6 low_7 k_8 w k Q
theorem L8_rule (p_0 : Sl) (lows_4 : Sl) (rest_5 : Sl) (out_6 : Sl) (low_7 : Int) (k_8 : Int) (w : World) (Q : Exit → Env → World → Prop) (I : Sl → Sl → Int → Int → World → Prop) (μ : Sl → Sl → Int → Int → World → Nat) (h0 : I rest_5 out_6 low_7 k_8 w)
    (h : ∀ (rest_5 : Sl) (out_6 : Sl) (low_7 : Int) (k_8 : Int) (w' : World), I rest_5 out_6 low_7 k_8 w' → B8 std p_0 lows_4 rest_5 out_6 low_7 k_8 w' (fun e2 w2 => ∃ rest_5_n out_6_n low_7_n k_8_n, e2 = emb8 p_0 lows_4 rest_5_n out_6_n low_7_n k_8_n ∧ I rest_5_n out_6_n low_7_n k_8_n w2 ∧ μ rest_5_n out_6_n low_7_n k_8_n w2 < μ rest_5 out_6 low_7 k_8 w') Q) :
    L8 std p_0 lows_4 rest_5 out_6 low_7 k_8 w Q := by
  unfold L8
  refine LoopE.intro (σ := Sl × Sl × Int × Int) (step := S8 std Q) (fun s => emb8 p_0 lows_4 s.1 s.2.1 s.2.2.1 s.2.2.2) (fun s w => I s.1 s.2.1 s.2.2.1 s.2.2.2 w) (fun s w => μ s.1 s.2.1 s.2.2.1 s.2.2.2 w) (rest_5, out_6, low_7, k_8) rfl h0 ?_
  intro s w' hI
  have h1 := h s.1 s.2.1 s.2.2.1 s.2.2.2 w' hI
  unfold B8 at h1
  simp only [Prod.exists]
  exact h1
theorem A8_0_eq (pr : Prims) (out_6 : Sl) (w : World) (R : Ending → World → Prop) : (q11 pr R) (.exit 0) (x0 out_6) w = (
  R (.returned (.tuple #[Sl.v out_6, .bool true])) w) := by kernel_rfl
theorem A8_0_s (out_6 : Sl) (w : World) (R : Ending → World → Prop) : (q11 std R) (.exit 0) (x0 out_6) w = (
  R (.returned (.tuple #[Sl.v out_6, .bool true])) w) := A8_0_eq std out_6 w R
theorem E_eq (pr : Prims) (p_0 : Sl) (w : World) (R : Ending → World → Prop) : E pr p_0 w R = (
  pr.call1 .bool PP F.spec_IsPerm #[Sl.v p_0] w fun (ρ0 : Bool) ω1 =>
  bif !ρ0 then (
  pr.sem1 .sl PP (Instr.buildSlice T_Sint 0 #[]) ω1 fun (ρ2 : Sl) ω3 =>
  R (.returned (.tuple #[Sl.v ρ2, .bool false])) ω3)
  else (
  pr.call1 .sl PP F.spec_LowsOf #[Sl.v p_0] ω1 fun (ρ4 : Sl) ω5 =>
  pr.call1 .sl PP F.spec_l17Rest #[Sl.v p_0] ω5 fun (ρ6 : Sl) ω7 =>
  pr.sem1 .sl PP (Instr.buildSlice T_Sint 0 #[]) ω7 fun (ρ8 : Sl) ω9 =>
  L8 pr p_0 ρ4 ρ6 ρ8 0 0 ω9 (q11 pr R))) := by kernel_rfl
theorem E_s (p_0 : Sl) (w : World) (R : Ending → World → Prop) : E std p_0 w R = (
  call1 .bool PP F.spec_IsPerm #[Sl.v p_0] w fun (ρ0 : Bool) ω1 =>
  bif !ρ0 then (
  sem1 .sl PP (Instr.buildSlice T_Sint 0 #[]) ω1 fun (ρ2 : Sl) ω3 =>
  R (.returned (.tuple #[Sl.v ρ2, .bool false])) ω3)
  else (
  call1 .sl PP F.spec_LowsOf #[Sl.v p_0] ω1 fun (ρ4 : Sl) ω5 =>
  call1 .sl PP F.spec_l17Rest #[Sl.v p_0] ω5 fun (ρ6 : Sl) ω7 =>
  sem1 .sl PP (Instr.buildSlice T_Sint 0 #[]) ω7 fun (ρ8 : Sl) ω9 =>
  L8 std p_0 ρ4 ρ6 ρ8 0 0 ω9 (q11 std R))) := E_eq std p_0 w R
theorem drawsOk : drawsOk PP cfg okD (codeOf Try.f14) = true := by kernel_rfl
theorem calls (p_0 : Sl) {w : World} {R : Ending → World → Prop} (h : E std p_0 w R) : Calls PP F.spec_NearestRest #[Sl.v p_0] w R :=
  calls_of noCount mixed drawOk Try.func14 rfl (c := cfg) (args := [Sl.v p_0]) rfl (Nat.le_of_ble_eq_true (by kernel_rfl)) drawsOk h
end spec_NearestRest

namespace laws_FnExactDescendingRest
@[reducible] def cfg : Cfg := ⟨93, [], [], [], [2], [], [30, 27, 11, 13, 20, 26, 37, 16, 52, 109, 83, 111, 72, 70, 36], [49, 46, 97, 75, 33, 104]⟩
def E (pr : Prims) (aP_0 : Sl) (w : World) (R : Ending → World → Prop) : Prop :=
  wpC pr PP cfg (DD pr) (codeOf Try.f3) (retQ Try.f3.results.toList R) (argE 0 [Sl.v aP_0]) w
theorem E_eq (pr : Prims) (aP_0 : Sl) (w : World) (R : Ending → World → Prop) : E pr aP_0 w R = (
  bif decide ((aP_0.n : Int) > 1048576) then (
  R (.returned (.bool true)) w)
  else (
  pr.call1 .sl PP F.laws_toIntS #[Sl.v aP_0] w fun (ρ0 : Sl) ω1 =>
  pr.call2 .sl .bool PP F.spec_DescendingRest #[Sl.v ρ0] ω1 fun (ρ2 : Sl) (ρ3 : Bool) ω4 =>
  pr.call1 .sl PP F.laws_toIntS #[Sl.v aP_0] ω4 fun (ρ5 : Sl) ω6 =>
  pr.call2 .sl .bool PP F.impl_DescendingRest #[Sl.v ρ5] ω6 fun (ρ7 : Sl) (ρ8 : Bool) ω9 =>
  pr.call1 .bool PP F.laws_eqIntS #[Sl.v ρ7, Sl.v ρ2] ω9 fun (ρ10 : Bool) ω11 =>
  bif !ρ10 then (
  R (.returned (.bool false)) ω11)
  else (
  bif !(ρ8 == ρ3) then (
  R (.returned (.bool false)) ω11)
  else (
  pr.call1 .sl PP F.laws_toIntS #[Sl.v aP_0] ω11 fun (ρ12 : Sl) ω13 =>
  pr.call1 .bool PP F.laws_eqIntS #[Sl.v ρ5, Sl.v ρ12] ω13 fun (ρ14 : Bool) ω15 =>
  bif !ρ14 then (
  R (.returned (.bool false)) ω15)
  else (
  pr.call1 (.int .i64) PP F.laws_markIntS #[Sl.v ρ5, vI 1] ω15 fun (ρ16 : Int) ω17 =>
  bif decide (ρ16 < 0) then (
  R (.returned (.bool false)) ω17)
  else (
  pr.call1 .bool PP F.laws_eqIntS #[Sl.v ρ7, Sl.v ρ2] ω17 fun (ρ18 : Bool) ω19 =>
  bif !ρ18 then (
  R (.returned (.bool false)) ω19)
  else (
  bif !(ρ8 == ρ3) then (
  R (.returned (.bool false)) ω19)
  else (
  pr.call1 (.int .i64) PP F.laws_markIntS #[Sl.v ρ7, vI 1] ω19 fun (ρ20 : Int) ω21 =>
  pr.call1 (.int .i64) PP F.laws_heldIntS #[Sl.v ρ7, vI 1] ω21 fun (ρ22 : Int) ω23 =>
  bif decide (ρ22 < 0) then (
  R (.returned (.bool false)) ω23)
  else (
  bif ρ22 != ρ20 then (
  R (.returned (.bool false)) ω23)
  else (
  pr.call1 .sl PP F.laws_toIntS #[Sl.v aP_0] ω23 fun (ρ24 : Sl) ω25 =>
  pr.call2 .sl .bool PP F.impl_DescendingRest #[Sl.v ρ24] ω25 fun (ρ26 : Sl) (ρ27 : Bool) ω28 =>
  pr.call1 .bool PP F.laws_eqIntS #[Sl.v ρ26, Sl.v ρ2] ω28 fun (ρ29 : Bool) ω30 =>
  bif !ρ29 then (
  R (.returned (.bool false)) ω30)
  else (
  bif !(ρ27 == ρ3) then (
  R (.returned (.bool false)) ω30)
  else (
  pr.call1 (.int .i64) PP F.laws_heldIntS #[Sl.v ρ7, vI 1] ω30 fun (ρ31 : Int) ω32 =>
  bif decide (ρ31 < 0) then (
  R (.returned (.bool false)) ω32)
  else (
  bif ρ31 != ρ20 then (
  R (.returned (.bool false)) ω32)
  else (
  R (.returned (.bool true)) ω32)))))))))))))) := by kernel_rfl
theorem E_s (aP_0 : Sl) (w : World) (R : Ending → World → Prop) : E std aP_0 w R = (
  bif decide ((aP_0.n : Int) > 1048576) then (
  R (.returned (.bool true)) w)
  else (
  call1 .sl PP F.laws_toIntS #[Sl.v aP_0] w fun (ρ0 : Sl) ω1 =>
  call2 .sl .bool PP F.spec_DescendingRest #[Sl.v ρ0] ω1 fun (ρ2 : Sl) (ρ3 : Bool) ω4 =>
  call1 .sl PP F.laws_toIntS #[Sl.v aP_0] ω4 fun (ρ5 : Sl) ω6 =>
  call2 .sl .bool PP F.impl_DescendingRest #[Sl.v ρ5] ω6 fun (ρ7 : Sl) (ρ8 : Bool) ω9 =>
  call1 .bool PP F.laws_eqIntS #[Sl.v ρ7, Sl.v ρ2] ω9 fun (ρ10 : Bool) ω11 =>
  bif !ρ10 then (
  R (.returned (.bool false)) ω11)
  else (
  bif !(ρ8 == ρ3) then (
  R (.returned (.bool false)) ω11)
  else (
  call1 .sl PP F.laws_toIntS #[Sl.v aP_0] ω11 fun (ρ12 : Sl) ω13 =>
  call1 .bool PP F.laws_eqIntS #[Sl.v ρ5, Sl.v ρ12] ω13 fun (ρ14 : Bool) ω15 =>
  bif !ρ14 then (
  R (.returned (.bool false)) ω15)
  else (
  call1 (.int .i64) PP F.laws_markIntS #[Sl.v ρ5, vI 1] ω15 fun (ρ16 : Int) ω17 =>
  bif decide (ρ16 < 0) then (
  R (.returned (.bool false)) ω17)
  else (
  call1 .bool PP F.laws_eqIntS #[Sl.v ρ7, Sl.v ρ2] ω17 fun (ρ18 : Bool) ω19 =>
  bif !ρ18 then (
  R (.returned (.bool false)) ω19)
  else (
  bif !(ρ8 == ρ3) then (
  R (.returned (.bool false)) ω19)
  else (
  call1 (.int .i64) PP F.laws_markIntS #[Sl.v ρ7, vI 1] ω19 fun (ρ20 : Int) ω21 =>
  call1 (.int .i64) PP F.laws_heldIntS #[Sl.v ρ7, vI 1] ω21 fun (ρ22 : Int) ω23 =>
  bif decide (ρ22 < 0) then (
  R (.returned (.bool false)) ω23)
  else (
  bif ρ22 != ρ20 then (
  R (.returned (.bool false)) ω23)
  else (
  call1 .sl PP F.laws_toIntS #[Sl.v aP_0] ω23 fun (ρ24 : Sl) ω25 =>
  call2 .sl .bool PP F.impl_DescendingRest #[Sl.v ρ24] ω25 fun (ρ26 : Sl) (ρ27 : Bool) ω28 =>
  call1 .bool PP F.laws_eqIntS #[Sl.v ρ26, Sl.v ρ2] ω28 fun (ρ29 : Bool) ω30 =>
  bif !ρ29 then (
  R (.returned (.bool false)) ω30)
  else (
  bif !(ρ27 == ρ3) then (
  R (.returned (.bool false)) ω30)
  else (
  call1 (.int .i64) PP F.laws_heldIntS #[Sl.v ρ7, vI 1] ω30 fun (ρ31 : Int) ω32 =>
  bif decide (ρ31 < 0) then (
  R (.returned (.bool false)) ω32)
  else (
  bif ρ31 != ρ20 then (
  R (.returned (.bool false)) ω32)
  else (
  R (.returned (.bool true)) ω32)))))))))))))) := E_eq std aP_0 w R
theorem drawsOk : drawsOk PP cfg okD (codeOf Try.f3) = true := by kernel_rfl
theorem calls (aP_0 : Sl) {w : World} {R : Ending → World → Prop} (h : E std aP_0 w R) : Calls PP F.laws_FnExactDescendingRest #[Sl.v aP_0] w R :=
  calls_of noCount mixed drawOk Try.func3 rfl (c := cfg) (args := [Sl.v aP_0]) rfl (Nat.le_of_ble_eq_true (by kernel_rfl)) drawsOk h
end laws_FnExactDescendingRest

namespace laws_FnExactNearestRest
@[reducible] def cfg : Cfg := ⟨93, [], [], [], [2], [], [30, 27, 11, 13, 20, 26, 37, 16, 52, 109, 83, 111, 72, 70, 36], [49, 46, 97, 75, 33, 104]⟩
def E (pr : Prims) (aP_0 : Sl) (w : World) (R : Ending → World → Prop) : Prop :=
  wpC pr PP cfg (DD pr) (codeOf Try.f4) (retQ Try.f4.results.toList R) (argE 0 [Sl.v aP_0]) w
theorem E_eq (pr : Prims) (aP_0 : Sl) (w : World) (R : Ending → World → Prop) : E pr aP_0 w R = (
  bif decide ((aP_0.n : Int) > 1048576) then (
  R (.returned (.bool true)) w)
  else (
  pr.call1 .sl PP F.laws_toIntS #[Sl.v aP_0] w fun (ρ0 : Sl) ω1 =>
  pr.call2 .sl .bool PP F.spec_NearestRest #[Sl.v ρ0] ω1 fun (ρ2 : Sl) (ρ3 : Bool) ω4 =>
  pr.call1 .sl PP F.laws_toIntS #[Sl.v aP_0] ω4 fun (ρ5 : Sl) ω6 =>
  pr.call2 .sl .bool PP F.impl_NearestRest #[Sl.v ρ5] ω6 fun (ρ7 : Sl) (ρ8 : Bool) ω9 =>
  pr.call1 .bool PP F.laws_eqIntS #[Sl.v ρ7, Sl.v ρ2] ω9 fun (ρ10 : Bool) ω11 =>
  bif !ρ10 then (
  R (.returned (.bool false)) ω11)
  else (
  bif !(ρ8 == ρ3) then (
  R (.returned (.bool false)) ω11)
  else (
  pr.call1 .sl PP F.laws_toIntS #[Sl.v aP_0] ω11 fun (ρ12 : Sl) ω13 =>
  pr.call1 .bool PP F.laws_eqIntS #[Sl.v ρ5, Sl.v ρ12] ω13 fun (ρ14 : Bool) ω15 =>
  bif !ρ14 then (
  R (.returned (.bool false)) ω15)
  else (
  pr.call1 (.int .i64) PP F.laws_markIntS #[Sl.v ρ5, vI 1] ω15 fun (ρ16 : Int) ω17 =>
  bif decide (ρ16 < 0) then (
  R (.returned (.bool false)) ω17)
  else (
  pr.call1 .bool PP F.laws_eqIntS #[Sl.v ρ7, Sl.v ρ2] ω17 fun (ρ18 : Bool) ω19 =>
  bif !ρ18 then (
  R (.returned (.bool false)) ω19)
  else (
  bif !(ρ8 == ρ3) then (
  R (.returned (.bool false)) ω19)
  else (
  pr.call1 (.int .i64) PP F.laws_markIntS #[Sl.v ρ7, vI 1] ω19 fun (ρ20 : Int) ω21 =>
  pr.call1 (.int .i64) PP F.laws_heldIntS #[Sl.v ρ7, vI 1] ω21 fun (ρ22 : Int) ω23 =>
  bif decide (ρ22 < 0) then (
  R (.returned (.bool false)) ω23)
  else (
  bif ρ22 != ρ20 then (
  R (.returned (.bool false)) ω23)
  else (
  pr.call1 .sl PP F.laws_toIntS #[Sl.v aP_0] ω23 fun (ρ24 : Sl) ω25 =>
  pr.call2 .sl .bool PP F.impl_NearestRest #[Sl.v ρ24] ω25 fun (ρ26 : Sl) (ρ27 : Bool) ω28 =>
  pr.call1 .bool PP F.laws_eqIntS #[Sl.v ρ26, Sl.v ρ2] ω28 fun (ρ29 : Bool) ω30 =>
  bif !ρ29 then (
  R (.returned (.bool false)) ω30)
  else (
  bif !(ρ27 == ρ3) then (
  R (.returned (.bool false)) ω30)
  else (
  pr.call1 (.int .i64) PP F.laws_heldIntS #[Sl.v ρ7, vI 1] ω30 fun (ρ31 : Int) ω32 =>
  bif decide (ρ31 < 0) then (
  R (.returned (.bool false)) ω32)
  else (
  bif ρ31 != ρ20 then (
  R (.returned (.bool false)) ω32)
  else (
  R (.returned (.bool true)) ω32)))))))))))))) := by kernel_rfl
theorem E_s (aP_0 : Sl) (w : World) (R : Ending → World → Prop) : E std aP_0 w R = (
  bif decide ((aP_0.n : Int) > 1048576) then (
  R (.returned (.bool true)) w)
  else (
  call1 .sl PP F.laws_toIntS #[Sl.v aP_0] w fun (ρ0 : Sl) ω1 =>
  call2 .sl .bool PP F.spec_NearestRest #[Sl.v ρ0] ω1 fun (ρ2 : Sl) (ρ3 : Bool) ω4 =>
  call1 .sl PP F.laws_toIntS #[Sl.v aP_0] ω4 fun (ρ5 : Sl) ω6 =>
  call2 .sl .bool PP F.impl_NearestRest #[Sl.v ρ5] ω6 fun (ρ7 : Sl) (ρ8 : Bool) ω9 =>
  call1 .bool PP F.laws_eqIntS #[Sl.v ρ7, Sl.v ρ2] ω9 fun (ρ10 : Bool) ω11 =>
  bif !ρ10 then (
  R (.returned (.bool false)) ω11)
  else (
  bif !(ρ8 == ρ3) then (
  R (.returned (.bool false)) ω11)
  else (
  call1 .sl PP F.laws_toIntS #[Sl.v aP_0] ω11 fun (ρ12 : Sl) ω13 =>
  call1 .bool PP F.laws_eqIntS #[Sl.v ρ5, Sl.v ρ12] ω13 fun (ρ14 : Bool) ω15 =>
  bif !ρ14 then (
  R (.returned (.bool false)) ω15)
  else (
  call1 (.int .i64) PP F.laws_markIntS #[Sl.v ρ5, vI 1] ω15 fun (ρ16 : Int) ω17 =>
  bif decide (ρ16 < 0) then (
  R (.returned (.bool false)) ω17)
  else (
  call1 .bool PP F.laws_eqIntS #[Sl.v ρ7, Sl.v ρ2] ω17 fun (ρ18 : Bool) ω19 =>
  bif !ρ18 then (
  R (.returned (.bool false)) ω19)
  else (
  bif !(ρ8 == ρ3) then (
  R (.returned (.bool false)) ω19)
  else (
  call1 (.int .i64) PP F.laws_markIntS #[Sl.v ρ7, vI 1] ω19 fun (ρ20 : Int) ω21 =>
  call1 (.int .i64) PP F.laws_heldIntS #[Sl.v ρ7, vI 1] ω21 fun (ρ22 : Int) ω23 =>
  bif decide (ρ22 < 0) then (
  R (.returned (.bool false)) ω23)
  else (
  bif ρ22 != ρ20 then (
  R (.returned (.bool false)) ω23)
  else (
  call1 .sl PP F.laws_toIntS #[Sl.v aP_0] ω23 fun (ρ24 : Sl) ω25 =>
  call2 .sl .bool PP F.impl_NearestRest #[Sl.v ρ24] ω25 fun (ρ26 : Sl) (ρ27 : Bool) ω28 =>
  call1 .bool PP F.laws_eqIntS #[Sl.v ρ26, Sl.v ρ2] ω28 fun (ρ29 : Bool) ω30 =>
  bif !ρ29 then (
  R (.returned (.bool false)) ω30)
  else (
  bif !(ρ27 == ρ3) then (
  R (.returned (.bool false)) ω30)
  else (
  call1 (.int .i64) PP F.laws_heldIntS #[Sl.v ρ7, vI 1] ω30 fun (ρ31 : Int) ω32 =>
  bif decide (ρ31 < 0) then (
  R (.returned (.bool false)) ω32)
  else (
  bif ρ31 != ρ20 then (
  R (.returned (.bool false)) ω32)
  else (
  R (.returned (.bool true)) ω32)))))))))))))) := E_eq std aP_0 w R
theorem drawsOk : drawsOk PP cfg okD (codeOf Try.f4) = true := by kernel_rfl
theorem calls (aP_0 : Sl) {w : World} {R : Ending → World → Prop} (h : E std aP_0 w R) : Calls PP F.laws_FnExactNearestRest #[Sl.v aP_0] w R :=
  calls_of noCount mixed drawOk Try.func4 rfl (c := cfg) (args := [Sl.v aP_0]) rfl (Nat.le_of_ble_eq_true (by kernel_rfl)) drawsOk h
end laws_FnExactNearestRest

end Go.Proofs.Ytjojajnkofgfpaa
