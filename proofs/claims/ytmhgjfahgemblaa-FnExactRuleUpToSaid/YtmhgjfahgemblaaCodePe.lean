/- What each function does, step by step, written by a program (Gen.lean); each equation is checked by the kernel. -/
import Derived.Test.YtmhgjfahgemblaaHead
namespace Go.Proofs.Ytmhgjfahgemblaa
open Go
set_option linter.unusedVariables false
set_option maxRecDepth 100000
namespace impl_perms
@[reducible] def cfg : Cfg := ⟨41, [(9, [0, 4, 6, 7, 10, 11, 14, 15, 16]), (6, [0, 4, 10, 11, 14, 15, 16]), (3, [0, 3, 10, 11])], [(5, [0, 4, 6, 7, 10, 11, 14, 15, 16]), (4, [0, 4, 10, 11, 14, 15, 16]), (3, [0, 4, 10, 11, 14, 15, 16]), (2, [0, 4, 10, 11]), (1, [0, 3, 10, 11]), (0, [3])], [], [2], [], [62, 10, 22, 58, 24, 44, 18, 70, 43, 85, 25, 71, 59, 37, 63], [82, 113, 102, 38, 103, 26, 60]⟩
def q4 (pr : Prims) (R : Ending → World → Prop) : Exit → Env → World → Prop := fun ex e w => normQ ex (fun e w => contE pr cfg (sub (codeOf Try.f39) [1, 1, 1]) (fun e w => wpC pr PP cfg (DD pr) (sub (codeOf Try.f39) [1, 1, 1]) (retQ Try.f39.results.toList R) e w) e w) (retQ Try.f39.results.toList R) e w
def q5 (pr : Prims) (R : Ending → World → Prop) : Exit → Env → World → Prop := fun ex e w => blockQ ex 0 (q4 pr R) e w
def q6 (pr : Prims) (k : Env → World → Prop) (Q : Exit → Env → World → Prop) : Exit → Env → World → Prop := fun ex e w => normQ ex (fun e w => contE pr cfg (sub (codeOf Try.f39) [1, 1, 0, 1, 0, 0, 1, 1, 1]) (fun e w => wpC pr PP cfg (DD pr) (sub (codeOf Try.f39) [1, 1, 0, 1, 0, 0, 1, 1, 1]) (fun ex e w => normQ ex (fun e' w' => k (Env.restr e' (lookN cfg.loops (keyOf (sub (codeOf Try.f39) [1, 1, 0, 1, 0, 0])))) w') Q e w) e w) e w) (fun ex e w => normQ ex (fun e' w' => k (Env.restr e' (lookN cfg.loops (keyOf (sub (codeOf Try.f39) [1, 1, 0, 1, 0, 0])))) w') Q e w) e w
def q7 (pr : Prims) (k : Env → World → Prop) (Q : Exit → Env → World → Prop) : Exit → Env → World → Prop := fun ex e w => blockQ ex 1 (q6 pr k Q) e w
def q10 (pr : Prims) (k : Env → World → Prop) (Q : Exit → Env → World → Prop) : Exit → Env → World → Prop := fun ex e w => normQ ex (fun e w => contE pr cfg (sub (codeOf Try.f39) [1, 1, 0, 1, 0, 0, 1, 1, 0, 0, 1, 1]) (fun e w => wpC pr PP cfg (DD pr) (sub (codeOf Try.f39) [1, 1, 0, 1, 0, 0, 1, 1, 0, 0, 1, 1]) (q7 pr k Q) e w) e w) (q7 pr k Q) e w
def q11 (pr : Prims) (k : Env → World → Prop) (Q : Exit → Env → World → Prop) : Exit → Env → World → Prop := fun ex e w => blockQ ex 2 (q10 pr k Q) e w
def q12 (pr : Prims) (k : Env → World → Prop) (Q : Exit → Env → World → Prop) : Exit → Env → World → Prop := fun ex e w => normQ ex (fun e w => contE pr cfg (sub (codeOf Try.f39) [1, 1, 0, 1, 0, 0, 1, 1, 0, 0, 1, 0, 1, 0, 0, 1, 1, 1]) (fun e w => wpC pr PP cfg (DD pr) (sub (codeOf Try.f39) [1, 1, 0, 1, 0, 0, 1, 1, 0, 0, 1, 0, 1, 0, 0, 1, 1, 1]) (fun ex e w => normQ ex (fun e' w' => k (Env.restr e' (lookN cfg.loops (keyOf (sub (codeOf Try.f39) [1, 1, 0, 1, 0, 0, 1, 1, 0, 0, 1, 0, 1, 0, 0])))) w') Q e w) e w) e w) (fun ex e w => normQ ex (fun e' w' => k (Env.restr e' (lookN cfg.loops (keyOf (sub (codeOf Try.f39) [1, 1, 0, 1, 0, 0, 1, 1, 0, 0, 1, 0, 1, 0, 0])))) w') Q e w) e w
def q13 (pr : Prims) (k : Env → World → Prop) (Q : Exit → Env → World → Prop) : Exit → Env → World → Prop := fun ex e w => blockQ ex 3 (q12 pr k Q) e w
def q16 (pr : Prims) (k : Env → World → Prop) (Q : Exit → Env → World → Prop) : Exit → Env → World → Prop := fun ex e w => blockQ ex 4 (q13 pr k Q) e w
def emb3 (n_0 : Int) (out_3 : Sl) (t10 : Int) (t11 : Int) : Env := [(0, vI n_0), (3, Sl.v out_3), (10, vI t10), (11, vI t11)]
def emb6 (n_0 : Int) (longer_4 : Sl) (t10 : Int) (t11 : Int) (t14 : Sl) (t15 : Int) (t16 : Int) : Env := [(0, vI n_0), (4, Sl.v longer_4), (10, vI t10), (11, vI t11), (14, Sl.v t14), (15, vI t15), (16, vI t16)]
def emb9 (n_0 : Int) (longer_4 : Sl) (p_6 : Sl) (v_7 : Int) (t10 : Int) (t11 : Int) (t14 : Sl) (t15 : Int) (t16 : Int) : Env := [(0, vI n_0), (4, Sl.v longer_4), (6, Sl.v p_6), (7, vI v_7), (10, vI t10), (11, vI t11), (14, Sl.v t14), (15, vI t15), (16, vI t16)]
def x4 (n_0 : Int) (longer_4 : Sl) (t10 : Int) (t11 : Int) (t14 : Sl) (t15 : Int) (t16 : Int) : Env := [(0, vI n_0), (4, Sl.v longer_4), (10, vI t10), (11, vI t11), (14, Sl.v t14), (15, vI t15), (16, vI t16)]
def x2 (n_0 : Int) (longer_4 : Sl) (t10 : Int) (t11 : Int) : Env := [(0, vI n_0), (4, Sl.v longer_4), (10, vI t10), (11, vI t11)]
def x0 (out_3 : Sl) : Env := [(3, Sl.v out_3)]
def S9 (pr : Prims) (Q : Exit → Env → World → Prop) : (Env → World → Prop) → Env → World → Prop := fun k e w => wpC pr PP cfg (DD pr) (sub (codeOf Try.f39) [1, 1, 0, 1, 0, 0, 1, 1, 0, 0, 1, 0, 1, 0, 0, 1, 1, 0, 0, 1, 1, 0, 0]) (fun ex e w => normQ ex (fun e' w' => k (Env.restr e' (lookN cfg.loops (keyOf (sub (codeOf Try.f39) [1, 1, 0, 1, 0, 0, 1, 1, 0, 0, 1, 0, 1, 0, 0, 1, 1, 0, 0, 1, 1, 0, 0])))) w') Q e w) e w
def S6 (pr : Prims) (Q : Exit → Env → World → Prop) : (Env → World → Prop) → Env → World → Prop := fun k e w => wpC pr PP cfg (DD pr) (sub (codeOf Try.f39) [1, 1, 0, 1, 0, 0, 1, 1, 0, 0, 1, 0, 1, 0, 0]) (fun ex e w => normQ ex (fun e' w' => k (Env.restr e' (lookN cfg.loops (keyOf (sub (codeOf Try.f39) [1, 1, 0, 1, 0, 0, 1, 1, 0, 0, 1, 0, 1, 0, 0])))) w') Q e w) e w
def S3 (pr : Prims) (Q : Exit → Env → World → Prop) : (Env → World → Prop) → Env → World → Prop := fun k e w => wpC pr PP cfg (DD pr) (sub (codeOf Try.f39) [1, 1, 0, 1, 0, 0]) (fun ex e w => normQ ex (fun e' w' => k (Env.restr e' (lookN cfg.loops (keyOf (sub (codeOf Try.f39) [1, 1, 0, 1, 0, 0])))) w') Q e w) e w
def B9 (pr : Prims) (n_0 : Int) (longer_4 : Sl) (p_6 : Sl) (v_7 : Int) (t10 : Int) (t11 : Int) (t14 : Sl) (t15 : Int) (t16 : Int) (w : World) (k : Env → World → Prop) (Q : Exit → Env → World → Prop) : Prop :=
  S9 pr Q k (emb9 n_0 longer_4 p_6 v_7 t10 t11 t14 t15 t16) w
def L9 (pr : Prims) (n_0 : Int) (longer_4 : Sl) (p_6 : Sl) (v_7 : Int) (t10 : Int) (t11 : Int) (t14 : Sl) (t15 : Int) (t16 : Int) (w : World) (Q : Exit → Env → World → Prop) : Prop :=
  pr.loop (S9 pr Q) (emb9 n_0 longer_4 p_6 v_7 t10 t11 t14 t15 t16) w
def B6 (pr : Prims) (n_0 : Int) (longer_4 : Sl) (t10 : Int) (t11 : Int) (t14 : Sl) (t15 : Int) (t16 : Int) (w : World) (k : Env → World → Prop) (Q : Exit → Env → World → Prop) : Prop :=
  S6 pr Q k (emb6 n_0 longer_4 t10 t11 t14 t15 t16) w
def L6 (pr : Prims) (n_0 : Int) (longer_4 : Sl) (t10 : Int) (t11 : Int) (t14 : Sl) (t15 : Int) (t16 : Int) (w : World) (Q : Exit → Env → World → Prop) : Prop :=
  pr.loop (S6 pr Q) (emb6 n_0 longer_4 t10 t11 t14 t15 t16) w
def B3 (pr : Prims) (n_0 : Int) (out_3 : Sl) (t10 : Int) (t11 : Int) (w : World) (k : Env → World → Prop) (Q : Exit → Env → World → Prop) : Prop :=
  S3 pr Q k (emb3 n_0 out_3 t10 t11) w
def L3 (pr : Prims) (n_0 : Int) (out_3 : Sl) (t10 : Int) (t11 : Int) (w : World) (Q : Exit → Env → World → Prop) : Prop :=
  pr.loop (S3 pr Q) (emb3 n_0 out_3 t10 t11) w
def E (pr : Prims) (n_0 : Int) (w : World) (R : Ending → World → Prop) : Prop :=
  wpC pr PP cfg (DD pr) (codeOf Try.f39) (retQ Try.f39.results.toList R) (argE 0 [vI n_0]) w
theorem B9_eq (pr : Prims) (n_0 : Int) (longer_4 : Sl) (p_6 : Sl) (v_7 : Int) (t10 : Int) (t11 : Int) (t14 : Sl) (t15 : Int) (t16 : Int) (w : World) (k : Env → World → Prop) (Q : Exit → Env → World → Prop) : B9 pr n_0 longer_4 p_6 v_7 t10 t11 t14 t15 t16 w k Q = (
  bif decide (v_7 ≤ n_0) then (
  pr.call1 .bool PP F.slices_Contains___int_int_ #[Sl.v p_6, vI v_7] w fun (ρ17 : Bool) ω18 =>
  bif !ρ17 then (
  pr.call1 .sl PP F.slices_Clone___int_int_ #[Sl.v p_6] ω18 fun (ρ19 : Sl) ω20 =>
  pr.sem1 .sl PP (Instr.buildSlice T_Sint 1 #[(0, vI v_7)]) ω20 fun (ρ21 : Sl) ω22 =>
  pr.sem1 .sl PP (Builtin.append_ #[T_Sint, T_Sint] T_Sint #[Sl.v ρ19, Sl.v ρ21]) ω22 fun (ρ23 : Sl) ω24 =>
  pr.sem1 .sl PP (Instr.buildSlice T_SSint 1 #[(0, Sl.v ρ23)]) ω24 fun (ρ25 : Sl) ω26 =>
  pr.sem1 .sl PP (Builtin.append_ #[T_SSint, T_SSint] T_SSint #[Sl.v longer_4, Sl.v ρ25]) ω26 fun (ρ27 : Sl) ω28 =>
  k (emb9 n_0 ρ27 p_6 (w64 (v_7 + 1)) t10 t11 t14 t15 t16) ω28)
  else (
  k (emb9 n_0 longer_4 p_6 (w64 (v_7 + 1)) t10 t11 t14 t15 t16) ω18))
  else (
  Q (.exit 4) (x4 n_0 longer_4 t10 t11 t14 t15 t16) w)) := by kernel_rfl
theorem B9_s (n_0 : Int) (longer_4 : Sl) (p_6 : Sl) (v_7 : Int) (t10 : Int) (t11 : Int) (t14 : Sl) (t15 : Int) (t16 : Int) (w : World) (k : Env → World → Prop) (Q : Exit → Env → World → Prop) : B9 std n_0 longer_4 p_6 v_7 t10 t11 t14 t15 t16 w k Q = (
  bif decide (v_7 ≤ n_0) then (
  call1 .bool PP F.slices_Contains___int_int_ #[Sl.v p_6, vI v_7] w fun (ρ17 : Bool) ω18 =>
  bif !ρ17 then (
  call1 .sl PP F.slices_Clone___int_int_ #[Sl.v p_6] ω18 fun (ρ19 : Sl) ω20 =>
  sem1 .sl PP (Instr.buildSlice T_Sint 1 #[(0, vI v_7)]) ω20 fun (ρ21 : Sl) ω22 =>
  sem1 .sl PP (Builtin.append_ #[T_Sint, T_Sint] T_Sint #[Sl.v ρ19, Sl.v ρ21]) ω22 fun (ρ23 : Sl) ω24 =>
  sem1 .sl PP (Instr.buildSlice T_SSint 1 #[(0, Sl.v ρ23)]) ω24 fun (ρ25 : Sl) ω26 =>
  sem1 .sl PP (Builtin.append_ #[T_SSint, T_SSint] T_SSint #[Sl.v longer_4, Sl.v ρ25]) ω26 fun (ρ27 : Sl) ω28 =>
  k (emb9 n_0 ρ27 p_6 (w64 (v_7 + 1)) t10 t11 t14 t15 t16) ω28)
  else (
  k (emb9 n_0 longer_4 p_6 (w64 (v_7 + 1)) t10 t11 t14 t15 t16) ω18))
  else (
  Q (.exit 4) (x4 n_0 longer_4 t10 t11 t14 t15 t16) w)) := B9_eq std n_0 longer_4 p_6 v_7 t10 t11 t14 t15 t16 w k Q
theorem L9_rule (n_0 : Int) (longer_4 : Sl) (p_6 : Sl) (v_7 : Int) (t10 : Int) (t11 : Int) (t14 : Sl) (t15 : Int) (t16 : Int) (w : World) (Q : Exit → Env → World → Prop) (I : Sl → Int → World → Prop) (μ : Sl → Int → World → Nat) (h0 : I longer_4 v_7 w)
    (h : ∀ (longer_4 : Sl) (v_7 : Int) (w' : World), I longer_4 v_7 w' → B9 std n_0 longer_4 p_6 v_7 t10 t11 t14 t15 t16 w' (fun e2 w2 => ∃ longer_4_n v_7_n, e2 = emb9 n_0 longer_4_n p_6 v_7_n t10 t11 t14 t15 t16 ∧ I longer_4_n v_7_n w2 ∧ μ longer_4_n v_7_n w2 < μ longer_4 v_7 w') Q) :
    L9 std n_0 longer_4 p_6 v_7 t10 t11 t14 t15 t16 w Q := by
  unfold L9
  refine LoopE.intro (σ := Sl × Int) (step := S9 std Q) (fun s => emb9 n_0 s.1 p_6 s.2 t10 t11 t14 t15 t16) (fun s w => I s.1 s.2 w) (fun s w => μ s.1 s.2 w) (longer_4, v_7) rfl h0 ?_
  intro s w' hI
  have h1 := h s.1 s.2 w' hI
  unfold B9 at h1
  simp only [Prod.exists]
  exact h1
theorem A9_4_eq (pr : Prims) (n_0 : Int) (longer_4 : Sl) (t10 : Int) (t11 : Int) (t14 : Sl) (t15 : Int) (t16 : Int) (w : World) (k : Env → World → Prop) (Q : Exit → Env → World → Prop) : (q16 pr k Q) (.exit 4) (x4 n_0 longer_4 t10 t11 t14 t15 t16) w = (
  k (emb6 n_0 longer_4 t10 t11 t14 t15 (w64 (t16 + 1))) w) := by kernel_rfl
theorem A9_4_s (n_0 : Int) (longer_4 : Sl) (t10 : Int) (t11 : Int) (t14 : Sl) (t15 : Int) (t16 : Int) (w : World) (k : Env → World → Prop) (Q : Exit → Env → World → Prop) : (q16 std k Q) (.exit 4) (x4 n_0 longer_4 t10 t11 t14 t15 t16) w = (
  k (emb6 n_0 longer_4 t10 t11 t14 t15 (w64 (t16 + 1))) w) := A9_4_eq std n_0 longer_4 t10 t11 t14 t15 t16 w k Q
theorem B6_eq (pr : Prims) (n_0 : Int) (longer_4 : Sl) (t10 : Int) (t11 : Int) (t14 : Sl) (t15 : Int) (t16 : Int) (w : World) (k : Env → World → Prop) (Q : Exit → Env → World → Prop) : B6 pr n_0 longer_4 t10 t11 t14 t15 t16 w k Q = (
  bif decide (t16 < t15) then (
  pr.idxK 1 t14 t16 fun (a14 : Addr) =>
  pr.load1 .sl a14 w fun (ξ15 : Sl) =>
  L9 pr n_0 longer_4 ξ15 1 t10 t11 t14 t15 t16 w (q16 pr k Q))
  else (
  Q (.exit 2) (x2 n_0 longer_4 t10 t11) w)) := by kernel_rfl
theorem B6_s (n_0 : Int) (longer_4 : Sl) (t10 : Int) (t11 : Int) (t14 : Sl) (t15 : Int) (t16 : Int) (w : World) (k : Env → World → Prop) (Q : Exit → Env → World → Prop) : B6 std n_0 longer_4 t10 t11 t14 t15 t16 w k Q = (
  bif decide (t16 < t15) then (
  idxK 1 t14 t16 fun (a14 : Addr) =>
  load1 .sl a14 w fun (ξ15 : Sl) =>
  L9 std n_0 longer_4 ξ15 1 t10 t11 t14 t15 t16 w (q16 std k Q))
  else (
  Q (.exit 2) (x2 n_0 longer_4 t10 t11) w)) := B6_eq std n_0 longer_4 t10 t11 t14 t15 t16 w k Q
theorem L6_rule (n_0 : Int) (longer_4 : Sl) (t10 : Int) (t11 : Int) (t14 : Sl) (t15 : Int) (t16 : Int) (w : World) (Q : Exit → Env → World → Prop) (I : Sl → Int → World → Prop) (μ : Sl → Int → World → Nat) (h0 : I longer_4 t16 w)
    (h : ∀ (longer_4 : Sl) (t16 : Int) (w' : World), I longer_4 t16 w' → B6 std n_0 longer_4 t10 t11 t14 t15 t16 w' (fun e2 w2 => ∃ longer_4_n t16_n, e2 = emb6 n_0 longer_4_n t10 t11 t14 t15 t16_n ∧ I longer_4_n t16_n w2 ∧ μ longer_4_n t16_n w2 < μ longer_4 t16 w') Q) :
    L6 std n_0 longer_4 t10 t11 t14 t15 t16 w Q := by
  unfold L6
  refine LoopE.intro (σ := Sl × Int) (step := S6 std Q) (fun s => emb6 n_0 s.1 t10 t11 t14 t15 s.2) (fun s w => I s.1 s.2 w) (fun s w => μ s.1 s.2 w) (longer_4, t16) rfl h0 ?_
  intro s w' hI
  have h1 := h s.1 s.2 w' hI
  unfold B6 at h1
  simp only [Prod.exists]
  exact h1
theorem A6_2_eq (pr : Prims) (n_0 : Int) (longer_4 : Sl) (t10 : Int) (t11 : Int) (w : World) (k : Env → World → Prop) (Q : Exit → Env → World → Prop) : (q11 pr k Q) (.exit 2) (x2 n_0 longer_4 t10 t11) w = (
  k (emb3 n_0 longer_4 t10 (w64 (t11 + 1))) w) := by kernel_rfl
theorem A6_2_s (n_0 : Int) (longer_4 : Sl) (t10 : Int) (t11 : Int) (w : World) (k : Env → World → Prop) (Q : Exit → Env → World → Prop) : (q11 std k Q) (.exit 2) (x2 n_0 longer_4 t10 t11) w = (
  k (emb3 n_0 longer_4 t10 (w64 (t11 + 1))) w) := A6_2_eq std n_0 longer_4 t10 t11 w k Q
theorem A6_4_eq (pr : Prims) (n_0 : Int) (longer_4 : Sl) (t10 : Int) (t11 : Int) (t14 : Sl) (t15 : Int) (t16 : Int) (w : World) (k : Env → World → Prop) (Q : Exit → Env → World → Prop) : (q11 pr k Q) (.exit 4) (x4 n_0 longer_4 t10 t11 t14 t15 t16) w = (
  Q (.exit 4) (x4 n_0 longer_4 t10 t11 t14 t15 t16) w) := by kernel_rfl
theorem A6_4_s (n_0 : Int) (longer_4 : Sl) (t10 : Int) (t11 : Int) (t14 : Sl) (t15 : Int) (t16 : Int) (w : World) (k : Env → World → Prop) (Q : Exit → Env → World → Prop) : (q11 std k Q) (.exit 4) (x4 n_0 longer_4 t10 t11 t14 t15 t16) w = (
  Q (.exit 4) (x4 n_0 longer_4 t10 t11 t14 t15 t16) w) := A6_4_eq std n_0 longer_4 t10 t11 t14 t15 t16 w k Q
theorem B3_eq (pr : Prims) (n_0 : Int) (out_3 : Sl) (t10 : Int) (t11 : Int) (w : World) (k : Env → World → Prop) (Q : Exit → Env → World → Prop) : B3 pr n_0 out_3 t10 t11 w k Q = (
  bif decide (t11 < t10) then (
  pr.sem1 .sl PP (Instr.buildSlice T_SSint 0 #[]) w fun (ρ8 : Sl) ω9 =>
  L6 pr n_0 ρ8 t10 t11 out_3 (out_3.n : Int) 0 ω9 (q11 pr k Q))
  else (
  Q (.exit 0) (x0 out_3) w)) := by kernel_rfl
theorem B3_s (n_0 : Int) (out_3 : Sl) (t10 : Int) (t11 : Int) (w : World) (k : Env → World → Prop) (Q : Exit → Env → World → Prop) : B3 std n_0 out_3 t10 t11 w k Q = (
  bif decide (t11 < t10) then (
  sem1 .sl PP (Instr.buildSlice T_SSint 0 #[]) w fun (ρ8 : Sl) ω9 =>
  L6 std n_0 ρ8 t10 t11 out_3 (out_3.n : Int) 0 ω9 (q11 std k Q))
  else (
  Q (.exit 0) (x0 out_3) w)) := B3_eq std n_0 out_3 t10 t11 w k Q
theorem L3_rule (n_0 : Int) (out_3 : Sl) (t10 : Int) (t11 : Int) (w : World) (Q : Exit → Env → World → Prop) (I : Sl → Int → World → Prop) (μ : Sl → Int → World → Nat) (h0 : I out_3 t11 w)
    (h : ∀ (out_3 : Sl) (t11 : Int) (w' : World), I out_3 t11 w' → B3 std n_0 out_3 t10 t11 w' (fun e2 w2 => ∃ out_3_n t11_n, e2 = emb3 n_0 out_3_n t10 t11_n ∧ I out_3_n t11_n w2 ∧ μ out_3_n t11_n w2 < μ out_3 t11 w') Q) :
    L3 std n_0 out_3 t10 t11 w Q := by
  unfold L3
  refine LoopE.intro (σ := Sl × Int) (step := S3 std Q) (fun s => emb3 n_0 s.1 t10 s.2) (fun s w => I s.1 s.2 w) (fun s w => μ s.1 s.2 w) (out_3, t11) rfl h0 ?_
  intro s w' hI
  have h1 := h s.1 s.2 w' hI
  unfold B3 at h1
  simp only [Prod.exists]
  exact h1
theorem A3_0_eq (pr : Prims) (out_3 : Sl) (w : World) (R : Ending → World → Prop) : (q5 pr R) (.exit 0) (x0 out_3) w = (
  R (.returned (Sl.v out_3)) w) := by kernel_rfl
theorem A3_0_s (out_3 : Sl) (w : World) (R : Ending → World → Prop) : (q5 std R) (.exit 0) (x0 out_3) w = (
  R (.returned (Sl.v out_3)) w) := A3_0_eq std out_3 w R
theorem E_eq (pr : Prims) (n_0 : Int) (w : World) (R : Ending → World → Prop) : E pr n_0 w R = (
  pr.sem1 .sl PP (Instr.buildSlice T_Sint 0 #[]) w fun (ρ0 : Sl) ω1 =>
  pr.sem1 .sl PP (Instr.buildSlice T_SSint 1 #[(0, Sl.v ρ0)]) ω1 fun (ρ2 : Sl) ω3 =>
  L3 pr n_0 ρ2 n_0 0 ω3 (q5 pr R)) := by kernel_rfl
theorem E_s (n_0 : Int) (w : World) (R : Ending → World → Prop) : E std n_0 w R = (
  sem1 .sl PP (Instr.buildSlice T_Sint 0 #[]) w fun (ρ0 : Sl) ω1 =>
  sem1 .sl PP (Instr.buildSlice T_SSint 1 #[(0, Sl.v ρ0)]) ω1 fun (ρ2 : Sl) ω3 =>
  L3 std n_0 ρ2 n_0 0 ω3 (q5 std R)) := E_eq std n_0 w R
theorem drawsOk : drawsOk PP cfg okD (codeOf Try.f39) = true := by kernel_rfl
theorem calls (n_0 : Int) {w : World} {R : Ending → World → Prop} (h : E std n_0 w R) : Calls PP F.impl_perms #[vI n_0] w R :=
  calls_of noCount mixed drawOk Try.func39 rfl (c := cfg) (args := [vI n_0]) rfl (Nat.le_of_ble_eq_true (by kernel_rfl)) drawsOk h
end impl_perms

namespace slices_Contains___int_int_
@[reducible] def cfg : Cfg := ⟨9, [], [], [], [4], [], [62, 10, 22, 58, 24, 44, 18, 70, 43, 85, 25, 71, 59, 37, 63], [82, 113, 102, 38, 103, 26, 60]⟩
def E (pr : Prims) (s_0 : Sl) (v_1 : Int) (w : World) (R : Ending → World → Prop) : Prop :=
  wpC pr PP cfg (DD pr) (codeOf Try.f70) (retQ Try.f70.results.toList R) (argE 0 [Sl.v s_0, vI v_1]) w
theorem E_eq (pr : Prims) (s_0 : Sl) (v_1 : Int) (w : World) (R : Ending → World → Prop) : E pr s_0 v_1 w R = (
  pr.call1 (.int .i64) PP F.slices_Index___int_int_ #[Sl.v s_0, vI v_1] w fun (ρ0 : Int) ω1 =>
  R (.returned (.bool (decide (ρ0 ≥ 0)))) ω1) := by kernel_rfl
theorem E_s (s_0 : Sl) (v_1 : Int) (w : World) (R : Ending → World → Prop) : E std s_0 v_1 w R = (
  call1 (.int .i64) PP F.slices_Index___int_int_ #[Sl.v s_0, vI v_1] w fun (ρ0 : Int) ω1 =>
  R (.returned (.bool (decide (ρ0 ≥ 0)))) ω1) := E_eq std s_0 v_1 w R
theorem drawsOk : drawsOk PP cfg okD (codeOf Try.f70) = true := by kernel_rfl
theorem calls (s_0 : Sl) (v_1 : Int) {w : World} {R : Ending → World → Prop} (h : E std s_0 v_1 w R) : Calls PP F.slices_Contains___int_int_ #[Sl.v s_0, vI v_1] w R :=
  calls_of noCount mixed drawOk Try.func70 rfl (c := cfg) (args := [Sl.v s_0, vI v_1]) rfl (Nat.le_of_ble_eq_true (by kernel_rfl)) drawsOk h
end slices_Contains___int_int_

namespace slices_Index___int_int_
@[reducible] def cfg : Cfg := ⟨19, [(2, [0, 1, 7, 8])], [(1, [0, 1, 7, 8]), (0, [])], [], [4], [], [62, 10, 22, 58, 24, 44, 18, 70, 43, 85, 25, 71, 59, 37, 63], [82, 113, 102, 38, 103, 26, 60]⟩
def q0 (pr : Prims) (R : Ending → World → Prop) : Exit → Env → World → Prop := fun ex e w => normQ ex (fun e w => contE pr cfg (sub (codeOf Try.f85) [1, 1]) (fun e w => wpC pr PP cfg (DD pr) (sub (codeOf Try.f85) [1, 1]) (retQ Try.f85.results.toList R) e w) e w) (retQ Try.f85.results.toList R) e w
def q1 (pr : Prims) (R : Ending → World → Prop) : Exit → Env → World → Prop := fun ex e w => blockQ ex 0 (q0 pr R) e w
def emb2 (s_0 : Sl) (v_1 : Int) (t7 : Int) (t8 : Int) : Env := [(0, Sl.v s_0), (1, vI v_1), (7, vI t7), (8, vI t8)]
def x0 : Env := []
def S2 (pr : Prims) (Q : Exit → Env → World → Prop) : (Env → World → Prop) → Env → World → Prop := fun k e w => wpC pr PP cfg (DD pr) (sub (codeOf Try.f85) [1, 0, 1, 0, 0]) (fun ex e w => normQ ex (fun e' w' => k (Env.restr e' (lookN cfg.loops (keyOf (sub (codeOf Try.f85) [1, 0, 1, 0, 0])))) w') Q e w) e w
def B2 (pr : Prims) (s_0 : Sl) (v_1 : Int) (t7 : Int) (t8 : Int) (w : World) (k : Env → World → Prop) (Q : Exit → Env → World → Prop) : Prop :=
  S2 pr Q k (emb2 s_0 v_1 t7 t8) w
def L2 (pr : Prims) (s_0 : Sl) (v_1 : Int) (t7 : Int) (t8 : Int) (w : World) (Q : Exit → Env → World → Prop) : Prop :=
  pr.loop (S2 pr Q) (emb2 s_0 v_1 t7 t8) w
def E (pr : Prims) (s_0 : Sl) (v_1 : Int) (w : World) (R : Ending → World → Prop) : Prop :=
  wpC pr PP cfg (DD pr) (codeOf Try.f85) (retQ Try.f85.results.toList R) (argE 0 [Sl.v s_0, vI v_1]) w
theorem B2_eq (pr : Prims) (s_0 : Sl) (v_1 : Int) (t7 : Int) (t8 : Int) (w : World) (k : Env → World → Prop) (Q : Exit → Env → World → Prop) : B2 pr s_0 v_1 t7 t8 w k Q = (
  bif decide (t8 < t7) then (
  pr.idxK 1 s_0 t8 fun (a2 : Addr) =>
  pr.load1 (.int .i64) a2 w fun (ξ3 : Int) =>
  bif v_1 == ξ3 then (
  Q .ret [(4, vI t8)] w)
  else (
  k (emb2 s_0 v_1 t7 (w64 (t8 + 1))) w))
  else (
  Q (.exit 0) (x0) w)) := by kernel_rfl
theorem B2_s (s_0 : Sl) (v_1 : Int) (t7 : Int) (t8 : Int) (w : World) (k : Env → World → Prop) (Q : Exit → Env → World → Prop) : B2 std s_0 v_1 t7 t8 w k Q = (
  bif decide (t8 < t7) then (
  idxK 1 s_0 t8 fun (a2 : Addr) =>
  load1 (.int .i64) a2 w fun (ξ3 : Int) =>
  bif v_1 == ξ3 then (
  Q .ret [(4, vI t8)] w)
  else (
  k (emb2 s_0 v_1 t7 (w64 (t8 + 1))) w))
  else (
  Q (.exit 0) (x0) w)) := B2_eq std s_0 v_1 t7 t8 w k Q
theorem L2_rule (s_0 : Sl) (v_1 : Int) (t7 : Int) (t8 : Int) (w : World) (Q : Exit → Env → World → Prop) (I : Int → World → Prop) (μ : Int → World → Nat) (h0 : I t8 w)
    (h : ∀ (t8 : Int) (w' : World), I t8 w' → B2 std s_0 v_1 t7 t8 w' (fun e2 w2 => ∃ t8_n, e2 = emb2 s_0 v_1 t7 t8_n ∧ I t8_n w2 ∧ μ t8_n w2 < μ t8 w') Q) :
    L2 std s_0 v_1 t7 t8 w Q := by
  unfold L2
  refine LoopE.intro (σ := Int) (step := S2 std Q) (fun s => emb2 s_0 v_1 t7 s) (fun s w => I s w) (fun s w => μ s w) t8 rfl h0 ?_
  intro s w' hI
  have h1 := h s w' hI
  unfold B2 at h1
  exact h1
theorem A2_0_eq (pr : Prims) (w : World) (R : Ending → World → Prop) : (q1 pr R) (.exit 0) (x0) w = (
  R (.returned (vI (-1))) w) := by kernel_rfl
theorem A2_0_s (w : World) (R : Ending → World → Prop) : (q1 std R) (.exit 0) (x0) w = (
  R (.returned (vI (-1))) w) := A2_0_eq std w R
theorem R2_eq (pr : Prims) (v4 : Value) (w : World) (R : Ending → World → Prop) : (q1 pr R) .ret [(4, v4)] w = (
  R (.returned (v4)) w) := by kernel_rfl
theorem R2_s (v4 : Value) (w : World) (R : Ending → World → Prop) : (q1 std R) .ret [(4, v4)] w = (
  R (.returned (v4)) w) := R2_eq std v4 w R
theorem E_eq (pr : Prims) (s_0 : Sl) (v_1 : Int) (w : World) (R : Ending → World → Prop) : E pr s_0 v_1 w R = (
  L2 pr s_0 v_1 (s_0.n : Int) 0 w (q1 pr R)) := by kernel_rfl
theorem E_s (s_0 : Sl) (v_1 : Int) (w : World) (R : Ending → World → Prop) : E std s_0 v_1 w R = (
  L2 std s_0 v_1 (s_0.n : Int) 0 w (q1 std R)) := E_eq std s_0 v_1 w R
theorem drawsOk : drawsOk PP cfg okD (codeOf Try.f85) = true := by kernel_rfl
theorem calls (s_0 : Sl) (v_1 : Int) {w : World} {R : Ending → World → Prop} (h : E std s_0 v_1 w R) : Calls PP F.slices_Index___int_int_ #[Sl.v s_0, vI v_1] w R :=
  calls_of noCount mixed drawOk Try.func85 rfl (c := cfg) (args := [Sl.v s_0, vI v_1]) rfl (Nat.le_of_ble_eq_true (by kernel_rfl)) drawsOk h
end slices_Index___int_int_

namespace spec_l2Fill
@[reducible] def cfg : Cfg := ⟨35, [(4, [0, 1, 2, 7])], [(1, [0, 1, 2, 7]), (0, [2])], [], [6], [], [62, 10, 22, 58, 24, 44, 18, 70, 43, 85, 25, 71, 59, 37, 63], [82, 113, 102, 38, 103, 26, 60]⟩
def q4 (pr : Prims) (R : Ending → World → Prop) : Exit → Env → World → Prop := fun ex e w => normQ ex (fun e w => contE pr cfg (sub (codeOf Try.f68) [1, 1, 1]) (fun e w => wpC pr PP cfg (DD pr) (sub (codeOf Try.f68) [1, 1, 1]) (retQ Try.f68.results.toList R) e w) e w) (retQ Try.f68.results.toList R) e w
def q5 (pr : Prims) (R : Ending → World → Prop) : Exit → Env → World → Prop := fun ex e w => blockQ ex 0 (q4 pr R) e w
def emb4 (n_0 : Int) (head_1 : Sl) (out_2 : Sl) (v_7 : Int) : Env := [(0, vI n_0), (1, Sl.v head_1), (2, Sl.v out_2), (7, vI v_7)]
def x0 (out_2 : Sl) : Env := [(2, Sl.v out_2)]
def S4 (pr : Prims) (Q : Exit → Env → World → Prop) : (Env → World → Prop) → Env → World → Prop := fun k e w => wpC pr PP cfg (DD pr) (sub (codeOf Try.f68) [1, 1, 0, 1, 0, 0]) (fun ex e w => normQ ex (fun e' w' => k (Env.restr e' (lookN cfg.loops (keyOf (sub (codeOf Try.f68) [1, 1, 0, 1, 0, 0])))) w') Q e w) e w
def B4 (pr : Prims) (n_0 : Int) (head_1 : Sl) (out_2 : Sl) (v_7 : Int) (w : World) (k : Env → World → Prop) (Q : Exit → Env → World → Prop) : Prop :=
  S4 pr Q k (emb4 n_0 head_1 out_2 v_7) w
def L4 (pr : Prims) (n_0 : Int) (head_1 : Sl) (out_2 : Sl) (v_7 : Int) (w : World) (Q : Exit → Env → World → Prop) : Prop :=
  pr.loop (S4 pr Q) (emb4 n_0 head_1 out_2 v_7) w
def E (pr : Prims) (n_0 : Int) (head_1 : Sl) (out_2 : Sl) (w : World) (R : Ending → World → Prop) : Prop :=
  wpC pr PP cfg (DD pr) (codeOf Try.f68) (retQ Try.f68.results.toList R) (argE 0 [vI n_0, Sl.v head_1, Sl.v out_2]) w
theorem B4_eq (pr : Prims) (n_0 : Int) (head_1 : Sl) (out_2 : Sl) (v_7 : Int) (w : World) (k : Env → World → Prop) (Q : Exit → Env → World → Prop) : B4 pr n_0 head_1 out_2 v_7 w k Q = (
  bif decide (v_7 ≤ n_0) then (
  pr.call1 .bool PP F.spec_l2Has #[Sl.v head_1, vI v_7] w fun (ρ6 : Bool) ω7 =>
  bif !ρ6 then (
  pr.sem1 .sl PP (Instr.buildSlice T_Sint 0 #[]) ω7 fun (ρ8 : Sl) ω9 =>
  pr.sem1 .sl PP (Builtin.append_ #[T_Sint, T_Sint] T_Sint #[Sl.v ρ8, Sl.v head_1]) ω9 fun (ρ10 : Sl) ω11 =>
  pr.sem1 .sl PP (Instr.buildSlice T_Sint 1 #[(0, vI v_7)]) ω11 fun (ρ12 : Sl) ω13 =>
  pr.sem1 .sl PP (Builtin.append_ #[T_Sint, T_Sint] T_Sint #[Sl.v ρ10, Sl.v ρ12]) ω13 fun (ρ14 : Sl) ω15 =>
  pr.call1 .sl PP F.spec_l2Fill #[vI n_0, Sl.v ρ14, Sl.v out_2] ω15 fun (ρ16 : Sl) ω17 =>
  k (emb4 n_0 head_1 ρ16 (w64 (v_7 + 1))) ω17)
  else (
  k (emb4 n_0 head_1 out_2 (w64 (v_7 + 1))) ω7))
  else (
  Q (.exit 0) (x0 out_2) w)) := by kernel_rfl
theorem B4_s (n_0 : Int) (head_1 : Sl) (out_2 : Sl) (v_7 : Int) (w : World) (k : Env → World → Prop) (Q : Exit → Env → World → Prop) : B4 std n_0 head_1 out_2 v_7 w k Q = (
  bif decide (v_7 ≤ n_0) then (
  call1 .bool PP F.spec_l2Has #[Sl.v head_1, vI v_7] w fun (ρ6 : Bool) ω7 =>
  bif !ρ6 then (
  sem1 .sl PP (Instr.buildSlice T_Sint 0 #[]) ω7 fun (ρ8 : Sl) ω9 =>
  sem1 .sl PP (Builtin.append_ #[T_Sint, T_Sint] T_Sint #[Sl.v ρ8, Sl.v head_1]) ω9 fun (ρ10 : Sl) ω11 =>
  sem1 .sl PP (Instr.buildSlice T_Sint 1 #[(0, vI v_7)]) ω11 fun (ρ12 : Sl) ω13 =>
  sem1 .sl PP (Builtin.append_ #[T_Sint, T_Sint] T_Sint #[Sl.v ρ10, Sl.v ρ12]) ω13 fun (ρ14 : Sl) ω15 =>
  call1 .sl PP F.spec_l2Fill #[vI n_0, Sl.v ρ14, Sl.v out_2] ω15 fun (ρ16 : Sl) ω17 =>
  k (emb4 n_0 head_1 ρ16 (w64 (v_7 + 1))) ω17)
  else (
  k (emb4 n_0 head_1 out_2 (w64 (v_7 + 1))) ω7))
  else (
  Q (.exit 0) (x0 out_2) w)) := B4_eq std n_0 head_1 out_2 v_7 w k Q
theorem L4_rule (n_0 : Int) (head_1 : Sl) (out_2 : Sl) (v_7 : Int) (w : World) (Q : Exit → Env → World → Prop) (I : Sl → Int → World → Prop) (μ : Sl → Int → World → Nat) (h0 : I out_2 v_7 w)
    (h : ∀ (out_2 : Sl) (v_7 : Int) (w' : World), I out_2 v_7 w' → B4 std n_0 head_1 out_2 v_7 w' (fun e2 w2 => ∃ out_2_n v_7_n, e2 = emb4 n_0 head_1 out_2_n v_7_n ∧ I out_2_n v_7_n w2 ∧ μ out_2_n v_7_n w2 < μ out_2 v_7 w') Q) :
    L4 std n_0 head_1 out_2 v_7 w Q := by
  unfold L4
  refine LoopE.intro (σ := Sl × Int) (step := S4 std Q) (fun s => emb4 n_0 head_1 s.1 s.2) (fun s w => I s.1 s.2 w) (fun s w => μ s.1 s.2 w) (out_2, v_7) rfl h0 ?_
  intro s w' hI
  have h1 := h s.1 s.2 w' hI
  unfold B4 at h1
  simp only [Prod.exists]
  exact h1
theorem A4_0_eq (pr : Prims) (out_2 : Sl) (w : World) (R : Ending → World → Prop) : (q5 pr R) (.exit 0) (x0 out_2) w = (
  R (.returned (Sl.v out_2)) w) := by kernel_rfl
theorem A4_0_s (out_2 : Sl) (w : World) (R : Ending → World → Prop) : (q5 std R) (.exit 0) (x0 out_2) w = (
  R (.returned (Sl.v out_2)) w) := A4_0_eq std out_2 w R
theorem E_eq (pr : Prims) (n_0 : Int) (head_1 : Sl) (out_2 : Sl) (w : World) (R : Ending → World → Prop) : E pr n_0 head_1 out_2 w R = (
  bif (head_1.n : Int) == n_0 then (
  pr.sem1 .sl PP (Instr.buildSlice T_SSint 1 #[(0, Sl.v head_1)]) w fun (ρ0 : Sl) ω1 =>
  pr.sem1 .sl PP (Builtin.append_ #[T_SSint, T_SSint] T_SSint #[Sl.v out_2, Sl.v ρ0]) ω1 fun (ρ2 : Sl) ω3 =>
  R (.returned (Sl.v ρ2)) ω3)
  else (
  L4 pr n_0 head_1 out_2 1 w (q5 pr R))) := by kernel_rfl
theorem E_s (n_0 : Int) (head_1 : Sl) (out_2 : Sl) (w : World) (R : Ending → World → Prop) : E std n_0 head_1 out_2 w R = (
  bif (head_1.n : Int) == n_0 then (
  sem1 .sl PP (Instr.buildSlice T_SSint 1 #[(0, Sl.v head_1)]) w fun (ρ0 : Sl) ω1 =>
  sem1 .sl PP (Builtin.append_ #[T_SSint, T_SSint] T_SSint #[Sl.v out_2, Sl.v ρ0]) ω1 fun (ρ2 : Sl) ω3 =>
  R (.returned (Sl.v ρ2)) ω3)
  else (
  L4 std n_0 head_1 out_2 1 w (q5 std R))) := E_eq std n_0 head_1 out_2 w R
theorem drawsOk : drawsOk PP cfg okD (codeOf Try.f68) = true := by kernel_rfl
theorem calls (n_0 : Int) (head_1 : Sl) (out_2 : Sl) {w : World} {R : Ending → World → Prop} (h : E std n_0 head_1 out_2 w R) : Calls PP F.spec_l2Fill #[vI n_0, Sl.v head_1, Sl.v out_2] w R :=
  calls_of noCount mixed drawOk Try.func68 rfl (c := cfg) (args := [vI n_0, Sl.v head_1, Sl.v out_2]) rfl (Nat.le_of_ble_eq_true (by kernel_rfl)) drawsOk h
end spec_l2Fill

namespace spec_PermsOf
@[reducible] def cfg : Cfg := ⟨11, [], [], [], [2], [], [62, 10, 22, 58, 24, 44, 18, 70, 43, 85, 25, 71, 59, 37, 63], [82, 113, 102, 38, 103, 26, 60]⟩
def E (pr : Prims) (n_0 : Int) (w : World) (R : Ending → World → Prop) : Prop :=
  wpC pr PP cfg (DD pr) (codeOf Try.f35) (retQ Try.f35.results.toList R) (argE 0 [vI n_0]) w
theorem E_eq (pr : Prims) (n_0 : Int) (w : World) (R : Ending → World → Prop) : E pr n_0 w R = (
  pr.pcall1 .bool PP F.spec_l1In #[vI n_0, vI 0, vI 6] fun (ρ0 : Bool) =>
  bif !ρ0 then (
  pr.sem1 .sl PP (Instr.buildSlice T_SSint 0 #[]) w fun (ρ1 : Sl) ω2 =>
  R (.returned (Sl.v ρ1)) ω2)
  else (
  pr.sem1 .sl PP (Instr.buildSlice T_Sint 0 #[]) w fun (ρ3 : Sl) ω4 =>
  pr.sem1 .sl PP (Instr.buildSlice T_SSint 0 #[]) ω4 fun (ρ5 : Sl) ω6 =>
  pr.call1 .sl PP F.spec_l2Fill #[vI n_0, Sl.v ρ3, Sl.v ρ5] ω6 fun (ρ7 : Sl) ω8 =>
  R (.returned (Sl.v ρ7)) ω8)) := by kernel_rfl
theorem E_s (n_0 : Int) (w : World) (R : Ending → World → Prop) : E std n_0 w R = (
  pcall1 .bool PP F.spec_l1In #[vI n_0, vI 0, vI 6] fun (ρ0 : Bool) =>
  bif !ρ0 then (
  sem1 .sl PP (Instr.buildSlice T_SSint 0 #[]) w fun (ρ1 : Sl) ω2 =>
  R (.returned (Sl.v ρ1)) ω2)
  else (
  sem1 .sl PP (Instr.buildSlice T_Sint 0 #[]) w fun (ρ3 : Sl) ω4 =>
  sem1 .sl PP (Instr.buildSlice T_SSint 0 #[]) ω4 fun (ρ5 : Sl) ω6 =>
  call1 .sl PP F.spec_l2Fill #[vI n_0, Sl.v ρ3, Sl.v ρ5] ω6 fun (ρ7 : Sl) ω8 =>
  R (.returned (Sl.v ρ7)) ω8)) := E_eq std n_0 w R
theorem drawsOk : drawsOk PP cfg okD (codeOf Try.f35) = true := by kernel_rfl
theorem calls (n_0 : Int) {w : World} {R : Ending → World → Prop} (h : E std n_0 w R) : Calls PP F.spec_PermsOf #[vI n_0] w R :=
  calls_of noCount mixed drawOk Try.func35 rfl (c := cfg) (args := [vI n_0]) rfl (Nat.le_of_ble_eq_true (by kernel_rfl)) drawsOk h
end spec_PermsOf

end Go.Proofs.Ytmhgjfahgemblaa
