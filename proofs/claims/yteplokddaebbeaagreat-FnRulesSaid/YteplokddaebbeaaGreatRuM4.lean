/- The texts CodePe, PermsMath, Perms, ClassMath, Class, ClassCase, RuDraw, CodeLb, CodeSi, InClS, InClI, CodeCh, CodeIn, Ins, Law2, Chi in one (gmerge.py). -/
import Derived.Laws.CopyRow
import Derived.Lib.AppendZerosOnto
import Derived.Lib.Overlaps
import Derived.Test.YteplokddaebbeaaGreatRuM3
/- What each function does, step by step, written by a program (Gen.lean); each equation is checked by the kernel. -/
namespace Go.Proofs.YteplokddaebbeaaGreat
open Go
set_option linter.unusedVariables false
set_option maxRecDepth 100000
namespace impl_perms
@[reducible] def cfg : Cfg := ⟨41, [(9, [0, 4, 6, 7, 10, 11, 14, 15, 16]), (6, [0, 4, 10, 11, 14, 15, 16]), (3, [0, 3, 10, 11])], [(5, [0, 4, 6, 7, 10, 11, 14, 15, 16]), (4, [0, 4, 10, 11, 14, 15, 16]), (3, [0, 4, 10, 11, 14, 15, 16]), (2, [0, 4, 10, 11]), (1, [0, 3, 10, 11]), (0, [3])], [], [2], [], [13, 12, 21, 89, 36, 108, 74, 75, 104, 78, 125], [73, 117, 103, 46, 4, 30, 40]⟩
def q4 (pr : Prims) (R : Ending → World → Prop) : Exit → Env → World → Prop := fun ex e w => normQ ex (fun e w => contE pr cfg (sub (codeOf Tryz.f67) [1, 1, 1]) (fun e w => wpC pr PP cfg (DD pr) (sub (codeOf Tryz.f67) [1, 1, 1]) (retQ Tryz.f67.results.toList R) e w) e w) (retQ Tryz.f67.results.toList R) e w
def q5 (pr : Prims) (R : Ending → World → Prop) : Exit → Env → World → Prop := fun ex e w => blockQ ex 0 (q4 pr R) e w
def q6 (pr : Prims) (k : Env → World → Prop) (Q : Exit → Env → World → Prop) : Exit → Env → World → Prop := fun ex e w => normQ ex (fun e w => contE pr cfg (sub (codeOf Tryz.f67) [1, 1, 0, 1, 0, 0, 1, 1, 1]) (fun e w => wpC pr PP cfg (DD pr) (sub (codeOf Tryz.f67) [1, 1, 0, 1, 0, 0, 1, 1, 1]) (fun ex e w => normQ ex (fun e' w' => k (Env.restr e' (lookN cfg.loops (keyOf (sub (codeOf Tryz.f67) [1, 1, 0, 1, 0, 0])))) w') Q e w) e w) e w) (fun ex e w => normQ ex (fun e' w' => k (Env.restr e' (lookN cfg.loops (keyOf (sub (codeOf Tryz.f67) [1, 1, 0, 1, 0, 0])))) w') Q e w) e w
def q7 (pr : Prims) (k : Env → World → Prop) (Q : Exit → Env → World → Prop) : Exit → Env → World → Prop := fun ex e w => blockQ ex 1 (q6 pr k Q) e w
def q10 (pr : Prims) (k : Env → World → Prop) (Q : Exit → Env → World → Prop) : Exit → Env → World → Prop := fun ex e w => normQ ex (fun e w => contE pr cfg (sub (codeOf Tryz.f67) [1, 1, 0, 1, 0, 0, 1, 1, 0, 0, 1, 1]) (fun e w => wpC pr PP cfg (DD pr) (sub (codeOf Tryz.f67) [1, 1, 0, 1, 0, 0, 1, 1, 0, 0, 1, 1]) (q7 pr k Q) e w) e w) (q7 pr k Q) e w
def q11 (pr : Prims) (k : Env → World → Prop) (Q : Exit → Env → World → Prop) : Exit → Env → World → Prop := fun ex e w => blockQ ex 2 (q10 pr k Q) e w
def q12 (pr : Prims) (k : Env → World → Prop) (Q : Exit → Env → World → Prop) : Exit → Env → World → Prop := fun ex e w => normQ ex (fun e w => contE pr cfg (sub (codeOf Tryz.f67) [1, 1, 0, 1, 0, 0, 1, 1, 0, 0, 1, 0, 1, 0, 0, 1, 1, 1]) (fun e w => wpC pr PP cfg (DD pr) (sub (codeOf Tryz.f67) [1, 1, 0, 1, 0, 0, 1, 1, 0, 0, 1, 0, 1, 0, 0, 1, 1, 1]) (fun ex e w => normQ ex (fun e' w' => k (Env.restr e' (lookN cfg.loops (keyOf (sub (codeOf Tryz.f67) [1, 1, 0, 1, 0, 0, 1, 1, 0, 0, 1, 0, 1, 0, 0])))) w') Q e w) e w) e w) (fun ex e w => normQ ex (fun e' w' => k (Env.restr e' (lookN cfg.loops (keyOf (sub (codeOf Tryz.f67) [1, 1, 0, 1, 0, 0, 1, 1, 0, 0, 1, 0, 1, 0, 0])))) w') Q e w) e w
def q13 (pr : Prims) (k : Env → World → Prop) (Q : Exit → Env → World → Prop) : Exit → Env → World → Prop := fun ex e w => blockQ ex 3 (q12 pr k Q) e w
def q16 (pr : Prims) (k : Env → World → Prop) (Q : Exit → Env → World → Prop) : Exit → Env → World → Prop := fun ex e w => blockQ ex 4 (q13 pr k Q) e w
def emb3 (n_0 : Int) (out_3 : Sl) (t10 : Int) (t11 : Int) : Env := [(0, vI n_0), (3, Sl.v out_3), (10, vI t10), (11, vI t11)]
def emb6 (n_0 : Int) (longer_4 : Sl) (t10 : Int) (t11 : Int) (t14 : Sl) (t15 : Int) (t16 : Int) : Env := [(0, vI n_0), (4, Sl.v longer_4), (10, vI t10), (11, vI t11), (14, Sl.v t14), (15, vI t15), (16, vI t16)]
def emb9 (n_0 : Int) (longer_4 : Sl) (p_6 : Sl) (v_7 : Int) (t10 : Int) (t11 : Int) (t14 : Sl) (t15 : Int) (t16 : Int) : Env := [(0, vI n_0), (4, Sl.v longer_4), (6, Sl.v p_6), (7, vI v_7), (10, vI t10), (11, vI t11), (14, Sl.v t14), (15, vI t15), (16, vI t16)]
def x4 (n_0 : Int) (longer_4 : Sl) (t10 : Int) (t11 : Int) (t14 : Sl) (t15 : Int) (t16 : Int) : Env := [(0, vI n_0), (4, Sl.v longer_4), (10, vI t10), (11, vI t11), (14, Sl.v t14), (15, vI t15), (16, vI t16)]
def x2 (n_0 : Int) (longer_4 : Sl) (t10 : Int) (t11 : Int) : Env := [(0, vI n_0), (4, Sl.v longer_4), (10, vI t10), (11, vI t11)]
def x0 (out_3 : Sl) : Env := [(3, Sl.v out_3)]
def S9 (pr : Prims) (Q : Exit → Env → World → Prop) : (Env → World → Prop) → Env → World → Prop := fun k e w => wpC pr PP cfg (DD pr) (sub (codeOf Tryz.f67) [1, 1, 0, 1, 0, 0, 1, 1, 0, 0, 1, 0, 1, 0, 0, 1, 1, 0, 0, 1, 1, 0, 0]) (fun ex e w => normQ ex (fun e' w' => k (Env.restr e' (lookN cfg.loops (keyOf (sub (codeOf Tryz.f67) [1, 1, 0, 1, 0, 0, 1, 1, 0, 0, 1, 0, 1, 0, 0, 1, 1, 0, 0, 1, 1, 0, 0])))) w') Q e w) e w
def S6 (pr : Prims) (Q : Exit → Env → World → Prop) : (Env → World → Prop) → Env → World → Prop := fun k e w => wpC pr PP cfg (DD pr) (sub (codeOf Tryz.f67) [1, 1, 0, 1, 0, 0, 1, 1, 0, 0, 1, 0, 1, 0, 0]) (fun ex e w => normQ ex (fun e' w' => k (Env.restr e' (lookN cfg.loops (keyOf (sub (codeOf Tryz.f67) [1, 1, 0, 1, 0, 0, 1, 1, 0, 0, 1, 0, 1, 0, 0])))) w') Q e w) e w
def S3 (pr : Prims) (Q : Exit → Env → World → Prop) : (Env → World → Prop) → Env → World → Prop := fun k e w => wpC pr PP cfg (DD pr) (sub (codeOf Tryz.f67) [1, 1, 0, 1, 0, 0]) (fun ex e w => normQ ex (fun e' w' => k (Env.restr e' (lookN cfg.loops (keyOf (sub (codeOf Tryz.f67) [1, 1, 0, 1, 0, 0])))) w') Q e w) e w
def B9 (pr : Prims) (n_0 : Int) (longer_4 : Sl) (p_6 : Sl) (v_7 : Int) (t10 : Int) (t11 : Int) (t14 : Sl) (t15 : Int) (t16 : Int) (w : World) (k : Env → World → Prop) (Q : Exit → Env → World → Prop) : Prop :=
  S9 pr Q k (emb9 n_0 longer_4 p_6 v_7 t10 t11 t14 t15 t16) w
def L9 (pr : Prims) (n_0 : Int) (longer_4 : Sl) (p_6 : Sl) (v_7 : Int) (t10 : Int) (t11 : Int) (t14 : Sl) (t15 : Int) (t16 : Int) (w : World) (Q : Exit → Env → World → Prop) : Prop :=
  pr.loop (S9 pr Q) (emb9 n_0 longer_4 p_6 v_7 t10 t11 t14 t15 t16) w
def B6 (pr : Prims) (n_0 : Int) (longer_4 : Sl) (t10 : Int) (t11 : Int) (t14 : Sl) (t15 : Int) (t16 : Int) (w : World) (k : Env → World → Prop) (Q : Exit → Env → World → Prop) : Prop :=
  S6 pr Q k (emb6 n_0 longer_4 t10 t11 t14 t15 t16) w
def L6 (pr : Prims) (n_0 : Int) (longer_4 : Sl) (t10 : Int) (t11 : Int) (t14 : Sl) (t15 : Int) (t16 : Int) (w : World) (Q : Exit → Env → World → Prop) : Prop :=
  pr.loop (S6 pr Q) (emb6 n_0 longer_4 t10 t11 t14 t15 t16) w
def B3 (pr : Prims) (n_0 : Int) (out_3 : Sl) (t10 : Int) (t11 : Int) (w : World) (k : Env → World → Prop) (Q : Exit → Env → World → Prop) : Prop :=
  S3 pr Q k (emb3 n_0 out_3 t10 t11) w
def L3 (pr : Prims) (n_0 : Int) (out_3 : Sl) (t10 : Int) (t11 : Int) (w : World) (Q : Exit → Env → World → Prop) : Prop :=
  pr.loop (S3 pr Q) (emb3 n_0 out_3 t10 t11) w
def E (pr : Prims) (n_0 : Int) (w : World) (R : Ending → World → Prop) : Prop :=
  wpC pr PP cfg (DD pr) (codeOf Tryz.f67) (retQ Tryz.f67.results.toList R) (argE 0 [vI n_0]) w
theorem B9_eq (pr : Prims) (n_0 : Int) (longer_4 : Sl) (p_6 : Sl) (v_7 : Int) (t10 : Int) (t11 : Int) (t14 : Sl) (t15 : Int) (t16 : Int) (w : World) (k : Env → World → Prop) (Q : Exit → Env → World → Prop) : B9 pr n_0 longer_4 p_6 v_7 t10 t11 t14 t15 t16 w k Q = (
  bif decide (v_7 ≤ n_0) then (
  pr.call1 .bool PP F.slices_Contains___int_int_ #[Sl.v p_6, vI v_7] w fun (ρ17 : Bool) ω18 =>
  bif !ρ17 then (
  pr.call1 .sl PP F.slices_Clone___int_int_ #[Sl.v p_6] ω18 fun (ρ19 : Sl) ω20 =>
  pr.sem1 .sl PP (Instr.buildSlice T_Sint 1 #[(0, vI v_7)]) ω20 fun (ρ21 : Sl) ω22 =>
  pr.sem1 .sl PP (Builtin.append_ #[T_Sint, T_Sint] T_Sint #[Sl.v ρ19, Sl.v ρ21]) ω22 fun (ρ23 : Sl) ω24 =>
  pr.sem1 .sl PP (Instr.buildSlice T_SSint 1 #[(0, Sl.v ρ23)]) ω24 fun (ρ25 : Sl) ω26 =>
  pr.sem1 .sl PP (Builtin.append_ #[T_SSint, T_SSint] T_SSint #[Sl.v longer_4, Sl.v ρ25]) ω26 fun (ρ27 : Sl) ω28 =>
  k (emb9 n_0 ρ27 p_6 (w64 (v_7 + 1)) t10 t11 t14 t15 t16) ω28)
  else (
  k (emb9 n_0 longer_4 p_6 (w64 (v_7 + 1)) t10 t11 t14 t15 t16) ω18))
  else (
  Q (.exit 4) (x4 n_0 longer_4 t10 t11 t14 t15 t16) w)) := by kernel_rfl
theorem B9_s (n_0 : Int) (longer_4 : Sl) (p_6 : Sl) (v_7 : Int) (t10 : Int) (t11 : Int) (t14 : Sl) (t15 : Int) (t16 : Int) (w : World) (k : Env → World → Prop) (Q : Exit → Env → World → Prop) : B9 std n_0 longer_4 p_6 v_7 t10 t11 t14 t15 t16 w k Q = (
  bif decide (v_7 ≤ n_0) then (
  call1 .bool PP F.slices_Contains___int_int_ #[Sl.v p_6, vI v_7] w fun (ρ17 : Bool) ω18 =>
  bif !ρ17 then (
  call1 .sl PP F.slices_Clone___int_int_ #[Sl.v p_6] ω18 fun (ρ19 : Sl) ω20 =>
  sem1 .sl PP (Instr.buildSlice T_Sint 1 #[(0, vI v_7)]) ω20 fun (ρ21 : Sl) ω22 =>
  sem1 .sl PP (Builtin.append_ #[T_Sint, T_Sint] T_Sint #[Sl.v ρ19, Sl.v ρ21]) ω22 fun (ρ23 : Sl) ω24 =>
  sem1 .sl PP (Instr.buildSlice T_SSint 1 #[(0, Sl.v ρ23)]) ω24 fun (ρ25 : Sl) ω26 =>
  sem1 .sl PP (Builtin.append_ #[T_SSint, T_SSint] T_SSint #[Sl.v longer_4, Sl.v ρ25]) ω26 fun (ρ27 : Sl) ω28 =>
  k (emb9 n_0 ρ27 p_6 (w64 (v_7 + 1)) t10 t11 t14 t15 t16) ω28)
  else (
  k (emb9 n_0 longer_4 p_6 (w64 (v_7 + 1)) t10 t11 t14 t15 t16) ω18))
  else (
  Q (.exit 4) (x4 n_0 longer_4 t10 t11 t14 t15 t16) w)) := B9_eq std n_0 longer_4 p_6 v_7 t10 t11 t14 t15 t16 w k Q
theorem L9_rule (n_0 : Int) (longer_4 : Sl) (p_6 : Sl) (v_7 : Int) (t10 : Int) (t11 : Int) (t14 : Sl) (t15 : Int) (t16 : Int) (w : World) (Q : Exit → Env → World → Prop) (I : Sl → Int → World → Prop) (μ : Sl → Int → World → Nat) (h0 : I longer_4 v_7 w)
    (h : ∀ (longer_4 : Sl) (v_7 : Int) (w' : World), I longer_4 v_7 w' → B9 std n_0 longer_4 p_6 v_7 t10 t11 t14 t15 t16 w' (fun e2 w2 => ∃ longer_4_n v_7_n, e2 = emb9 n_0 longer_4_n p_6 v_7_n t10 t11 t14 t15 t16 ∧ I longer_4_n v_7_n w2 ∧ μ longer_4_n v_7_n w2 < μ longer_4 v_7 w') Q) :
    L9 std n_0 longer_4 p_6 v_7 t10 t11 t14 t15 t16 w Q := by
  unfold L9
  refine LoopE.intro (σ := Sl × Int) (step := S9 std Q) (fun s => emb9 n_0 s.1 p_6 s.2 t10 t11 t14 t15 t16) (fun s w => I s.1 s.2 w) (fun s w => μ s.1 s.2 w) (longer_4, v_7) rfl h0 ?_
  intro s w' hI
  have h1 := h s.1 s.2 w' hI
  unfold B9 at h1
  simp only [Prod.exists]
  exact h1
theorem A9_4_eq (pr : Prims) (n_0 : Int) (longer_4 : Sl) (t10 : Int) (t11 : Int) (t14 : Sl) (t15 : Int) (t16 : Int) (w : World) (k : Env → World → Prop) (Q : Exit → Env → World → Prop) : (q16 pr k Q) (.exit 4) (x4 n_0 longer_4 t10 t11 t14 t15 t16) w = (
  k (emb6 n_0 longer_4 t10 t11 t14 t15 (w64 (t16 + 1))) w) := by kernel_rfl
theorem A9_4_s (n_0 : Int) (longer_4 : Sl) (t10 : Int) (t11 : Int) (t14 : Sl) (t15 : Int) (t16 : Int) (w : World) (k : Env → World → Prop) (Q : Exit → Env → World → Prop) : (q16 std k Q) (.exit 4) (x4 n_0 longer_4 t10 t11 t14 t15 t16) w = (
  k (emb6 n_0 longer_4 t10 t11 t14 t15 (w64 (t16 + 1))) w) := A9_4_eq std n_0 longer_4 t10 t11 t14 t15 t16 w k Q
theorem B6_eq (pr : Prims) (n_0 : Int) (longer_4 : Sl) (t10 : Int) (t11 : Int) (t14 : Sl) (t15 : Int) (t16 : Int) (w : World) (k : Env → World → Prop) (Q : Exit → Env → World → Prop) : B6 pr n_0 longer_4 t10 t11 t14 t15 t16 w k Q = (
  bif decide (t16 < t15) then (
  pr.idxK 1 t14 t16 fun (a14 : Addr) =>
  pr.load1 .sl a14 w fun (ξ15 : Sl) =>
  L9 pr n_0 longer_4 ξ15 1 t10 t11 t14 t15 t16 w (q16 pr k Q))
  else (
  Q (.exit 2) (x2 n_0 longer_4 t10 t11) w)) := by kernel_rfl
theorem B6_s (n_0 : Int) (longer_4 : Sl) (t10 : Int) (t11 : Int) (t14 : Sl) (t15 : Int) (t16 : Int) (w : World) (k : Env → World → Prop) (Q : Exit → Env → World → Prop) : B6 std n_0 longer_4 t10 t11 t14 t15 t16 w k Q = (
  bif decide (t16 < t15) then (
  idxK 1 t14 t16 fun (a14 : Addr) =>
  load1 .sl a14 w fun (ξ15 : Sl) =>
  L9 std n_0 longer_4 ξ15 1 t10 t11 t14 t15 t16 w (q16 std k Q))
  else (
  Q (.exit 2) (x2 n_0 longer_4 t10 t11) w)) := B6_eq std n_0 longer_4 t10 t11 t14 t15 t16 w k Q
theorem L6_rule (n_0 : Int) (longer_4 : Sl) (t10 : Int) (t11 : Int) (t14 : Sl) (t15 : Int) (t16 : Int) (w : World) (Q : Exit → Env → World → Prop) (I : Sl → Int → World → Prop) (μ : Sl → Int → World → Nat) (h0 : I longer_4 t16 w)
    (h : ∀ (longer_4 : Sl) (t16 : Int) (w' : World), I longer_4 t16 w' → B6 std n_0 longer_4 t10 t11 t14 t15 t16 w' (fun e2 w2 => ∃ longer_4_n t16_n, e2 = emb6 n_0 longer_4_n t10 t11 t14 t15 t16_n ∧ I longer_4_n t16_n w2 ∧ μ longer_4_n t16_n w2 < μ longer_4 t16 w') Q) :
    L6 std n_0 longer_4 t10 t11 t14 t15 t16 w Q := by
  unfold L6
  refine LoopE.intro (σ := Sl × Int) (step := S6 std Q) (fun s => emb6 n_0 s.1 t10 t11 t14 t15 s.2) (fun s w => I s.1 s.2 w) (fun s w => μ s.1 s.2 w) (longer_4, t16) rfl h0 ?_
  intro s w' hI
  have h1 := h s.1 s.2 w' hI
  unfold B6 at h1
  simp only [Prod.exists]
  exact h1
theorem A6_2_eq (pr : Prims) (n_0 : Int) (longer_4 : Sl) (t10 : Int) (t11 : Int) (w : World) (k : Env → World → Prop) (Q : Exit → Env → World → Prop) : (q11 pr k Q) (.exit 2) (x2 n_0 longer_4 t10 t11) w = (
  k (emb3 n_0 longer_4 t10 (w64 (t11 + 1))) w) := by kernel_rfl
theorem A6_2_s (n_0 : Int) (longer_4 : Sl) (t10 : Int) (t11 : Int) (w : World) (k : Env → World → Prop) (Q : Exit → Env → World → Prop) : (q11 std k Q) (.exit 2) (x2 n_0 longer_4 t10 t11) w = (
  k (emb3 n_0 longer_4 t10 (w64 (t11 + 1))) w) := A6_2_eq std n_0 longer_4 t10 t11 w k Q
theorem A6_4_eq (pr : Prims) (n_0 : Int) (longer_4 : Sl) (t10 : Int) (t11 : Int) (t14 : Sl) (t15 : Int) (t16 : Int) (w : World) (k : Env → World → Prop) (Q : Exit → Env → World → Prop) : (q11 pr k Q) (.exit 4) (x4 n_0 longer_4 t10 t11 t14 t15 t16) w = (
  Q (.exit 4) (x4 n_0 longer_4 t10 t11 t14 t15 t16) w) := by kernel_rfl
theorem A6_4_s (n_0 : Int) (longer_4 : Sl) (t10 : Int) (t11 : Int) (t14 : Sl) (t15 : Int) (t16 : Int) (w : World) (k : Env → World → Prop) (Q : Exit → Env → World → Prop) : (q11 std k Q) (.exit 4) (x4 n_0 longer_4 t10 t11 t14 t15 t16) w = (
  Q (.exit 4) (x4 n_0 longer_4 t10 t11 t14 t15 t16) w) := A6_4_eq std n_0 longer_4 t10 t11 t14 t15 t16 w k Q
theorem B3_eq (pr : Prims) (n_0 : Int) (out_3 : Sl) (t10 : Int) (t11 : Int) (w : World) (k : Env → World → Prop) (Q : Exit → Env → World → Prop) : B3 pr n_0 out_3 t10 t11 w k Q = (
  bif decide (t11 < t10) then (
  pr.sem1 .sl PP (Instr.buildSlice T_SSint 0 #[]) w fun (ρ8 : Sl) ω9 =>
  L6 pr n_0 ρ8 t10 t11 out_3 (out_3.n : Int) 0 ω9 (q11 pr k Q))
  else (
  Q (.exit 0) (x0 out_3) w)) := by kernel_rfl
theorem B3_s (n_0 : Int) (out_3 : Sl) (t10 : Int) (t11 : Int) (w : World) (k : Env → World → Prop) (Q : Exit → Env → World → Prop) : B3 std n_0 out_3 t10 t11 w k Q = (
  bif decide (t11 < t10) then (
  sem1 .sl PP (Instr.buildSlice T_SSint 0 #[]) w fun (ρ8 : Sl) ω9 =>
  L6 std n_0 ρ8 t10 t11 out_3 (out_3.n : Int) 0 ω9 (q11 std k Q))
  else (
  Q (.exit 0) (x0 out_3) w)) := B3_eq std n_0 out_3 t10 t11 w k Q
theorem L3_rule (n_0 : Int) (out_3 : Sl) (t10 : Int) (t11 : Int) (w : World) (Q : Exit → Env → World → Prop) (I : Sl → Int → World → Prop) (μ : Sl → Int → World → Nat) (h0 : I out_3 t11 w)
    (h : ∀ (out_3 : Sl) (t11 : Int) (w' : World), I out_3 t11 w' → B3 std n_0 out_3 t10 t11 w' (fun e2 w2 => ∃ out_3_n t11_n, e2 = emb3 n_0 out_3_n t10 t11_n ∧ I out_3_n t11_n w2 ∧ μ out_3_n t11_n w2 < μ out_3 t11 w') Q) :
    L3 std n_0 out_3 t10 t11 w Q := by
  unfold L3
  refine LoopE.intro (σ := Sl × Int) (step := S3 std Q) (fun s => emb3 n_0 s.1 t10 s.2) (fun s w => I s.1 s.2 w) (fun s w => μ s.1 s.2 w) (out_3, t11) rfl h0 ?_
  intro s w' hI
  have h1 := h s.1 s.2 w' hI
  unfold B3 at h1
  simp only [Prod.exists]
  exact h1
theorem A3_0_eq (pr : Prims) (out_3 : Sl) (w : World) (R : Ending → World → Prop) : (q5 pr R) (.exit 0) (x0 out_3) w = (
  R (.returned (Sl.v out_3)) w) := by kernel_rfl
theorem A3_0_s (out_3 : Sl) (w : World) (R : Ending → World → Prop) : (q5 std R) (.exit 0) (x0 out_3) w = (
  R (.returned (Sl.v out_3)) w) := A3_0_eq std out_3 w R
theorem E_eq (pr : Prims) (n_0 : Int) (w : World) (R : Ending → World → Prop) : E pr n_0 w R = (
  pr.sem1 .sl PP (Instr.buildSlice T_Sint 0 #[]) w fun (ρ0 : Sl) ω1 =>
  pr.sem1 .sl PP (Instr.buildSlice T_SSint 1 #[(0, Sl.v ρ0)]) ω1 fun (ρ2 : Sl) ω3 =>
  L3 pr n_0 ρ2 n_0 0 ω3 (q5 pr R)) := by kernel_rfl
theorem E_s (n_0 : Int) (w : World) (R : Ending → World → Prop) : E std n_0 w R = (
  sem1 .sl PP (Instr.buildSlice T_Sint 0 #[]) w fun (ρ0 : Sl) ω1 =>
  sem1 .sl PP (Instr.buildSlice T_SSint 1 #[(0, Sl.v ρ0)]) ω1 fun (ρ2 : Sl) ω3 =>
  L3 std n_0 ρ2 n_0 0 ω3 (q5 std R)) := E_eq std n_0 w R
theorem drawsOk : drawsOk PP cfg okD (codeOf Tryz.f67) = true := by kernel_rfl
theorem calls (n_0 : Int) {w : World} {R : Ending → World → Prop} (h : E std n_0 w R) : Calls PP F.impl_perms #[vI n_0] w R :=
  calls_of noCount mixed drawOk Tryz.func67 rfl (c := cfg) (args := [vI n_0]) rfl (Nat.le_of_ble_eq_true (by kernel_rfl)) drawsOk h
end impl_perms

namespace slices_Contains___int_int_
@[reducible] def cfg : Cfg := ⟨9, [], [], [], [4], [], [13, 12, 21, 89, 36, 108, 74, 75, 104, 78, 125], [73, 117, 103, 46, 4, 30, 40]⟩
def E (pr : Prims) (s_0 : Sl) (v_1 : Int) (w : World) (R : Ending → World → Prop) : Prop :=
  wpC pr PP cfg (DD pr) (codeOf Tryz.f89) (retQ Tryz.f89.results.toList R) (argE 0 [Sl.v s_0, vI v_1]) w
theorem E_eq (pr : Prims) (s_0 : Sl) (v_1 : Int) (w : World) (R : Ending → World → Prop) : E pr s_0 v_1 w R = (
  pr.call1 (.int .i64) PP F.slices_Index___int_int_ #[Sl.v s_0, vI v_1] w fun (ρ0 : Int) ω1 =>
  R (.returned (.bool (decide (ρ0 ≥ 0)))) ω1) := by kernel_rfl
theorem E_s (s_0 : Sl) (v_1 : Int) (w : World) (R : Ending → World → Prop) : E std s_0 v_1 w R = (
  call1 (.int .i64) PP F.slices_Index___int_int_ #[Sl.v s_0, vI v_1] w fun (ρ0 : Int) ω1 =>
  R (.returned (.bool (decide (ρ0 ≥ 0)))) ω1) := E_eq std s_0 v_1 w R
theorem drawsOk : drawsOk PP cfg okD (codeOf Tryz.f89) = true := by kernel_rfl
theorem calls (s_0 : Sl) (v_1 : Int) {w : World} {R : Ending → World → Prop} (h : E std s_0 v_1 w R) : Calls PP F.slices_Contains___int_int_ #[Sl.v s_0, vI v_1] w R :=
  calls_of noCount mixed drawOk Tryz.func89 rfl (c := cfg) (args := [Sl.v s_0, vI v_1]) rfl (Nat.le_of_ble_eq_true (by kernel_rfl)) drawsOk h
end slices_Contains___int_int_

namespace slices_Index___int_int_
@[reducible] def cfg : Cfg := ⟨19, [(2, [0, 1, 7, 8])], [(1, [0, 1, 7, 8]), (0, [])], [], [4], [], [13, 12, 21, 89, 36, 108, 74, 75, 104, 78, 125], [73, 117, 103, 46, 4, 30, 40]⟩
def q0 (pr : Prims) (R : Ending → World → Prop) : Exit → Env → World → Prop := fun ex e w => normQ ex (fun e w => contE pr cfg (sub (codeOf Tryz.f108) [1, 1]) (fun e w => wpC pr PP cfg (DD pr) (sub (codeOf Tryz.f108) [1, 1]) (retQ Tryz.f108.results.toList R) e w) e w) (retQ Tryz.f108.results.toList R) e w
def q1 (pr : Prims) (R : Ending → World → Prop) : Exit → Env → World → Prop := fun ex e w => blockQ ex 0 (q0 pr R) e w
def emb2 (s_0 : Sl) (v_1 : Int) (t7 : Int) (t8 : Int) : Env := [(0, Sl.v s_0), (1, vI v_1), (7, vI t7), (8, vI t8)]
def x0 : Env := []
def S2 (pr : Prims) (Q : Exit → Env → World → Prop) : (Env → World → Prop) → Env → World → Prop := fun k e w => wpC pr PP cfg (DD pr) (sub (codeOf Tryz.f108) [1, 0, 1, 0, 0]) (fun ex e w => normQ ex (fun e' w' => k (Env.restr e' (lookN cfg.loops (keyOf (sub (codeOf Tryz.f108) [1, 0, 1, 0, 0])))) w') Q e w) e w
def B2 (pr : Prims) (s_0 : Sl) (v_1 : Int) (t7 : Int) (t8 : Int) (w : World) (k : Env → World → Prop) (Q : Exit → Env → World → Prop) : Prop :=
  S2 pr Q k (emb2 s_0 v_1 t7 t8) w
def L2 (pr : Prims) (s_0 : Sl) (v_1 : Int) (t7 : Int) (t8 : Int) (w : World) (Q : Exit → Env → World → Prop) : Prop :=
  pr.loop (S2 pr Q) (emb2 s_0 v_1 t7 t8) w
def E (pr : Prims) (s_0 : Sl) (v_1 : Int) (w : World) (R : Ending → World → Prop) : Prop :=
  wpC pr PP cfg (DD pr) (codeOf Tryz.f108) (retQ Tryz.f108.results.toList R) (argE 0 [Sl.v s_0, vI v_1]) w
theorem B2_eq (pr : Prims) (s_0 : Sl) (v_1 : Int) (t7 : Int) (t8 : Int) (w : World) (k : Env → World → Prop) (Q : Exit → Env → World → Prop) : B2 pr s_0 v_1 t7 t8 w k Q = (
  bif decide (t8 < t7) then (
  pr.idxK 1 s_0 t8 fun (a2 : Addr) =>
  pr.load1 (.int .i64) a2 w fun (ξ3 : Int) =>
  bif v_1 == ξ3 then (
  Q .ret [(4, vI t8)] w)
  else (
  k (emb2 s_0 v_1 t7 (w64 (t8 + 1))) w))
  else (
  Q (.exit 0) (x0) w)) := by kernel_rfl
theorem B2_s (s_0 : Sl) (v_1 : Int) (t7 : Int) (t8 : Int) (w : World) (k : Env → World → Prop) (Q : Exit → Env → World → Prop) : B2 std s_0 v_1 t7 t8 w k Q = (
  bif decide (t8 < t7) then (
  idxK 1 s_0 t8 fun (a2 : Addr) =>
  load1 (.int .i64) a2 w fun (ξ3 : Int) =>
  bif v_1 == ξ3 then (
  Q .ret [(4, vI t8)] w)
  else (
  k (emb2 s_0 v_1 t7 (w64 (t8 + 1))) w))
  else (
  Q (.exit 0) (x0) w)) := B2_eq std s_0 v_1 t7 t8 w k Q
theorem L2_rule (s_0 : Sl) (v_1 : Int) (t7 : Int) (t8 : Int) (w : World) (Q : Exit → Env → World → Prop) (I : Int → World → Prop) (μ : Int → World → Nat) (h0 : I t8 w)
    (h : ∀ (t8 : Int) (w' : World), I t8 w' → B2 std s_0 v_1 t7 t8 w' (fun e2 w2 => ∃ t8_n, e2 = emb2 s_0 v_1 t7 t8_n ∧ I t8_n w2 ∧ μ t8_n w2 < μ t8 w') Q) :
    L2 std s_0 v_1 t7 t8 w Q := by
  unfold L2
  refine LoopE.intro (σ := Int) (step := S2 std Q) (fun s => emb2 s_0 v_1 t7 s) (fun s w => I s w) (fun s w => μ s w) t8 rfl h0 ?_
  intro s w' hI
  have h1 := h s w' hI
  unfold B2 at h1
  exact h1
theorem A2_0_eq (pr : Prims) (w : World) (R : Ending → World → Prop) : (q1 pr R) (.exit 0) (x0) w = (
  R (.returned (vI (-1))) w) := by kernel_rfl
theorem A2_0_s (w : World) (R : Ending → World → Prop) : (q1 std R) (.exit 0) (x0) w = (
  R (.returned (vI (-1))) w) := A2_0_eq std w R
theorem R2_eq (pr : Prims) (v4 : Value) (w : World) (R : Ending → World → Prop) : (q1 pr R) .ret [(4, v4)] w = (
  R (.returned (v4)) w) := by kernel_rfl
theorem R2_s (v4 : Value) (w : World) (R : Ending → World → Prop) : (q1 std R) .ret [(4, v4)] w = (
  R (.returned (v4)) w) := R2_eq std v4 w R
theorem E_eq (pr : Prims) (s_0 : Sl) (v_1 : Int) (w : World) (R : Ending → World → Prop) : E pr s_0 v_1 w R = (
  L2 pr s_0 v_1 (s_0.n : Int) 0 w (q1 pr R)) := by kernel_rfl
theorem E_s (s_0 : Sl) (v_1 : Int) (w : World) (R : Ending → World → Prop) : E std s_0 v_1 w R = (
  L2 std s_0 v_1 (s_0.n : Int) 0 w (q1 std R)) := E_eq std s_0 v_1 w R
theorem drawsOk : drawsOk PP cfg okD (codeOf Tryz.f108) = true := by kernel_rfl
theorem calls (s_0 : Sl) (v_1 : Int) {w : World} {R : Ending → World → Prop} (h : E std s_0 v_1 w R) : Calls PP F.slices_Index___int_int_ #[Sl.v s_0, vI v_1] w R :=
  calls_of noCount mixed drawOk Tryz.func108 rfl (c := cfg) (args := [Sl.v s_0, vI v_1]) rfl (Nat.le_of_ble_eq_true (by kernel_rfl)) drawsOk h
end slices_Index___int_int_

namespace spec_l2Fill
@[reducible] def cfg : Cfg := ⟨35, [(4, [0, 1, 2, 7])], [(1, [0, 1, 2, 7]), (0, [2])], [], [6], [], [13, 12, 21, 89, 36, 108, 74, 75, 104, 78, 125], [73, 117, 103, 46, 4, 30, 40]⟩
def q4 (pr : Prims) (R : Ending → World → Prop) : Exit → Env → World → Prop := fun ex e w => normQ ex (fun e w => contE pr cfg (sub (codeOf Tryz.f81) [1, 1, 1]) (fun e w => wpC pr PP cfg (DD pr) (sub (codeOf Tryz.f81) [1, 1, 1]) (retQ Tryz.f81.results.toList R) e w) e w) (retQ Tryz.f81.results.toList R) e w
def q5 (pr : Prims) (R : Ending → World → Prop) : Exit → Env → World → Prop := fun ex e w => blockQ ex 0 (q4 pr R) e w
def emb4 (n_0 : Int) (head_1 : Sl) (out_2 : Sl) (v_7 : Int) : Env := [(0, vI n_0), (1, Sl.v head_1), (2, Sl.v out_2), (7, vI v_7)]
def x0 (out_2 : Sl) : Env := [(2, Sl.v out_2)]
def S4 (pr : Prims) (Q : Exit → Env → World → Prop) : (Env → World → Prop) → Env → World → Prop := fun k e w => wpC pr PP cfg (DD pr) (sub (codeOf Tryz.f81) [1, 1, 0, 1, 0, 0]) (fun ex e w => normQ ex (fun e' w' => k (Env.restr e' (lookN cfg.loops (keyOf (sub (codeOf Tryz.f81) [1, 1, 0, 1, 0, 0])))) w') Q e w) e w
def B4 (pr : Prims) (n_0 : Int) (head_1 : Sl) (out_2 : Sl) (v_7 : Int) (w : World) (k : Env → World → Prop) (Q : Exit → Env → World → Prop) : Prop :=
  S4 pr Q k (emb4 n_0 head_1 out_2 v_7) w
def L4 (pr : Prims) (n_0 : Int) (head_1 : Sl) (out_2 : Sl) (v_7 : Int) (w : World) (Q : Exit → Env → World → Prop) : Prop :=
  pr.loop (S4 pr Q) (emb4 n_0 head_1 out_2 v_7) w
def E (pr : Prims) (n_0 : Int) (head_1 : Sl) (out_2 : Sl) (w : World) (R : Ending → World → Prop) : Prop :=
  wpC pr PP cfg (DD pr) (codeOf Tryz.f81) (retQ Tryz.f81.results.toList R) (argE 0 [vI n_0, Sl.v head_1, Sl.v out_2]) w
theorem B4_eq (pr : Prims) (n_0 : Int) (head_1 : Sl) (out_2 : Sl) (v_7 : Int) (w : World) (k : Env → World → Prop) (Q : Exit → Env → World → Prop) : B4 pr n_0 head_1 out_2 v_7 w k Q = (
  bif decide (v_7 ≤ n_0) then (
  pr.call1 .bool PP F.spec_l2Has #[Sl.v head_1, vI v_7] w fun (ρ6 : Bool) ω7 =>
  bif !ρ6 then (
  pr.sem1 .sl PP (Instr.buildSlice T_Sint 0 #[]) ω7 fun (ρ8 : Sl) ω9 =>
  pr.sem1 .sl PP (Builtin.append_ #[T_Sint, T_Sint] T_Sint #[Sl.v ρ8, Sl.v head_1]) ω9 fun (ρ10 : Sl) ω11 =>
  pr.sem1 .sl PP (Instr.buildSlice T_Sint 1 #[(0, vI v_7)]) ω11 fun (ρ12 : Sl) ω13 =>
  pr.sem1 .sl PP (Builtin.append_ #[T_Sint, T_Sint] T_Sint #[Sl.v ρ10, Sl.v ρ12]) ω13 fun (ρ14 : Sl) ω15 =>
  pr.call1 .sl PP F.spec_l2Fill #[vI n_0, Sl.v ρ14, Sl.v out_2] ω15 fun (ρ16 : Sl) ω17 =>
  k (emb4 n_0 head_1 ρ16 (w64 (v_7 + 1))) ω17)
  else (
  k (emb4 n_0 head_1 out_2 (w64 (v_7 + 1))) ω7))
  else (
  Q (.exit 0) (x0 out_2) w)) := by kernel_rfl
theorem B4_s (n_0 : Int) (head_1 : Sl) (out_2 : Sl) (v_7 : Int) (w : World) (k : Env → World → Prop) (Q : Exit → Env → World → Prop) : B4 std n_0 head_1 out_2 v_7 w k Q = (
  bif decide (v_7 ≤ n_0) then (
  call1 .bool PP F.spec_l2Has #[Sl.v head_1, vI v_7] w fun (ρ6 : Bool) ω7 =>
  bif !ρ6 then (
  sem1 .sl PP (Instr.buildSlice T_Sint 0 #[]) ω7 fun (ρ8 : Sl) ω9 =>
  sem1 .sl PP (Builtin.append_ #[T_Sint, T_Sint] T_Sint #[Sl.v ρ8, Sl.v head_1]) ω9 fun (ρ10 : Sl) ω11 =>
  sem1 .sl PP (Instr.buildSlice T_Sint 1 #[(0, vI v_7)]) ω11 fun (ρ12 : Sl) ω13 =>
  sem1 .sl PP (Builtin.append_ #[T_Sint, T_Sint] T_Sint #[Sl.v ρ10, Sl.v ρ12]) ω13 fun (ρ14 : Sl) ω15 =>
  call1 .sl PP F.spec_l2Fill #[vI n_0, Sl.v ρ14, Sl.v out_2] ω15 fun (ρ16 : Sl) ω17 =>
  k (emb4 n_0 head_1 ρ16 (w64 (v_7 + 1))) ω17)
  else (
  k (emb4 n_0 head_1 out_2 (w64 (v_7 + 1))) ω7))
  else (
  Q (.exit 0) (x0 out_2) w)) := B4_eq std n_0 head_1 out_2 v_7 w k Q
theorem L4_rule (n_0 : Int) (head_1 : Sl) (out_2 : Sl) (v_7 : Int) (w : World) (Q : Exit → Env → World → Prop) (I : Sl → Int → World → Prop) (μ : Sl → Int → World → Nat) (h0 : I out_2 v_7 w)
    (h : ∀ (out_2 : Sl) (v_7 : Int) (w' : World), I out_2 v_7 w' → B4 std n_0 head_1 out_2 v_7 w' (fun e2 w2 => ∃ out_2_n v_7_n, e2 = emb4 n_0 head_1 out_2_n v_7_n ∧ I out_2_n v_7_n w2 ∧ μ out_2_n v_7_n w2 < μ out_2 v_7 w') Q) :
    L4 std n_0 head_1 out_2 v_7 w Q := by
  unfold L4
  refine LoopE.intro (σ := Sl × Int) (step := S4 std Q) (fun s => emb4 n_0 head_1 s.1 s.2) (fun s w => I s.1 s.2 w) (fun s w => μ s.1 s.2 w) (out_2, v_7) rfl h0 ?_
  intro s w' hI
  have h1 := h s.1 s.2 w' hI
  unfold B4 at h1
  simp only [Prod.exists]
  exact h1
theorem A4_0_eq (pr : Prims) (out_2 : Sl) (w : World) (R : Ending → World → Prop) : (q5 pr R) (.exit 0) (x0 out_2) w = (
  R (.returned (Sl.v out_2)) w) := by kernel_rfl
theorem A4_0_s (out_2 : Sl) (w : World) (R : Ending → World → Prop) : (q5 std R) (.exit 0) (x0 out_2) w = (
  R (.returned (Sl.v out_2)) w) := A4_0_eq std out_2 w R
theorem E_eq (pr : Prims) (n_0 : Int) (head_1 : Sl) (out_2 : Sl) (w : World) (R : Ending → World → Prop) : E pr n_0 head_1 out_2 w R = (
  bif (head_1.n : Int) == n_0 then (
  pr.sem1 .sl PP (Instr.buildSlice T_SSint 1 #[(0, Sl.v head_1)]) w fun (ρ0 : Sl) ω1 =>
  pr.sem1 .sl PP (Builtin.append_ #[T_SSint, T_SSint] T_SSint #[Sl.v out_2, Sl.v ρ0]) ω1 fun (ρ2 : Sl) ω3 =>
  R (.returned (Sl.v ρ2)) ω3)
  else (
  L4 pr n_0 head_1 out_2 1 w (q5 pr R))) := by kernel_rfl
theorem E_s (n_0 : Int) (head_1 : Sl) (out_2 : Sl) (w : World) (R : Ending → World → Prop) : E std n_0 head_1 out_2 w R = (
  bif (head_1.n : Int) == n_0 then (
  sem1 .sl PP (Instr.buildSlice T_SSint 1 #[(0, Sl.v head_1)]) w fun (ρ0 : Sl) ω1 =>
  sem1 .sl PP (Builtin.append_ #[T_SSint, T_SSint] T_SSint #[Sl.v out_2, Sl.v ρ0]) ω1 fun (ρ2 : Sl) ω3 =>
  R (.returned (Sl.v ρ2)) ω3)
  else (
  L4 std n_0 head_1 out_2 1 w (q5 std R))) := E_eq std n_0 head_1 out_2 w R
theorem drawsOk : drawsOk PP cfg okD (codeOf Tryz.f81) = true := by kernel_rfl
theorem calls (n_0 : Int) (head_1 : Sl) (out_2 : Sl) {w : World} {R : Ending → World → Prop} (h : E std n_0 head_1 out_2 w R) : Calls PP F.spec_l2Fill #[vI n_0, Sl.v head_1, Sl.v out_2] w R :=
  calls_of noCount mixed drawOk Tryz.func81 rfl (c := cfg) (args := [vI n_0, Sl.v head_1, Sl.v out_2]) rfl (Nat.le_of_ble_eq_true (by kernel_rfl)) drawsOk h
end spec_l2Fill

namespace spec_PermsOf
@[reducible] def cfg : Cfg := ⟨11, [], [], [], [2], [], [13, 12, 21, 89, 36, 108, 74, 75, 104, 78, 125], [73, 117, 103, 46, 4, 30, 40]⟩
def E (pr : Prims) (n_0 : Int) (w : World) (R : Ending → World → Prop) : Prop :=
  wpC pr PP cfg (DD pr) (codeOf Tryz.f56) (retQ Tryz.f56.results.toList R) (argE 0 [vI n_0]) w
theorem E_eq (pr : Prims) (n_0 : Int) (w : World) (R : Ending → World → Prop) : E pr n_0 w R = (
  pr.pcall1 .bool PP F.spec_l1In #[vI n_0, vI 0, vI 6] fun (ρ0 : Bool) =>
  bif !ρ0 then (
  pr.sem1 .sl PP (Instr.buildSlice T_SSint 0 #[]) w fun (ρ1 : Sl) ω2 =>
  R (.returned (Sl.v ρ1)) ω2)
  else (
  pr.sem1 .sl PP (Instr.buildSlice T_Sint 0 #[]) w fun (ρ3 : Sl) ω4 =>
  pr.sem1 .sl PP (Instr.buildSlice T_SSint 0 #[]) ω4 fun (ρ5 : Sl) ω6 =>
  pr.call1 .sl PP F.spec_l2Fill #[vI n_0, Sl.v ρ3, Sl.v ρ5] ω6 fun (ρ7 : Sl) ω8 =>
  R (.returned (Sl.v ρ7)) ω8)) := by kernel_rfl
theorem E_s (n_0 : Int) (w : World) (R : Ending → World → Prop) : E std n_0 w R = (
  pcall1 .bool PP F.spec_l1In #[vI n_0, vI 0, vI 6] fun (ρ0 : Bool) =>
  bif !ρ0 then (
  sem1 .sl PP (Instr.buildSlice T_SSint 0 #[]) w fun (ρ1 : Sl) ω2 =>
  R (.returned (Sl.v ρ1)) ω2)
  else (
  sem1 .sl PP (Instr.buildSlice T_Sint 0 #[]) w fun (ρ3 : Sl) ω4 =>
  sem1 .sl PP (Instr.buildSlice T_SSint 0 #[]) ω4 fun (ρ5 : Sl) ω6 =>
  call1 .sl PP F.spec_l2Fill #[vI n_0, Sl.v ρ3, Sl.v ρ5] ω6 fun (ρ7 : Sl) ω8 =>
  R (.returned (Sl.v ρ7)) ω8)) := E_eq std n_0 w R
theorem drawsOk : drawsOk PP cfg okD (codeOf Tryz.f56) = true := by kernel_rfl
theorem calls (n_0 : Int) {w : World} {R : Ending → World → Prop} (h : E std n_0 w R) : Calls PP F.spec_PermsOf #[vI n_0] w R :=
  calls_of noCount mixed drawOk Tryz.func56 rfl (c := cfg) (args := [vI n_0]) rfl (Nat.le_of_ble_eq_true (by kernel_rfl)) drawsOk h
end spec_PermsOf

end Go.Proofs.YteplokddaebbeaaGreat

/- All permutations of a length: plain facts. -/
namespace Go.Proofs.YteplokddaebbeaaGreat
open Go
set_option maxRecDepth 100000

def extV (n : Nat) (p : List Int) : List (List Int) := (idn n).flatMap fun v => if v ∈ p then [] else [p ++ [v]]
def lvl (n : Nat) : Nat → List (List Int)
  | 0 => [[]]
  | k + 1 => (lvl n k).flatMap (extV n)
def permsV (n : Nat) : List (List Int) := lvl n n
def fillN (n : Nat) : Nat → List Int → List (List Int)
  | 0, h => [h]
  | m + 1, h => (idn n).flatMap fun v => if v ∈ h then [] else fillN n m (h ++ [v])
theorem fillN_ext (n m : Nat) (h : List Int) : (extV n h).flatMap (fillN n m) = fillN n (m + 1) h := by
  rw [extV, List.flatMap_assoc, fillN]
  congr 1
  funext v
  split <;> simp
theorem fillN_lvl (n : Nat) : ∀ k m, (lvl n k).flatMap (fillN n m) = fillN n (k + m) []
  | 0, m => by simp [lvl]
  | k + 1, m => by
    rw [lvl, List.flatMap_assoc]
    have : (fun x => List.flatMap (fillN n m) (extV n x)) = fillN n (m + 1) := by funext h; exact fillN_ext n m h
    rw [this, fillN_lvl n k (m + 1)]
    congr 1; omega
theorem fillN_permsV (n : Nat) : fillN n n [] = permsV n := by
  have := fillN_lvl n n 0
  rw [Nat.add_zero] at this
  rw [← this, permsV]
  have : ∀ l : List (List Int), l.flatMap (fillN n 0) = l := fun l => by
    induction l with
    | nil => rfl
    | cons x r ih => rw [List.flatMap_cons, ih, fillN]; rfl
  rw [this]
theorem mem_extV {n : Nat} {p q : List Int} : q ∈ extV n p ↔ ∃ v, v ∈ idn n ∧ v ∉ p ∧ q = p ++ [v] := by
  simp only [extV, List.mem_flatMap]
  constructor
  · rintro ⟨v, h1, h2⟩
    split at h2
    · simp at h2
    · rename_i h3; exact ⟨v, h1, h3, by simpa using h2⟩
  · rintro ⟨v, h1, h2, h3⟩
    exact ⟨v, h1, by rw [if_neg h2]; simp [h3]⟩
theorem mem_lvl {n : Nat} : ∀ {k : Nat} {p : List Int}, p ∈ lvl n k ↔ p.length = k ∧ p.Nodup ∧ ∀ x ∈ p, x ∈ idn n
  | 0, p => by
    simp only [lvl, List.mem_singleton]
    constructor
    · rintro rfl; simp
    · rintro ⟨h, _⟩; exact List.eq_nil_of_length_eq_zero h
  | k + 1, p => by
    simp only [lvl, List.mem_flatMap, mem_extV, mem_lvl (k := k)]
    constructor
    · rintro ⟨q, ⟨h1, h2, h3⟩, v, h4, h5, rfl⟩
      refine ⟨by simp [h1], ?_, fun x hx => ?_⟩
      · rw [List.nodup_append]
        exact ⟨h2, by simp, fun a ha b hb e => by simp at hb; subst hb; subst e; exact h5 ha⟩
      · rcases List.mem_append.1 hx with h6 | h6
        · exact h3 x h6
        · simp at h6; subst h6; exact h4
    · rintro ⟨h1, h2, h3⟩
      obtain ⟨q, v, rfl⟩ : ∃ q v, p = q ++ [v] := ⟨p.dropLast, p.getLast (by rintro rfl; simp at h1), (List.dropLast_concat_getLast _).symm⟩
      rw [List.nodup_append] at h2
      refine ⟨q, ⟨by simpa using h1, h2.1, fun x hx => h3 x (by simp [hx])⟩, v, h3 v (by simp), fun hv => h2.2.2 v hv v (by simp) rfl, rfl⟩
theorem mem_permsV {n : Nat} {p : List Int} : p ∈ permsV n ↔ p.Perm (idn n) := by
  rw [permsV, mem_lvl]
  constructor
  · rintro ⟨h1, h2, h3⟩; exact perm_of_nodup h2 (fun x hx => mem_idn.1 (h3 x hx)) h1
  · intro h; exact ⟨by rw [h.length_eq, idn_length], h.nodup_iff.2 (idn_nodup n), fun x hx => h.mem_iff.1 hx⟩
theorem permsV_isP {n : Nat} (hn : n ≤ 8) {p : List Int} (h : p ∈ permsV n) : IsP p := isP_of (mem_permsV.1 h) hn
theorem permsV_len {n : Nat} {p : List Int} (h : p ∈ permsV n) : p.length = n := by rw [(mem_permsV.1 h).length_eq, idn_length]
theorem extV_length (n : Nat) (p : List Int) : (extV n p).length ≤ n := by
  unfold extV
  have : ∀ l : List Int, (l.flatMap fun v => if v ∈ p then [] else [p ++ [v]]).length ≤ l.length := fun l => by
    induction l with
    | nil => simp
    | cons x r ih =>
      rw [List.flatMap_cons, List.length_append, List.length_cons]
      have h1 : (if x ∈ p then [] else [p ++ [x]]).length ≤ 1 := by split <;> simp
      omega
  have h := this (idn n)
  rwa [idn_length] at h
theorem flatMap_len_le {α β : Type} (l : List α) (f : α → List β) (c : Nat) (h : ∀ x ∈ l, (f x).length ≤ c) : (l.flatMap f).length ≤ l.length * c := by
  induction l with
  | nil => simp
  | cons x r ih =>
    have h1 := h x (by simp)
    have h2 := ih (fun y hy => h y (by simp [hy]))
    simp only [List.flatMap_cons, List.length_append, List.length_cons, Nat.succ_mul]
    omega
theorem lvl_length (n : Nat) : ∀ k, (lvl n k).length ≤ n ^ k
  | 0 => by simp [lvl]
  | k + 1 => by
    rw [lvl, Nat.pow_succ]
    exact Nat.le_trans (flatMap_len_le _ _ n (fun x _ => extV_length n x)) (Nat.mul_le_mul_right _ (lvl_length n k))
theorem fillN_length (n : Nat) : ∀ m h, (fillN n m h).length ≤ n ^ m
  | 0, h => by simp [fillN]
  | m + 1, h => by
    rw [fillN, Nat.pow_succ, Nat.mul_comm]
    refine Nat.le_trans (flatMap_len_le _ _ (n ^ m) (fun v _ => ?_)) (by rw [idn_length]; exact Nat.le_refl _)
    split
    · simp
    · exact fillN_length n m _
theorem permsV_length (n : Nat) : (permsV n).length ≤ n ^ n := lvl_length n n
/-- idn, by steps -/
theorem idn_take_flat {β : Type} (f : Int → List β) {v : Int} (hv : 1 ≤ v) : (idn v.toNat).flatMap f = (idn (v - 1).toNat).flatMap f ++ f v := by
  rw [show v.toNat = (v - 1).toNat + 1 by omega, idn_succ, List.flatMap_append]
  simp only [List.flatMap_cons, List.flatMap_nil, List.append_nil]
  congr 2; omega
end Go.Proofs.YteplokddaebbeaaGreat

/- All permutations of a length: the model's list and the program's. -/
namespace Go.Proofs.YteplokddaebbeaaGreat
open Go Go.RowKit
set_option maxRecDepth 100000

def idxW (L : List Int) (v : Int) : Int := if L.findIdx (fun x => v == x) < L.length then (L.findIdx (fun x => v == x) : Int) else -1
theorem idxW_nonneg {L : List Int} {v : Int} : 0 ≤ idxW L v ↔ v ∈ L := by
  unfold idxW
  split
  · rename_i h
    rw [List.findIdx_lt_length] at h
    obtain ⟨x, h1, h2⟩ := h
    have : v = x := by simpa using h2
    subst this
    exact ⟨fun _ => h1, fun _ => by omega⟩
  · rename_i h
    rw [List.findIdx_lt_length] at h
    exact ⟨fun h0 => by omega, fun h0 => absurd ⟨v, h0, by simp⟩ h⟩
theorem c_Index {w : World} {a : Sl} {L : List Int} (ha : RowI w a L) (hL : L.length < 2^38) (v : Int) : Quiet F.slices_Index___int_int_ #[a.v, vI v] w (vI (idxW L v)) := by
  intro w1 hd
  have han : a.n = L.length := by have := ha.n; simpa using this
  refine slices_Index___int_int_.calls a v ?_
  rw [slices_Index___int_int_.E_s]
  refine slices_Index___int_int_.L2_rule _ _ _ _ _ _ (I := fun k w' => w' = w1 ∧ 0 ≤ k ∧ k ≤ L.length ∧ ∀ j, j < k.toNat → v ≠ L.getD j 0) (μ := fun k _ => (L.length - k).toNat) ⟨rfl, by omega, by omega, fun j hj => by simp at hj⟩ ?_
  rintro k w' ⟨rfl, h0, hk, hall⟩
  rw [slices_Index___int_int_.B2_s]
  refine bif_dec (fun h3 => ?_) (fun h3 => ?_)
  · have hlt : k.toNat < L.length := by omega
    refine RowI.get (ha.heap hd.heap') h0 (by omega) ?_
    refine bif_intro (fun h4 => ?_) (fun h4 => ?_)
    · rw [slices_Index___int_int_.R2_s]
      refine ⟨?_, Drew.refl _⟩
      have h4 : v = L.getD k.toNat 0 := by simpa using h4
      have : L.findIdx (fun x => v == x) = k.toNat := by
        rw [List.findIdx_eq hlt]
        refine ⟨by rw [← getD_lt hlt]; simpa using h4, fun j hj => ?_⟩
        have := hall j hj
        rw [getD_lt (by omega)] at this
        simpa using this
      rw [idxW, this, if_pos hlt]
      congr 2; omega
    · refine ⟨k + 1, by rw [w64_succ h0 (by omega)], ⟨rfl, by omega, by omega, fun j hj => ?_⟩, by omega⟩
      by_cases e : j = k.toNat
      · rw [e]; simpa using h4
      · exact hall j (by omega)
  · rw [slices_Index___int_int_.A2_0_s]
    refine ⟨?_, Drew.refl _⟩
    rw [idxW, if_neg]
    intro h5
    rw [List.findIdx_lt_length] at h5
    obtain ⟨x, h6, h7⟩ := h5
    obtain ⟨i, hi, rfl⟩ := List.getElem_of_mem h6
    have := hall i (by omega)
    rw [getD_lt hi] at this
    exact this (by simpa using h7)
open Classical in
theorem c_Contains {w : World} {a : Sl} {L : List Int} (ha : RowI w a L) (hL : L.length < 2^38) (v : Int) : Quiet F.slices_Contains___int_int_ #[a.v, vI v] w (.bool (decide (v ∈ L))) := by
  intro w1 hd
  refine slices_Contains___int_int_.calls a v ?_
  rw [slices_Contains___int_int_.E_s]
  refine (c_Index ha hL v w1 hd).mono ?_
  rintro e w2 ⟨rfl, hd2⟩
  refine ⟨_, rfl, ?_, hd2⟩
  congr 2
  simp only [ge_iff_le, idxW_nonneg]

theorem flat_snoc {α β : Type} (l : List α) (x : α) (f : α → List β) : (l ++ [x]).flatMap f = l.flatMap f ++ f x := by simp

theorem c_perms {w : World} (n : Nat) (hn : n ≤ 8) :
    Calls PP F.impl_perms #[vI n] w fun e w' => ∃ s : Sl, e = .returned s.v ∧ OwnSS w' w.heap.size s (permsV n) ∧ Below w.heap.size w w' := by
  refine impl_perms.calls n ?_
  rw [impl_perms.E_s]
  refine lit0 oneInt (B := w.heap.size) (Nat.le_refl _) ?_
  intro s0 w1 h0 hg1 hc1
  have hb1 := below_of_grow hg1
  refine lit1 oneSint (B := w.heap.size) hb1.size (One.sl s0) ?_
  intro t0 w2 ht0 hg2 hn2
  have hb2 := hb1.grown hg2 hb1.size (by simp)
  have hst : OwnSS w2 w.heap.size t0 (lvl n 0) := by
    refine ⟨[s0], ht0, rfl, fun i r L e1 e2 => ?_, fun i j r t hij e1 e2 => ?_⟩
    · cases i with
      | zero => simp [lvl] at e1 e2; subst e1 e2; exact h0.kept hg2 (fun _ _ => by simp)
      | succ i => simp at e1
    · cases i with
      | zero => cases j with
        | zero => exact absurd rfl hij
        | succ j => simp at e2
      | succ i => simp at e1
  have h88 : ∀ k, k ≤ n → (lvl n k).length ≤ 8 ^ 8 := fun k hk =>
    Nat.le_trans (lvl_length n k) (Nat.le_trans (Nat.pow_le_pow_left hn k) (Nat.pow_le_pow_right (by omega) (by omega)))
  refine impl_perms.L3_rule _ _ _ _ _ _ (I := fun out k w' => 0 ≤ k ∧ k ≤ n ∧ OwnSS w' w.heap.size out (lvl n k.toNat) ∧ Below w.heap.size w w') (μ := fun _ k _ => (n - k).toNat) ⟨by omega, by omega, hst, hb2⟩ ?_
  rintro out k w' ⟨hk0, hk, ho, hb⟩
  rw [impl_perms.B3_s]
  refine bif_dec (fun h3 => ?_) (fun h3 => ?_)
  · refine lit0 oneSint (B := w'.heap.size) (Nat.le_refl _) ?_
    intro l0 w3 hl0 hg3 _
    have hb3 := below_of_grow hg3
    have hon := ho.row.n
    have hkn := h88 k.toNat (by omega)
    rw [hon]
    refine impl_perms.L6_rule _ _ _ _ _ _ _ _ _ (I := fun lo i w4 => 0 ≤ i ∧ i ≤ (lvl n k.toNat).length ∧ OwnSS w4 w'.heap.size lo (((lvl n k.toNat).take i.toNat).flatMap (extV n)) ∧ Below w'.heap.size w' w4) (μ := fun _ i _ => ((lvl n k.toNat).length - i).toNat)
      ⟨by omega, by omega, OwnSS.nil hl0, hb3⟩ ?_
    rintro lo i w4 ⟨hi0, hi, hlo, hb4⟩
    rw [impl_perms.B6_s]
    refine bif_dec (fun h5 => ?_) (fun h5 => ?_)
    · have hlt : i.toNat < (lvl n k.toNat).length := by omega
      refine RowSS.getB ho.row hb4 hi0 (by omega) fun r hr => ?_
      rw [getD_SS hlt] at hr
      have hmem := List.getElem_mem hlt
      generalize hpe : (lvl n k.toNat)[i.toNat] = p at hr hmem
      have hplen : p.length = k.toNat := (mem_lvl.1 hmem).1
      have hcnt : (((lvl n k.toNat).take i.toNat).flatMap (extV n)).length ≤ 8 ^ 8 * 8 := by
        refine Nat.le_trans (flatMap_len_le _ _ 8 (fun x _ => Nat.le_trans (extV_length n x) hn)) (Nat.mul_le_mul_right _ ?_)
        rw [List.length_take]; omega
      have hcnt2 : ∀ v : Nat, v ≤ n → ((idn v).flatMap fun v => if v ∈ p then [] else [p ++ [v]]).length ≤ 8 := fun v hv => by
        refine Nat.le_trans (flatMap_len_le _ _ 1 (fun x _ => by split <;> simp)) ?_
        rw [idn_length]; omega
      refine impl_perms.L9_rule _ _ _ _ _ _ _ _ _ _ _ (I := fun lo2 v w5 => 1 ≤ v ∧ v ≤ n + 1 ∧ OwnSS w5 w'.heap.size lo2 (((lvl n k.toNat).take i.toNat).flatMap (extV n) ++ (idn (v - 1).toNat).flatMap fun v => if v ∈ p then [] else [p ++ [v]]) ∧ Below w'.heap.size w' w5) (μ := fun _ v _ => (n + 1 - v).toNat)
        ⟨by omega, by omega, by simpa [idn] using hlo, hb4⟩ ?_
      rintro lo2 v w5 ⟨hv1, hv, hlo2, hb5⟩
      rw [impl_perms.B9_s]
      refine bif_dec (fun h6 => ?_) (fun h6 => ?_)
      · refine Quiet.call1 (s := .bool) (c_Contains (hr.grow hb5) (by omega) v) ?_
        intro w6 hd6
        have hb6 := hb5.trans (hd6.below _)
        have hstep := idn_take_flat (fun v => if v ∈ p then [] else [p ++ [v]]) hv1
        have e1 : (v + 1 - 1).toNat = v.toNat := by omega
        refine bif_intro (fun h7 => ?_) (fun h7 => ?_)
        · have h7 : v ∉ p := by simpa using h7
          refine (c_Clone (hr.grow hb6) (by omega)).mono ?_
          rintro e w7 ⟨s, rfl, hs, hb67⟩
          refine ⟨s, rfl, ?_⟩
          refine append_int hs hb67.size (by omega) ?_
          intro t w8 ht hg8 _
          have hb68 := hb67.grown hg8 hb67.size (fun g hg => (hs.lt g hg).1)
          have hlo6 := hlo2.heap hd6.heap'
          have := hcnt2 (v - 1).toNat (by omega)
          refine append_new hlo6 hb68 hb6.size ht (by rw [List.length_append]; omega) ?_
          intro lo3 w9 hlo3 hg9 _
          refine ⟨lo3, v + 1, by rw [w64_succ (by omega) (by omega)], ⟨by omega, by omega, ?_, (hb6.trans (hb68.mono hb6.size)).grown hg9 (Nat.le_trans hb6.size hb68.size) (fun g hg => (hlo6.lt g hg).1)⟩, by omega⟩
          rw [e1, hstep, if_neg h7, ← List.append_assoc]
          exact hlo3
        · have h7 : v ∈ p := by simpa using h7
          refine ⟨lo2, v + 1, by rw [w64_succ (by omega) (by omega)], ⟨by omega, by omega, ?_, hb6⟩, by omega⟩
          rw [e1, hstep, if_pos h7, List.append_nil]
          exact hlo2.heap hd6.heap'
      · rw [impl_perms.A9_4_s]
        refine ⟨lo2, i + 1, by rw [w64_succ hi0 (by omega)], ⟨by omega, by omega, ?_, hb5⟩, by omega⟩
        rw [show (v - 1).toNat = n by omega] at hlo2
        rw [show (i + 1).toNat = i.toNat + 1 by omega, List.take_succ_eq_append_getElem hlt, flat_snoc, hpe]
        exact hlo2
    · rw [impl_perms.A6_2_s]
      rw [show i.toNat = (lvl n k.toNat).length by omega, List.take_length] at hlo
      refine ⟨lo, k + 1, by rw [w64_succ hk0 (by omega)], ⟨by omega, by omega, ?_, hb.trans (hb4.mono hb.size)⟩, by omega⟩
      rw [show (k + 1).toNat = k.toNat + 1 by omega, lvl]
      exact hlo.mono hb.size
  · rw [impl_perms.A3_0_s]
    rw [show k.toNat = n by omega] at ho
    exact ⟨out, rfl, ho, hb⟩
theorem c_l2Fill {w0 : World} (n : Nat) (hn : n ≤ 8) : ∀ (m : Nat) (w : World) (hd out : Sl) (rs : List Sl) (h : List Int) (LL : List (List Int)),
    Below w0.heap.size w0 w → OwnRows w w0.heap.size out rs LL → OwnI w w0.heap.size hd h → (∀ t ∈ rs, Apt t hd) → h.length + m = n → LL.length + 8 ^ m ≤ 2^30 →
    Calls PP F.spec_l2Fill #[vI n, hd.v, out.v] w fun e w' => ∃ s : Sl, e = .returned s.v ∧ OwnSS w' w0.heap.size s (LL ++ fillN n m h) ∧ w.grownBy w' out.blk ∧ Next w out s
  | 0, w, hd, out, rs, h, LL, hb, ho, hh, hap, hl, hc => by
    have hdn : hd.n = h.length := by have := hh.n; simpa using this
    refine spec_l2Fill.calls n hd out ?_
    rw [spec_l2Fill.E_s]
    refine bif_t (by simp; omega) ?_
    refine append_sl ho hb.size hh hap (by omega) ?_
    intro s' w' h1 h2 h3
    exact ⟨s', rfl, ⟨_, h1⟩, h2, h3⟩
  | m + 1, w, hd, out, rs, h, LL, hb, ho, hh, hap, hl, hc => by
    have hdn : hd.n = h.length := by have := hh.n; simpa using this
    refine spec_l2Fill.calls n hd out ?_
    rw [spec_l2Fill.E_s]
    refine bif_f (by simp; omega) ?_
    refine spec_l2Fill.L4_rule _ _ _ _ _ _ (I := fun s v w' => 1 ≤ v ∧ v ≤ n + 1 ∧ OwnSS w' w0.heap.size s (LL ++ (idn (v - 1).toNat).flatMap fun v => if v ∈ h then [] else fillN n m (h ++ [v])) ∧ w.grownBy w' out.blk ∧ Next w out s) (μ := fun _ v _ => (n + 1 - v).toNat)
      ⟨by omega, by omega, by simpa [idn] using ⟨rs, ho⟩, grownBy_refl _ _, fun g hg => .inl hg⟩ ?_
    rintro s v w' ⟨hv1, hv, hs, hg, hn2⟩
    have hbw : Below w0.heap.size w0 w' := hb.grown hg hb.size (fun g hg => (ho.out.lt g hg).1)
    have hh' : OwnI w' w0.heap.size hd h := hh.kept hg (fun g hg' e => (ho.out.apt hh (by decide)) g e hg')
    rw [spec_l2Fill.B4_s]
    refine bif_dec (fun h3 => ?_) (fun h3 => ?_)
    · refine Quiet.call1 (s := .bool) (c_l2Has hh'.row (by omega) v) ?_
      intro w1 hd1
      have hb1 : Below w'.heap.size w' w1 := hd1.below _
      obtain ⟨rs', hs⟩ := hs
      have hstep := idn_take_flat (fun v => if v ∈ h then [] else fillN n m (h ++ [v])) hv1
      have e1 : (v + 1 - 1).toNat = v.toNat := by omega
      have hcnt : ((idn (v - 1).toNat).flatMap fun v => if v ∈ h then [] else fillN n m (h ++ [v])).length ≤ 7 * 8 ^ m := by
        refine Nat.le_trans (flatMap_len_le _ _ (8 ^ m) (fun y hy => ?_)) ?_
        · split
          · simp
          · exact Nat.le_trans (fillN_length n m _) (Nat.pow_le_pow_left hn m)
        · rw [idn_length]; exact Nat.mul_le_mul_right _ (by omega)
      have hpow : 8 ^ (m + 1) = 8 * 8 ^ m := by rw [Nat.pow_succ]; omega
      refine bif_intro (fun h5 => ?_) (fun h5 => ?_)
      · have h5 : v ∉ h := by simpa using h5
        refine lit0 oneInt (B := w'.heap.size) hb1.size ?_
        intro t1 w2 ht1 hg1 _
        have hb2 := hb1.grown hg1 hb1.size (by simp)
        refine append_row oneInt ht1 hb2.size (hh'.row.grow hb2) (fun v hv => by obtain ⟨y, _, rfl⟩ := List.mem_map.1 hv; exact One.int y) (by simp; omega) ?_
        intro t2 w3 ht2 hg2 _ _
        have ht2 : OwnI w3 w'.heap.size t2 h := by simpa [OwnI] using ht2
        have hb3 := hb2.grown hg2 hb2.size (fun g hg => (ht1.lt g hg).1)
        refine append_int ht2 hb3.size (by omega) ?_
        intro t3 w4 ht3 hg3 _
        have hb4 := hb3.grown hg3 hb3.size (fun g hg => (ht2.lt g hg).1)
        have hb04 : Below w0.heap.size w0 w4 := hbw.trans (hb4.mono hbw.size)
        have hs4 := hs.grow hb4
        refine (c_l2Fill n hn m w4 t3 s rs' (h ++ [v]) _ hb04 hs4 (ht3.mono hbw.size) (fun t ht => Apt.of_lt (fun g hg => (hs.lt ht hg).2) (fun g hg => (ht3.lt g hg).1)) (by simp; omega) (by rw [List.length_append]; omega)).mono ?_
        rintro e w5 ⟨s5, rfl, hs5, hg5, hn5⟩
        refine ⟨s5, rfl, s5, v + 1, by rw [w64_id (by omega) (by omega)], ⟨by omega, by omega, ?_, ?_, ?_⟩, by omega⟩
        · rw [e1, hstep, if_neg h5, ← List.append_assoc]; exact hs5
        · refine ⟨hg5.os.trans (hb4.os.trans hg.os), hg5.tape.trans (hb4.tape.trans hg.tape), hg5.output.trans (hb4.output.trans hg.output), Nat.le_trans hg.size (Nat.le_trans hb4.size hg5.size), fun k hk hne => ?_⟩
          have hk' : k < w'.heap.size := Nat.lt_of_lt_of_le hk hg.size
          rw [hg5.block k (Nat.lt_of_lt_of_le hk' hb4.size) (fun e => by
            rcases hn2 k e.symm with h6 | h6
            · exact hne h6.symm
            · omega), hb4.block k hk', hg.block k hk hne]
        · intro g hg'
          rcases hn5 g hg' with h6 | h6
          · exact hn2 g h6
          · have := hg.size; have := hb4.size; exact .inr (by omega)
      · have h5 : v ∈ h := by simpa using h5
        refine ⟨s, v + 1, by rw [w64_id (by omega) (by omega)], ⟨by omega, by omega, ?_, ?_, hn2⟩, by omega⟩
        · rw [e1, hstep, if_pos h5, List.append_nil]; exact ⟨rs', hs.grow hb1⟩
        · refine ⟨hb1.os.trans hg.os, hb1.tape.trans hg.tape, hb1.output.trans hg.output, Nat.le_trans hg.size hb1.size, fun k hk hne => ?_⟩
          rw [hb1.block k (Nat.lt_of_lt_of_le hk hg.size), hg.block k hk hne]
    · rw [spec_l2Fill.A4_0_s]
      rw [show (v - 1).toNat = n by omega] at hs
      exact ⟨s, rfl, hs, hg, hn2⟩

def PermsV (n : Int) : List (List Int) := if 0 ≤ n ∧ n ≤ 6 then permsV n.toNat else []
theorem c_PermsOf {w : World} (n : Int) :
    Calls PP F.spec_PermsOf #[vI n] w fun e w' => ∃ s : Sl, e = .returned s.v ∧ OwnSS w' w.heap.size s (PermsV n) ∧ Below w.heap.size w w' := by
  refine spec_PermsOf.calls n ?_
  rw [spec_PermsOf.E_s]
  refine Pure.pcall1 (s := .bool) (c_l1In n 0 6) ?_
  refine bif_intro (fun h => ?_) (fun h => ?_)
  · have h : ¬ (0 ≤ n ∧ n ≤ 6) := by simp at h; omega
    refine lit0 oneSint (B := w.heap.size) (Nat.le_refl _) ?_
    intro s w1 hs hg _
    exact ⟨s, rfl, by rw [PermsV, if_neg h]; exact OwnSS.nil hs, below_of_grow hg⟩
  · have h : 0 ≤ n ∧ n ≤ 6 := by simpa using h
    obtain ⟨m, rfl⟩ : ∃ m : Nat, n = m := ⟨n.toNat, by omega⟩
    refine lit0 oneInt (B := w.heap.size) (Nat.le_refl _) ?_
    intro s w1 hs hg1 _
    have hb1 := below_of_grow hg1
    refine lit0 oneSint (B := w.heap.size) hb1.size ?_
    intro t w2 ht hg2 _
    have hb2 := hb1.grown hg2 hb1.size (by simp)
    have h8 : 8 ^ m ≤ 8 ^ 8 := Nat.pow_le_pow_right (by omega) (by omega)
    refine (c_l2Fill m (by omega) m w2 s t [] [] [] hb2 (OwnRows.nil ht) (hs.kept hg2 (by simp)) (fun t ht => by simp at ht) (by simp) (by simp only [List.length_nil]; omega)).mono ?_
    rintro e w3 ⟨u, rfl, hu, hg3, _⟩
    refine ⟨u, rfl, u, rfl, ?_, hb2.grown hg3 hb2.size (fun g hg => (ht.lt g hg).1)⟩
    rw [PermsV, if_pos h, Int.toNat_natCast, ← fillN_permsV]
    exact hu
end Go.Proofs.YteplokddaebbeaaGreat

/- Classes: what the functions answer, as lists. -/
namespace Go.Proofs.YteplokddaebbeaaGreat
open Go
set_option maxRecDepth 100000

def classT (LL : List (List Int)) (l : List (List Int)) : List (List Int) := l.filter (avoidsV LL)
def classV (LL : List (List Int)) (n : Nat) : List (List Int) := classT LL (permsV n)
theorem classT_snoc (LL l : List (List Int)) (p : List Int) : classT LL (l ++ [p]) = if avoidsV LL p = true then classT LL l ++ [p] else classT LL l := by
  unfold classT
  rw [List.filter_append]
  split
  · rename_i h; simp [h]
  · rename_i h; simp [h]
theorem perms_len6 {n : Nat} (hn : n ≤ 6) : (permsV n).length ≤ 46656 := Nat.le_trans (permsV_length n) (Nat.le_trans (Nat.pow_le_pow_left hn n) (Nat.pow_le_pow_right (by omega) hn))
theorem classV_len {LL : List (List Int)} {n : Nat} (hn : n ≤ 6) : (classV LL n).length ≤ 46656 := Nat.le_trans (List.length_filter_le _ _) (perms_len6 hn)
theorem classV_mem {LL : List (List Int)} {n : Nat} {p : List Int} (h : p ∈ classV LL n) : p ∈ permsV n ∧ avoidsV LL p = true := by
  rw [classV, classT, List.mem_filter] at h; exact h
def InCl (LL : List (List Int)) (P : List Int) : Prop := BasisOk LL ∧ IsP P ∧ avoidsV LL P = true
end Go.Proofs.YteplokddaebbeaaGreat

/- The permutations of a class: both texts. -/
namespace Go.Proofs.YteplokddaebbeaaGreat
open Go Go.RowKit
set_option maxRecDepth 100000

theorem BasisOk.len {LL : List (List Int)} (h : BasisOk LL) : ∀ q ∈ LL, q.length ≤ 8 := fun q hq => (h.isP hq).1
theorem c_isSix' (n : Int) : Pure F.impl_isSix #[vI n] (.bool (decide (0 ≤ n) && decide (n ≤ 6))) := by
  intro w
  refine impl_isSix.calls n ?_
  rw [impl_isSix.E_s]
  refine bif_dec (fun h => ?_) (fun h => ?_)
  · exact ⟨by simp; omega, rfl⟩
  · exact ⟨by simp; omega, rfl⟩
theorem c_class {w : World} {l : Sl} {LL : List (List Int)} (hl : RowSS w l LL) (hB : BasisOk LL) (n : Nat) (hn : n ≤ 6) :
    Calls PP F.impl_class #[l.v, vI n] w fun e w' => ∃ s : Sl, e = .returned s.v ∧ OwnSS w' w.heap.size s (classV LL n) ∧ Below w.heap.size w w' := by
  refine impl_class.calls l n ?_
  rw [impl_class.E_s]
  refine lit0 oneSint (B := w.heap.size) (Nat.le_refl _) ?_
  intro o0 w2 ho0 hg2 _
  have hb2 := below_of_grow hg2
  refine (c_perms n (by omega)).mono ?_
  rintro e w3 ⟨t, rfl, ht, hb23⟩
  refine ⟨t, rfl, ?_⟩
  have hb3 := hb2.trans (hb23.mono hb2.size)
  have htn := ht.row.n
  have hcnt := perms_len6 hn
  have hl8 := hB.1
  obtain ⟨ts, ht⟩ := ht
  refine impl_class.L3_rule _ _ _ _ _ _ _ (I := fun s i w' => 0 ≤ i ∧ i ≤ (permsV n).length ∧ Below w.heap.size w w' ∧ OwnRows w' w2.heap.size t ts (permsV n) ∧ Apt s t ∧
      ∃ rs, OwnRows w' w.heap.size s rs (classT LL ((permsV n).take i.toNat)) ∧ (∀ r ∈ rs, ∃ j, j < i.toNat ∧ ts[j]? = some r)) (μ := fun _ i _ => ((permsV n).length - i).toNat)
    ⟨by omega, by omega, hb3, ht, Apt.of_lt (fun g hg => (ho0.lt g hg).2) (fun g hg => (ht.out.lt g hg).1), [], (OwnRows.nil ho0).grow hb23, fun r hr => by simp at hr⟩ ?_
  rintro s i w' ⟨hi0, hi, hb, htw, hst, rs, hrs, hsub⟩
  rw [impl_class.B3_s, htn]
  refine bif_dec (fun h3 => ?_) (fun h3 => ?_)
  · have hlt : i.toNat < (permsV n).length := by omega
    refine OwnRows.load htw hi0 (by omega) fun r hr hor => ?_
    rw [getD_SS hlt] at hor
    have hpl := permsV_len (List.getElem_mem hlt)
    have hsucc : (i + 1).toNat = i.toNat + 1 := by omega
    refine (c_avoids (hl.grow hb) hor.row (by omega) (by omega) (fun q hq => by have := hB.len q hq; omega)).mono ?_
    rintro e w5 ⟨rfl, hb45⟩
    refine ⟨_, rfl, ?_⟩
    have hb5 := hb.trans (hb45.mono hb.size)
    have hcn : (classT LL ((permsV n).take i.toNat)).length ≤ 46656 := Nat.le_trans (List.length_filter_le _ _) (by rw [List.length_take]; omega)
    refine bif_intro (fun h7 => ?_) (fun h7 => ?_)
    · refine append_sl (hrs.grow hb45) hb5.size ((hor.grow hb45).mono hb2.size) (fun x hx g e1 e2 => ?_) (by omega) ?_
      · obtain ⟨j, hj, hj2⟩ := hsub x hx
        exact htw.apt j i.toNat x r (by omega) hj2 hr g e1 e2
      intro s' w6 hs6 hg6 hn6
      refine ⟨s', i + 1, by rw [w64_succ hi0 (by omega)], ⟨by omega, by omega, hb5.grown hg6 hb5.size (fun g hg => ((hrs.grow hb45).out.lt g hg).1), ?_, hst.next hn6 (fun g hg => ((htw.grow hb45).out.lt g hg).2), rs ++ [r], ?_, fun x hx => ?_⟩, by omega⟩
      · refine (htw.grow hb45).keeps (keeps_grown hg6) (fun g e1 e2 => hst g e2 e1) (fun x hx g e1 e2 => ?_)
        obtain ⟨M, _, hom⟩ := (htw.grow hb45).own hx
        exact ((hrs.grow hb45).out.apt hom (by decide)) g e2 e1
      · rw [hsucc, List.take_succ_eq_append_getElem hlt, classT_snoc, if_pos h7]
        exact hs6
      · rcases List.mem_append.1 hx with h8 | h8
        · obtain ⟨j, hj, hj2⟩ := hsub x h8
          exact ⟨j, by omega, hj2⟩
        · have : x = r := by simpa using h8
          subst this; exact ⟨i.toNat, by omega, hr⟩
    · refine ⟨s, i + 1, by rw [w64_succ hi0 (by omega)], ⟨by omega, by omega, hb5, htw.grow hb45, hst, rs, ?_, fun x hx => ?_⟩, by omega⟩
      · rw [hsucc, List.take_succ_eq_append_getElem hlt, classT_snoc, if_neg (by simp [h7])]
        exact hrs.grow hb45
      · obtain ⟨j, hj, hj2⟩ := hsub x hx
        exact ⟨j, by omega, hj2⟩
  · rw [impl_class.A3_0_s]
    rw [show i.toNat = (permsV n).length by omega, List.take_length] at hrs
    exact ⟨s, rfl, ⟨rs, hrs⟩, hb⟩
open Classical in
noncomputable def ClassOfV (LL : List (List Int)) (n : Int) : List (List Int) := if BasisOk LL ∧ 0 ≤ n ∧ n ≤ 6 then classV LL n.toNat else []
open Classical in
theorem c_ClassOf {w : World} {l : Sl} {LL : List (List Int)} (hl : RowSS w l LL) (hL : LL.length < 2^38) (ht0 : tot LL < 2^37) (n : Int) :
    Calls PP F.spec_ClassOf #[l.v, vI n] w fun e w' => ∃ s : Sl, e = .returned s.v ∧ OwnSS w' w.heap.size s (ClassOfV LL n) ∧ Below w.heap.size w w' := by
  refine spec_ClassOf.calls l n ?_
  rw [spec_ClassOf.E_s]
  refine lit0 oneSint (B := w.heap.size) (Nat.le_refl _) ?_
  intro o0 w1 ho0 hg1 _
  have hb1 := below_of_grow hg1
  refine (c_specIsBasis (hl.grow hb1) hL ht0).mono ?_
  rintro e w2 ⟨rfl, hb12⟩
  refine ⟨_, rfl, ?_⟩
  have hb2 := hb1.trans (hb12.mono hb1.size)
  have ho2 := (OwnRows.nil ho0).grow hb12
  refine bif_intro (fun h => ?_) (fun h => ?_)
  · have h : ¬ BasisOk LL := by simpa [IsBasisV] using h
    exact ⟨o0, rfl, by rw [ClassOfV, if_neg (fun hh => h hh.1)]; exact ⟨_, ho2⟩, hb2⟩
  have hB : BasisOk LL := by simpa [IsBasisV] using h
  refine Pure.pcall1 (s := .bool) (c_l1In n 0 6) ?_
  refine bif_intro (fun h => ?_) (fun h => ?_)
  · have h : ¬ (0 ≤ n ∧ n ≤ 6) := by simp at h; omega
    exact ⟨o0, rfl, by rw [ClassOfV, if_neg (fun hh => h hh.2)]; exact ⟨_, ho2⟩, hb2⟩
  have hn6 : 0 ≤ n ∧ n ≤ 6 := by simpa using h
  have hV : ClassOfV LL n = classV LL n.toNat := by rw [ClassOfV, if_pos ⟨hB, hn6⟩]
  obtain ⟨n, rfl⟩ : ∃ m : Nat, n = m := ⟨n.toNat, by omega⟩
  rw [Int.toNat_natCast] at hV
  refine (c_PermsOf n).mono ?_
  rintro e w3 ⟨t, rfl, ht, hb23⟩
  refine ⟨t, rfl, ?_⟩
  have hp : PermsV (n : Int) = permsV n := by rw [PermsV, if_pos (by omega), Int.toNat_natCast]
  rw [hp] at ht
  have hb3 := hb2.trans (hb23.mono hb2.size)
  have htn := ht.row.n
  have hcnt := perms_len6 (n := n) (by omega)
  have hl8 := hB.1
  obtain ⟨ts, ht⟩ := ht
  refine spec_ClassOf.L6_rule _ _ _ _ _ _ (I := fun s i w' => 0 ≤ i ∧ i ≤ (permsV n).length ∧ Below w.heap.size w w' ∧ OwnRows w' w2.heap.size t ts (permsV n) ∧ Apt s t ∧
      ∃ rs, OwnRows w' w.heap.size s rs (classT LL ((permsV n).take i.toNat)) ∧ (∀ r ∈ rs, ∃ j, j < i.toNat ∧ ts[j]? = some r)) (μ := fun _ i _ => ((permsV n).length - i).toNat)
    ⟨by omega, by omega, hb3, ht, Apt.of_lt (fun g hg => (ho2.out.lt g hg).2) (fun g hg => (ht.out.lt g hg).1), [], ho2.grow hb23, fun r hr => by simp at hr⟩ ?_
  rintro s i w' ⟨hi0, hi, hb, htw, hst, rs, hrs, hsub⟩
  rw [spec_ClassOf.B6_s, htn]
  refine bif_dec (fun h3 => ?_) (fun h3 => ?_)
  · have hlt : i.toNat < (permsV n).length := by omega
    refine OwnRows.load htw hi0 (by omega) fun r hr hor => ?_
    rw [getD_SS hlt] at hor
    have hpl := permsV_len (List.getElem_mem hlt)
    have hsucc : (i + 1).toNat = i.toNat + 1 := by omega
    refine (c_l12Avoids (hl.grow hb) hor.row (by omega) (by omega) hB.len).mono ?_
    rintro e w5 ⟨rfl, hb45⟩
    refine ⟨_, rfl, ?_⟩
    have hb5 := hb.trans (hb45.mono hb.size)
    have hcn : (classT LL ((permsV n).take i.toNat)).length ≤ 46656 := Nat.le_trans (List.length_filter_le _ _) (by rw [List.length_take]; omega)
    refine bif_intro (fun h7 => ?_) (fun h7 => ?_)
    · refine OwnRows.load (htw.grow hb45) hi0 (by omega) fun r2 hr2 hor2 => ?_
      rw [hr] at hr2
      obtain rfl : r = r2 := by simpa using hr2
      refine append_sl (hrs.grow hb45) hb5.size ((hor.grow hb45).mono hb2.size) (fun x hx g e1 e2 => ?_) (by omega) ?_
      · obtain ⟨j, hj, hj2⟩ := hsub x hx
        exact htw.apt j i.toNat x r (by omega) hj2 hr g e1 e2
      intro s' w6 hs6 hg6 hn6
      refine ⟨s', i + 1, by rw [w64_succ hi0 (by omega)], ⟨by omega, by omega, hb5.grown hg6 hb5.size (fun g hg => ((hrs.grow hb45).out.lt g hg).1), ?_, hst.next hn6 (fun g hg => ((htw.grow hb45).out.lt g hg).2), rs ++ [r], ?_, fun x hx => ?_⟩, by omega⟩
      · refine (htw.grow hb45).keeps (keeps_grown hg6) (fun g e1 e2 => hst g e2 e1) (fun x hx g e1 e2 => ?_)
        obtain ⟨M, _, hom⟩ := (htw.grow hb45).own hx
        exact ((hrs.grow hb45).out.apt hom (by decide)) g e2 e1
      · rw [hsucc, List.take_succ_eq_append_getElem hlt, classT_snoc, if_pos h7]
        exact hs6
      · rcases List.mem_append.1 hx with h8 | h8
        · obtain ⟨j, hj, hj2⟩ := hsub x h8
          exact ⟨j, by omega, hj2⟩
        · have : x = r := by simpa using h8
          subst this; exact ⟨i.toNat, by omega, hr⟩
    · refine ⟨s, i + 1, by rw [w64_succ hi0 (by omega)], ⟨by omega, by omega, hb5, htw.grow hb45, hst, rs, ?_, fun x hx => ?_⟩, by omega⟩
      · rw [hsucc, List.take_succ_eq_append_getElem hlt, classT_snoc, if_neg (by simp [h7])]
        exact hrs.grow hb45
      · obtain ⟨j, hj, hj2⟩ := hsub x hx
        exact ⟨j, by omega, hj2⟩
  · rw [spec_ClassOf.A6_0_s]
    rw [show i.toNat = (permsV n).length by omega, List.take_length] at hrs
    exact ⟨s, rfl, by rw [hV]; exact ⟨rs, hrs⟩, hb⟩
end Go.Proofs.YteplokddaebbeaaGreat

/- The draw of a basis with a permutation that is often of its class. -/
namespace Go.Proofs.YteplokddaebbeaaGreat
open Go Go.RowKit
set_option maxRecDepth 100000

theorem ClassOfV_small {LL : List (List Int)} {n : Int} (hn : n ≤ 4) : (ClassOfV LL n).length ≤ 256 ∧ ∀ P ∈ ClassOfV LL n, P.length ≤ 4 := by
  unfold ClassOfV
  split
  · rename_i h
    have h1 : (classV LL n.toNat).length ≤ (permsV n.toNat).length := List.length_filter_le _ _
    have h2 := permsV_length n.toNat
    have h3 : n.toNat ^ n.toNat ≤ 4 ^ 4 := Nat.le_trans (Nat.pow_le_pow_left (show n.toNat ≤ 4 by omega) _) (Nat.pow_le_pow_right (by omega) (by omega))
    refine ⟨by omega, fun P hP => ?_⟩
    have := permsV_len (classV_mem hP).1
    omega
  · exact ⟨by simp, fun P hP => by cases hP⟩
theorem OwnSS.curs {w w' B s LL c} (h : OwnSS w B s LL) (hk : Keeps (CS c) w w') (hc : c.block < B) : OwnSS w' B s LL := by
  obtain ⟨rs, h⟩ := h
  exact ⟨rs, h.keeps hk (fun g hg hs => by have := (h.out.lt g hg).1; unfold CS at hs; omega) (fun r hr g hg hs => by have := (h.lt hr hg).1; unfold CS at hs; omega)⟩
theorem c_l14Case {w : World} {a : Sl} {L : List Int} (ha : RowB w a L) (hL : L.length < 2^60) :
    Calls PP F.spec_l14Case #[a.v] w fun e w' => ∃ (s p : Sl) (LL : List (List Int)) (P : List Int), e = .returned (.tuple #[s.v, p.v]) ∧ RowSS w' s LL ∧ LL.length ≤ 4 ∧ tot LL ≤ 40 ∧ RowI w' p P ∧ P.length ≤ 9 ∧ Below w.heap.size w w' := by
  refine spec_l14Case.calls a ?_
  rw [spec_l14Case.E_s]
  refine (c_l1New ha hL).mono ?_
  rintro e w1 ⟨c, rfl, hc⟩
  refine ⟨some c, rfl, ?_⟩
  refine (c_l12Bent hc).mono ?_
  rintro e w2 ⟨s, LL, rfl, hs, hl, ht, hd2⟩
  refine ⟨s, rfl, ?_⟩
  refine (c_l1Below hd2.cur (n := 5) (by omega)).mono ?_
  rintro e w3 ⟨n, rfl, hn0, hn1, hc3, hk3⟩
  refine ⟨n, rfl, ?_⟩
  refine (c_ClassOf (hs w3 hk3) (by omega) (by omega) n).mono ?_
  rintro e w4 ⟨al, rfl, hal, hb4⟩
  refine ⟨al, rfl, ?_⟩
  obtain ⟨hc256, hcl⟩ := ClassOfV_small (LL := LL) (n := n) (by omega)
  have haln := hal.row.n
  have hc4 := hc3.grow hb4
  have hk24 : Keeps (CS c) w2 w4 := hk3.trans (keeps_below hb4 _)
  have bent : ∀ w5, Cur w w5 c → Keeps (CS c) w2 w5 → call1 .sl PP F.spec_l2Bent #[.pointer (some c)] w5 fun (ρ15 : Sl) ω16 =>
      (fun e w' => ∃ (s p : Sl) (LL : List (List Int)) (P : List Int), e = Ending.returned (.tuple #[s.v, p.v]) ∧ RowSS w' s LL ∧ LL.length ≤ 4 ∧ tot LL ≤ 40 ∧ RowI w' p P ∧ P.length ≤ 9 ∧ Below w.heap.size w w') (.returned (.tuple #[Sl.v s, Sl.v ρ15])) ω16 := by
    intro w5 hc5 hk5
    refine (c_l2Bent hc5).mono ?_
    rintro e w6 ⟨p, P, rfl, hp, hP, hc6, hk6⟩
    exact ⟨p, rfl, s, p, LL, P, rfl, hs w6 (hk5.trans hk6), hl, ht, hp.row, hP.1, hc6.below⟩
  refine bif_dec (fun h => ?_) (fun h => bent w4 hc4 hk24)
  refine (c_l1Once hc4 (n := 4) (by omega)).mono ?_
  rintro e w5 ⟨b, rfl, hc5, hk5⟩
  refine ⟨b, rfl, ?_⟩
  have hk25 := hk24.trans hk5
  refine bif_intro (fun _ => ?_) (fun _ => bent w5 hc5 hk25)
  refine drew_intro fun w6 hd6 => ?_
  have hb6 : Below w5.heap.size w5 w6 := hd6.below _
  have hc6 := hc5.grow hb6
  rw [haln]
  refine (c_l1Below hc6 (by omega)).mono ?_
  rintro e w7 ⟨x, rfl, hx0, hx1, hc7, hk7⟩
  refine ⟨x, rfl, ?_⟩
  have hal7 := ((hal.curs hk5 hc3.lt.2).grow hb6).curs hk7 hc3.lt.2
  have hlt : x.toNat < (ClassOfV LL n).length := by omega
  refine RowSS.get hal7.row hx0 (by omega) fun r hr => ?_
  rw [getD_SS hlt] at hr
  have := hcl _ (List.getElem_mem hlt)
  exact ⟨s, r, LL, _, rfl, hs w7 ((hk25.trans (keeps_below hb6 _)).trans hk7), hl, ht, hr, by omega, hc7.below⟩
end Go.Proofs.YteplokddaebbeaaGreat

/- The draws of the law of rules. -/
namespace Go.Proofs.YteplokddaebbeaaGreat
open Go Go.RowKit
set_option maxRecDepth 100000

theorem oneStrB : OneT T_Sstring T_string (.string ⟨#[]⟩) := oneT_of (by kernel_rfl) (by kernel_rfl) rfl
@[reducible] def RowX (w : World) (s : Sl) (L : List ByteArray) : Prop := Row w s (L.map Value.string)
@[reducible] def OwnX (w : World) (B : Nat) (s : Sl) (L : List ByteArray) : Prop := Own w B T_string s (L.map Value.string)
theorem RowX.get {w s L} (h : RowX w s L) {i : Int} (h0 : 0 ≤ i) (hi : i < L.length) {K : ByteArray → Prop} (hk : K (L[i.toNat]'(by omega))) : idxK 1 s i fun a => load1 .str a w K := by
  refine Row.get (sh := .str) (r := L[i.toNat]'(by omega)) h h0 ?_ hk
  rw [List.getElem?_map, List.getElem?_eq_getElem (by omega)]; rfl
/-- A literal of values of one cell. -/
theorem litV {t e z} (hT : OneT t e z) {w : World} {B : Nat} (hB : B ≤ w.heap.size) (n : Nat) (parts : Array (Nat × Value)) (vs : List Value) (h0 : 0 < n) (hn : vs.length = n) (hm : n ≤ 1000)
    (hf : Instr.fill (fun i => some (i * 1, 1)) ((Array.range (n * 1)).map (z.cells[· % z.cells.size]!)) parts.toList = some vs.toArray) {K : Sl → World → Prop}
    (h : ∀ s w', Own w' B e s vs → Below w.heap.size w w' → K s w') : sem1 .sl PP (Instr.buildSlice t n parts) w K := by
  obtain ⟨i, hu, hi, hz, hs, hb, hzc⟩ := hT
  have hrun : (Instr.buildSlice t n parts).run PP w = .ok (.slice (some ⟨w.heap.size, 0, none⟩) n n) (w.alloc (.cells vs.toArray e)) := by
    refine run_buildSlice w t e n parts vs.toArray i z hu hi hz (by rw [hs]; omega) (by rw [hs]; omega) ?_
    rw [hs]
    exact hf
  exact ⟨⟨some ⟨w.heap.size, 0, none⟩, n, n⟩, _, hrun, h _ _ ⟨by simp [hn], Nat.le_refl _, by simp only [maxLen]; omega, .inr ⟨_, _, rfl, hB, heap_alloc_new w _, by simp [hn], by
    show vs.toArray.toList.take n = vs
    exact List.take_of_length_le (by simp [hn])⟩⟩ (below_of_grow (World.grownBy_alloc w _ none))⟩
theorem c_l1Pick {w0 w : World} {c : Addr} (hc : Cur w0 w c) {s : Sl} {L : List ByteArray} (hs : ∀ w', Keeps (CS c) w w' → RowX w' s L) (h1 : 0 < L.length) (h2 : L.length ≤ 256) :
    Calls PP F.spec_l1Pick #[.pointer (some c), s.v] w fun e w' => ∃ x, e = .returned (.string x) ∧ x ∈ L ∧ Cur w0 w' c ∧ Keeps (CS c) w w' := by
  have hsn : s.n = L.length := by have := (hs w (Keeps.refl _ _)).n; simpa using this
  refine spec_l1Pick.calls c s ?_
  rw [spec_l1Pick.E_s, hsn]
  refine (c_l1Below hc (by omega)).mono ?_
  rintro e w1 ⟨x, rfl, h0, h3, hc1, hk1⟩
  refine ⟨x, rfl, ?_⟩
  refine RowX.get (hs w1 hk1) h0 (by omega) ?_
  exact ⟨_, rfl, List.getElem_mem _, hc1, hk1⟩
theorem c_SplitByte {w : World} (t : ByteArray) (b : Int) (ht : t.size ≤ 8) :
    Calls PP F.spec_SplitByte #[.string t, .int .u8 b] w fun e w' => ∃ s L, e = .returned (Sl.v s) ∧ OwnX w' w.heap.size s L ∧ L.length ≤ 9 ∧ (∀ x ∈ L, x.size ≤ 8) ∧ Below w.heap.size w w' := by
  refine spec_SplitByte.calls t b ?_
  rw [spec_SplitByte.E_s]
  refine lit0 oneStrB (B := w.heap.size) (Nat.le_refl _) ?_
  intro o w1 ho hg1 _
  have hb1 := below_of_grow hg1
  refine spec_SplitByte.L4_rule _ _ _ _ _ _ _ (I := fun o fr i w' => 0 ≤ fr ∧ fr ≤ i ∧ i ≤ t.size + 1 ∧ Below w.heap.size w w' ∧ ∃ L, OwnX w' w.heap.size o L ∧ L.length ≤ i.toNat ∧ ∀ x ∈ L, x.size ≤ 8) (μ := fun _ _ i _ => (t.size + 1 - i).toNat)
    ⟨by omega, by omega, by omega, hb1, [], ho, by simp, fun x hx => by cases hx⟩ ?_
  rintro o fr i w2 ⟨h0, h1, h2, hb, L, ho, hl, hL⟩
  have hs : ∀ x ∈ L ++ [t.extract fr.toNat i.toNat], x.size ≤ 8 := by
    intro x hx
    rcases List.mem_append.1 hx with hx | hx
    · exact hL x hx
    · simp at hx; subst hx; simp [ByteArray.size_extract]; omega
  rw [spec_SplitByte.B4_s]
  refine bif_dec (fun h3 => ?_) (fun h3 => ?_)
  · have e1 : w64 (i + 1) = i + 1 := w64_succ (by omega) (by omega)
    refine bif_intro (fun h4 => ?_) (fun h4 => ?_)
    · refine ⟨by simpa using h0, by simpa using h1, by simpa using h3, ?_⟩
      refine append_one oneStrB ho hb.size (One.str _) (by simp; omega) ?_
      intro o' w3 ho3 hg3 _
      refine ⟨o', i + 1, i + 1, by rw [e1], ⟨by omega, by omega, by omega, hb.grown hg3 hb.size (fun g hg => (ho.lt g hg).1), L ++ [t.extract fr.toNat i.toNat], by simpa [OwnX] using ho3, by simp; omega, by simpa using hs⟩, by omega⟩
    · have h5 : i ≠ t.size := by simpa using h4
      refine strIdx_intro (by omega) (by omega) ?_
      refine bif_intro (fun h6 => ?_) (fun h6 => ?_)
      · refine ⟨by simpa using h0, by simpa using h1, by simpa using h3, ?_⟩
        refine append_one oneStrB ho hb.size (One.str _) (by simp; omega) ?_
        intro o' w3 ho3 hg3 _
        refine ⟨o', i + 1, i + 1, by rw [e1], ⟨by omega, by omega, by omega, hb.grown hg3 hb.size (fun g hg => (ho.lt g hg).1), L ++ [t.extract fr.toNat i.toNat], by simpa [OwnX] using ho3, by simp; omega, by simpa using hs⟩, by omega⟩
      · exact ⟨o, fr, i + 1, by rw [e1], ⟨by omega, by omega, by omega, hb, L, ho, by omega, hL⟩, by omega⟩
  · rw [spec_SplitByte.A4_0_s]
    exact ⟨o, L, rfl, ho, by omega, hL, hb⟩
theorem c_ParsePerm {w : World} (t : ByteArray) (ht : t.size ≤ 8) :
    Calls PP F.spec_ParsePerm #[.string t] w fun e w' => ∃ s P b, e = .returned (.tuple #[Sl.v s, .bool b]) ∧ OwnI w' w.heap.size s P ∧ P.length ≤ 8 ∧ Below w.heap.size w w' := by
  refine spec_ParsePerm.calls t ?_
  rw [spec_ParsePerm.E_s]
  refine lit0 oneInt (B := w.heap.size) (Nat.le_refl _) ?_
  intro o w1 ho hg1 _
  have hb1 := below_of_grow hg1
  have none_ : ∀ (w2 : World), Below w.heap.size w w2 → sem1 .sl PP (Instr.buildSlice T_Sint 0 #[]) w2 fun (ρ : Sl) ω => ∃ s P b, Ending.returned (.tuple #[Sl.v ρ, .bool false]) = .returned (.tuple #[Sl.v s, .bool b]) ∧ OwnI ω w.heap.size s P ∧ P.length ≤ 8 ∧ Below w.heap.size w ω := by
    intro w2 hb
    refine lit0 oneInt (B := w.heap.size) hb.size ?_
    intro o w3 ho hg _
    exact ⟨o, [], false, rfl, ho, by simp, hb.grown hg hb.size (fun g hg => by cases hg)⟩
  refine bif_intro (fun _ => ⟨o, [], true, rfl, ho, by simp, hb1⟩) (fun _ => ?_)
  refine spec_ParsePerm.L5_rule _ _ _ _ _ (I := fun o k w' => 0 ≤ k ∧ k ≤ t.size ∧ Below w.heap.size w w' ∧ ∃ L, OwnI w' w.heap.size o L ∧ L.length = k.toNat) (μ := fun _ k _ => (t.size - k).toNat)
    ⟨by omega, by omega, hb1, [], ho, by simp⟩ ?_
  rintro o k w2 ⟨h0, h1, hb, L, ho, hl⟩
  rw [spec_ParsePerm.B5_s]
  refine bif_dec (fun h3 => ?_) (fun h3 => ?_)
  · refine strIdx_intro h0 h3 ?_
    refine append_int ho hb.size (by omega) ?_
    intro o' w3 ho3 hg3 _
    exact ⟨o', k + 1, by rw [w64_succ h0 (by omega)], ⟨by omega, by omega, hb.grown hg3 hb.size (fun g hg => (ho.lt g hg).1), _, ho3, by simp; omega⟩, by omega⟩
  · rw [spec_ParsePerm.A5_0_s]
    refine bif_intro (fun _ => none_ w2 hb) (fun _ => ?_)
    refine Quiet.call1 (s := .bool) (c_specIsPerm ho.row (by omega)) ?_
    intro w3 hd
    have hb3 := hb.trans (hd.below _)
    refine bif_intro (fun _ => none_ w3 hb3) (fun _ => ?_)
    exact ⟨o, L, true, rfl, Own.heap ho hd.heap', by omega, hb3⟩
theorem c_ParseBasis {w : World} (t : ByteArray) (ht : t.size ≤ 8) :
    Calls PP F.spec_ParseBasis #[.string t] w fun e w' => ∃ s rs b, e = .returned (.tuple #[Sl.v s, .bool b]) ∧ Shd w' w.heap.size s rs ∧ rs.length ≤ 9 ∧ Below w.heap.size w w' := by
  refine spec_ParseBasis.calls t ?_
  rw [spec_ParseBasis.E_s]
  refine lit0 oneSint (B := w.heap.size) (Nat.le_refl _) ?_
  intro o w1 ho hg1 _
  have hb1 := below_of_grow hg1
  have none_ : ∀ (w2 : World), Below w.heap.size w w2 → sem1 .sl PP (Instr.buildSlice T_SSint 0 #[]) w2 fun (ρ : Sl) ω => ∃ s rs b, Ending.returned (.tuple #[Sl.v ρ, .bool false]) = .returned (.tuple #[Sl.v s, .bool b]) ∧ Shd ω w.heap.size s rs ∧ rs.length ≤ 9 ∧ Below w.heap.size w ω := by
    intro w2 hb
    refine lit0 oneSint (B := w.heap.size) hb.size ?_
    intro o w3 ho hg _
    exact ⟨o, [], false, rfl, Shd.nil ho, by simp, hb.grown hg hb.size (fun g hg => by cases hg)⟩
  refine bif_intro (fun _ => ⟨o, [], true, rfl, Shd.nil ho, by simp, hb1⟩) (fun _ => ?_)
  refine (c_SplitByte t 32 ht).mono ?_
  rintro e w2 ⟨p, PT, rfl, hp, hpl, hps, g2⟩
  refine ⟨p, rfl, ?_⟩
  have hb2 := hb1.trans (g2.mono hb1.size)
  have hpn : p.n = PT.length := by have := hp.n; simpa using this
  refine spec_ParseBasis.L6_rule _ _ _ _ _ (I := fun o k w' => 0 ≤ k ∧ k ≤ PT.length ∧ Below w.heap.size w w' ∧ OwnX w' w.heap.size p PT ∧ ∃ rs, Shd w' w.heap.size o rs ∧ rs.length = k.toNat) (μ := fun _ k _ => (PT.length - k).toNat)
    ⟨by omega, by omega, hb2, Own.mono hp hb1.size, [], Shd.nil (Own.grow ho g2), by simp⟩ ?_
  rintro o k w3 ⟨h0, h1, hb3, hp3, rs, hs, hl⟩
  rw [spec_ParseBasis.B6_s, hpn]
  refine bif_dec (fun h3 => ?_) (fun h3 => ?_)
  · refine RowX.get hp3.row h0 h3 ?_
    refine (c_ParsePerm _ (hps _ (List.getElem_mem _))).mono ?_
    rintro e w4 ⟨r, P, b, rfl, hr, hrl, g4⟩
    refine ⟨r, b, rfl, ?_⟩
    have hb4 := hb3.trans (g4.mono hb3.size)
    have hs4 := hs.grow g4
    refine bif_intro (fun _ => ?_) (fun _ => ?_)
    · refine lit0 oneSint (B := w.heap.size) hb4.size ?_
      intro o w5 ho hg _
      rw [spec_ParseBasis.R6_s]
      exact ⟨o, [], false, rfl, Shd.nil ho, by simp, hb4.grown hg hb4.size (fun g hg => by cases hg)⟩
    · refine append_one oneSint hs4.out hb4.size (One.sl r) (by simp; omega) ?_
      intro o' w5 ho5 hg5 hn5
      have e5 : rs.map Sl.v ++ [r.v] = (rs ++ [r]).map Sl.v := by simp
      rw [e5] at ho5
      have hp4 := Own.grow hp3 g4
      refine ⟨o', k + 1, by rw [w64_succ h0 (by omega)], ⟨by omega, by omega, hb4.grown hg5 hb4.size (fun g hg => (hs4.out.lt g hg).1), Own.kept hp4 hg5 (fun g hg' e => (hs4.out.apt hp4 (by decide)) g e hg'), rs ++ [r], ⟨ho5, ?_⟩, by simp; omega⟩, by omega⟩
      · refine rows_kept (fun q hq => ?_) hs4.out hg5
        rcases List.mem_append.1 hq with hq | hq
        · exact hs4.row q hq
        · simp at hq; subst hq; exact ⟨P, Own.mono hr hb3.size, hrl⟩
  · rw [spec_ParseBasis.A6_0_s]
    obtain ⟨LL, hLL, hll, h8⟩ := hs.rows
    have htl := tot_le8 h8
    refine (c_specIsBasis hLL (by omega) (by omega)).mono ?_
    rintro e w4 ⟨rfl, g4⟩
    refine ⟨_, rfl, ?_⟩
    have hb4 := hb3.trans (g4.mono hb3.size)
    refine bif_intro (fun _ => none_ w4 hb4) (fun _ => ?_)
    exact ⟨o, rs, true, rfl, hs.grow g4, by omega, hb4⟩
theorem sizes14 : ∀ x ∈ ([⟨#[]⟩, ⟨#[49, 50, 51]⟩, ⟨#[49, 51, 50]⟩, ⟨#[50, 49, 51]⟩, ⟨#[50, 51, 49]⟩, ⟨#[51, 49, 50]⟩, ⟨#[51, 50, 49]⟩, ⟨#[49, 50]⟩, ⟨#[50, 49]⟩, ⟨#[49, 50, 51, 32, 49, 51, 50]⟩, ⟨#[49, 51, 50, 32, 50, 49, 51]⟩, ⟨#[50, 51, 49, 32, 51, 49, 50]⟩, ⟨#[49]⟩, ⟨#[49, 50, 51, 32, 51, 50, 49]⟩] : List ByteArray), x.size ≤ 8 := by
  intro x hx
  simp only [List.mem_cons, List.mem_nil_iff, or_false] at hx
  rcases hx with rfl | rfl | rfl | rfl | rfl | rfl | rfl | rfl | rfl | rfl | rfl | rfl | rfl | rfl <;> decide
theorem c_DrawRuleUpTo {w : World} {a : Sl} {L : List Int} (ha : RowB w a L) (hL : L.length < 2^60) :
    Calls PP F.spec_DrawRuleUpTo #[a.v] w fun e w' => ∃ (s : Sl) (LL : List (List Int)) (n : Int), e = .returned (.tuple #[s.v, vI n]) ∧ RowSS w' s LL ∧ LL.length ≤ 9 ∧ tot LL ≤ 72 ∧ -1 ≤ n ∧ n ≤ 4 ∧ Below w.heap.size w w' := by
  refine spec_DrawRuleUpTo.calls a ?_
  rw [spec_DrawRuleUpTo.E_s]
  refine (c_l1New ha hL).mono ?_
  rintro e w1 ⟨c, rfl, hc⟩
  refine ⟨some c, rfl, ?_⟩
  refine litV oneStrB (B := w1.heap.size) (Nat.le_refl _) 14 _ (([⟨#[]⟩, ⟨#[49, 50, 51]⟩, ⟨#[49, 51, 50]⟩, ⟨#[50, 49, 51]⟩, ⟨#[50, 51, 49]⟩, ⟨#[51, 49, 50]⟩, ⟨#[51, 50, 49]⟩, ⟨#[49, 50]⟩, ⟨#[50, 49]⟩, ⟨#[49, 50, 51, 32, 49, 51, 50]⟩, ⟨#[49, 51, 50, 32, 50, 49, 51]⟩, ⟨#[50, 51, 49, 32, 51, 49, 50]⟩, ⟨#[49]⟩, ⟨#[49, 50, 51, 32, 51, 50, 49]⟩] : List ByteArray).map Value.string) (by omega) rfl (by omega) (by kernel_rfl) ?_
  intro t w2 ht hb2
  have hd2 := (Dr.start hc).grow hb2
  refine (c_l1Pick hd2.cur (fun w' hk => (Own.curs ht hk hc.lt.2).row) (by simp) (by simp)).mono ?_
  rintro e w3 ⟨x, rfl, hx, hc3, hk3⟩
  refine ⟨x, rfl, ?_⟩
  have hd3 := hd2.curs hc3 hk3
  have hx8 := sizes14 x hx
  clear ht hx
  refine (c_ParseBasis x hx8).mono ?_
  rintro e w4 ⟨s, rs, b, rfl, hs, hrl, hb4⟩
  refine ⟨s, b, rfl, ?_⟩
  have hd4 := hd3.grow hb4
  refine (c_l1Once hd4.cur (n := 3) (by omega)).mono ?_
  rintro e w5 ⟨bo, rfl, hc5, hk5⟩
  refine ⟨bo, rfl, ?_⟩
  have hd5 := hd4.curs hc5 hk5
  have fin : ∀ (s : Sl) (LL : List (List Int)) (w6 : World), Cur w w6 c → (∀ w7, Keeps (CS c) w6 w7 → RowSS w7 s LL) → LL.length ≤ 9 → tot LL ≤ 72 → spec_DrawRuleUpTo.J5 std (some c) s w6 fun e w' => ∃ (s : Sl) (LL : List (List Int)) (n : Int), e = .returned (.tuple #[s.v, vI n]) ∧ RowSS w' s LL ∧ LL.length ≤ 9 ∧ tot LL ≤ 72 ∧ -1 ≤ n ∧ n ≤ 4 ∧ Below w.heap.size w w' := by
    intro s LL w6 hc6 hs6 hl ht
    rw [spec_DrawRuleUpTo.J5_s]
    refine (c_l1Below hc6 (n := 5) (by omega)).mono ?_
    rintro e w7 ⟨n, rfl, hn0, hn1, hc7, hk7⟩
    refine ⟨n, rfl, ?_⟩
    refine (c_l1Once hc7 (n := 12) (by omega)).mono ?_
    rintro e w8 ⟨b, rfl, hc8, hk8⟩
    refine ⟨b, rfl, ?_⟩
    refine Pure.pcall1 (s := .int .i64) (c_l1Bit b) ?_
    have hbt : 0 ≤ (if b then (1 : Int) else 0) ∧ (if b then (1 : Int) else 0) ≤ 1 := by cases b <;> simp
    exact ⟨s, LL, _, by rw [w64_id (by omega) (by omega)], hs6 w8 (hk7.trans hk8), hl, ht, by omega, by omega, hc8.below⟩
  refine bif_intro (fun _ => ?_) (fun _ => ?_)
  · refine (c_l12Bent hd5.cur).mono ?_
    rintro e w6 ⟨u, LL, rfl, hu, hl, ht, hd6⟩
    exact ⟨u, rfl, fin u LL w6 hd6.cur hu (by omega) (by omega)⟩
  · obtain ⟨LL, hl1, hl2, h8⟩ := choose_rows hs.row
    have htl := tot_le8 h8
    exact fin s LL w5 hd5.cur (fun w7 hk7 => ⟨rs, (hs.out.curs (hk5.trans hk7) hd3.cur.lt.2).row, hl1, fun i q M e1 e2 => (Own.curs (hl2 i q M e1 e2) (hk5.trans hk7) hd3.cur.lt.2).row⟩) (by omega) (by omega)
theorem c_DrawChildLabels {w : World} {a : Sl} {L : List Int} (ha : RowB w a L) (hL : L.length < 2^60) :
    Calls PP F.spec_DrawChildLabels #[a.v] w fun e w' => ∃ (s p : Sl) (LL : List (List Int)) (P : List Int), e = .returned (.tuple #[s.v, p.v]) ∧ RowSS w' s LL ∧ LL.length ≤ 4 ∧ tot LL ≤ 40 ∧ RowI w' p P ∧ P.length ≤ 9 ∧ Below w.heap.size w w' := by
  refine spec_DrawChildLabels.calls a ?_
  rw [spec_DrawChildLabels.E_s]
  refine (c_l14Case ha hL).mono ?_
  rintro e w' ⟨s, p, LL, P, rfl, h⟩
  exact ⟨s, p, rfl, s, p, LL, P, rfl, h⟩
theorem c_DrawLabelsAt {w : World} {a : Sl} {L : List Int} (ha : RowB w a L) (hL : L.length < 2^60) :
    Calls PP F.spec_DrawLabelsAt #[a.v] w fun e w' => ∃ (s : Sl) (LL : List (List Int)) (n : Int), e = .returned (.tuple #[s.v, vI n]) ∧ RowSS w' s LL ∧ LL.length ≤ 4 ∧ tot LL ≤ 40 ∧ -1 ≤ n ∧ n ≤ 7 ∧ Below w.heap.size w w' := by
  refine spec_DrawLabelsAt.calls a ?_
  rw [spec_DrawLabelsAt.E_s]
  refine (c_l12Case ha hL).mono ?_
  rintro e w' ⟨s, LL, n, rfl, h⟩
  exact ⟨s, n, rfl, s, LL, n, rfl, h⟩
theorem fill5 (a b c d e : Sl) : Instr.fill (fun i => some (i * 1, 1)) ((Array.range (5 * 1)).map ((Sl.nil.v).cells[· % (Sl.nil.v).cells.size]!)) [(0, a.v), (1, b.v), (2, c.v), (3, d.v), (4, e.v)] = some #[a.v, b.v, c.v, d.v, e.v] := by kernel_rfl
theorem fill3 (a b c : Sl) : Instr.fill (fun i => some (i * 1, 1)) ((Array.range (3 * 1)).map ((Sl.nil.v).cells[· % (Sl.nil.v).cells.size]!)) [(0, a.v), (1, b.v), (2, c.v)] = some #[a.v, b.v, c.v] := by kernel_rfl
theorem fill2i (a b : Int) : Instr.fill (fun i => some (i * 1, 1)) ((Array.range (2 * 1)).map ((vI 0).cells[· % (vI 0).cells.size]!)) [(0, vI a), (1, vI b)] = some #[vI a, vI b] := by kernel_rfl
def DrawnR (w0 : World) (e : Ending) (w' : World) : Prop := ∃ (s : Sl) (R : List (List Int)) (x n : Int), e = .returned (.tuple #[s.v, vI x, vI n]) ∧ RowSS w' s R ∧ R.length ≤ 9 ∧ tot R ≤ 72 ∧ Below w0.heap.size w0 w'
theorem rcJ7 {w0 w : World} {c : Addr} {s : Sl} {R : List (List Int)} (hc : Cur w0 w c) (hs : ∀ w', Keeps (CS c) w w' → RowSS w' s R) (hl : R.length ≤ 9) (ht : tot R ≤ 72) : spec_DrawRuleCounts.J7 std (some c) s w (DrawnR w0) := by
  rw [spec_DrawRuleCounts.J7_s]
  refine (c_l1Below hc (n := 5) (by omega)).mono ?_
  rintro e w1 ⟨x, rfl, hx0, hx1, hc1, hk1⟩
  refine ⟨x, rfl, ?_⟩
  refine litL (B := w1.heap.size) (Nat.le_refl _) 9 _ [0, 1, 2, 3, 4, 5, 8, 9, -1] (by omega) rfl (by omega) (by kernel_rfl) ?_
  intro t w2 htt hb2
  have hc2 := hc1.grow hb2
  refine (c_l1PickInt hc2 (L := [0, 1, 2, 3, 4, 5, 8, 9, -1]) (fun w' hk => (Own.curs htt hk hc1.lt.2).row) (by simp) (by simp)).mono ?_
  rintro e w3 ⟨n, rfl, hn, hc3, hk3⟩
  exact ⟨n, rfl, s, R, x, n, rfl, hs w3 ((hk1.trans (keeps_below hb2 _)).trans hk3), hl, ht, hc3.below⟩
theorem shd_rows {w : World} {c : Addr} {B : Nat} {s : Sl} {rs : List Sl} (h : Shd w B s rs) (hB : c.block < B) (hl : rs.length ≤ 9) : ∃ R : List (List Int), (∀ w', Keeps (CS c) w w' → RowSS w' s R) ∧ R.length ≤ 9 ∧ tot R ≤ 72 := by
  obtain ⟨LL, hl1, hl2, h8⟩ := choose_rows h.row
  have htl := tot_le8 h8
  exact ⟨LL, fun w7 hk => ⟨rs, (h.out.curs hk hB).row, hl1, fun i q M e1 e2 => (Own.curs (hl2 i q M e1 e2) hk hB).row⟩, by omega, by omega⟩
theorem rcJ5 {w0 wb w : World} {c : Addr} {s : Sl} {rs : List Sl} (hd : Dr w0 wb w c) (hs : Shd w wb.heap.size s rs) (hl : rs.length ≤ 8) : spec_DrawRuleCounts.J5 std (some c) s w (DrawnR w0) := by
  rw [spec_DrawRuleCounts.J5_s]
  refine (c_l1Once hd.cur (n := 12) (by omega)).mono ?_
  rintro e w1 ⟨b, rfl, hc1, hk1⟩
  refine ⟨b, rfl, ?_⟩
  have hd1 := hd.curs hc1 hk1
  have hs1 := hs.curs hk1 hd.lt
  refine bif_intro (fun _ => ?_) (fun _ => ?_)
  · refine lit0 oneInt (B := wb.heap.size) hd1.keeps.size ?_
    intro r w2 hr hg2 _
    have hb2 := below_of_grow hg2
    have hd2 := hd1.grow hb2
    have hs2 := hs1.grow hb2
    refine append_one oneSint hs2.out hd2.keeps.size (One.sl r) (by simp; omega) ?_
    intro o' w3 ho3 hg3 _
    have e3 : rs.map Sl.v ++ [r.v] = (rs ++ [r]).map Sl.v := by simp
    rw [e3] at ho3
    have hd3 := hd2.step (keeps_grown hg3) (fun g hg => (hs2.out.lt g hg).1)
    have hs3 : Shd w3 wb.heap.size o' (rs ++ [r]) := ⟨ho3, by
      refine rows_kept (fun q hq => ?_) hs2.out hg3
      rcases List.mem_append.1 hq with hq | hq
      · exact hs2.row q hq
      · simp at hq; subst hq; exact ⟨[], hr, by simp⟩⟩
    obtain ⟨R, h1, h2, h3⟩ := shd_rows hs3 hd.lt (by simp; omega)
    exact rcJ7 hd3.cur h1 h2 h3
  · obtain ⟨R, h1, h2, h3⟩ := shd_rows hs1 hd.lt (by omega)
    exact rcJ7 hc1 h1 h2 h3
theorem c_DrawRuleCounts {w : World} {a : Sl} {L : List Int} (ha : RowB w a L) (hL : L.length < 2^60) : Calls PP F.spec_DrawRuleCounts #[a.v] w (DrawnR w) := by
  refine spec_DrawRuleCounts.calls a ?_
  rw [spec_DrawRuleCounts.E_s]
  refine (c_l1New ha hL).mono ?_
  rintro e wb ⟨c, rfl, hc⟩
  refine ⟨some c, rfl, ?_⟩
  have hd := Dr.start hc
  refine litL (B := wb.heap.size) (Nat.le_refl _) 2 _ [1, 2] (by omega) rfl (by omega) (by kernel_rfl) ?_
  intro r1 w1 h1 b1
  have k1 := b1
  refine litL (B := wb.heap.size) k1.size 3 _ [2, 2, 3] (by omega) rfl (by omega) (by kernel_rfl) ?_
  intro r2 w2 h2 b2
  have k2 := k1.trans (b2.mono k1.size)
  refine litL (B := wb.heap.size) k2.size 4 _ [3, 2, 3, 4] (by omega) rfl (by omega) (by kernel_rfl) ?_
  intro r3 w3 h3 b3
  have k3 := k2.trans (b3.mono k2.size)
  refine litL (B := wb.heap.size) k3.size 5 _ [4, 2, 3, 4, 5] (by omega) rfl (by omega) (by kernel_rfl) ?_
  intro r4 w4 h4 b4
  have k4 := k3.trans (b4.mono k3.size)
  refine litL (B := wb.heap.size) k4.size 3 _ [5, 2, 3] (by omega) rfl (by omega) (by kernel_rfl) ?_
  intro r5 w5 h5 b5
  have k5 := k4.trans (b5.mono k4.size)
  refine litV oneSint (B := wb.heap.size) k5.size 5 _ [r1.v, r2.v, r3.v, r4.v, r5.v] (by omega) rfl (by omega) (fill5 r1 r2 r3 r4 r5) ?_
  intro o w6 ho b6
  have k6 := k5.trans (b6.mono k5.size)
  have hs6 : Shd w6 wb.heap.size o [r1, r2, r3, r4, r5] := ⟨ho, fun q hq => by
    simp only [List.mem_cons, List.mem_nil_iff, or_false] at hq
    rcases hq with rfl | rfl | rfl | rfl | rfl
    · exact ⟨_, Own.grow (Own.grow (Own.grow (Own.grow (Own.grow h1 b2) b3) b4) b5) b6, by simp⟩
    · exact ⟨_, Own.grow (Own.grow (Own.grow (Own.grow h2 b3) b4) b5) b6, by simp⟩
    · exact ⟨_, Own.grow (Own.grow (Own.grow h3 b4) b5) b6, by simp⟩
    · exact ⟨_, Own.grow (Own.grow h4 b5) b6, by simp⟩
    · exact ⟨_, Own.grow h5 b6, by simp⟩⟩
  have hd6 := hd.grow k6
  clear h1 h2 h3 h4 h5
  refine (c_l1Once hd6.cur (n := 3) (by omega)).mono ?_
  rintro e w7 ⟨b, rfl, hc7, hk7⟩
  refine ⟨b, rfl, ?_⟩
  have hd7 := hd6.curs hc7 hk7
  refine bif_intro (fun _ => ?_) (fun _ => rcJ5 hd7 (hs6.curs hk7 hd.lt) (by simp))
  refine (c_l1Below hc7 (n := 4) (by omega)).mono ?_
  rintro e w8 ⟨x, rfl, hx0, hx1, hc8, hk8⟩
  refine ⟨x, rfl, ?_⟩
  have hd8 := hd7.curs hc8 hk8
  refine litL (B := wb.heap.size) hd8.keeps.size 2 _ [1, x] (by omega) rfl (by omega) (fill2i 1 x) ?_
  intro r1 v1 h1 b1
  have d1 := hd8.grow b1
  refine litL (B := wb.heap.size) d1.keeps.size 3 _ [2, 1, 2] (by omega) rfl (by omega) (by kernel_rfl) ?_
  intro r2 v2 h2 b2
  have d2 := d1.grow b2
  refine litL (B := wb.heap.size) d2.keeps.size 1 _ [3] (by omega) rfl (by omega) (by kernel_rfl) ?_
  intro r3 v3 h3 b3
  have d3 := d2.grow b3
  refine litV oneSint (B := wb.heap.size) d3.keeps.size 3 _ [r1.v, r2.v, r3.v] (by omega) rfl (by omega) (fill3 r1 r2 r3) ?_
  intro o w9 ho b4
  refine rcJ5 (d3.grow b4) (rs := [r1, r2, r3]) ⟨ho, fun q hq => ?_⟩ (by simp)
  simp only [List.mem_cons, List.mem_nil_iff, or_false] at hq
  rcases hq with rfl | rfl | rfl
  · exact ⟨_, Own.grow (Own.grow (Own.grow h1 b2) b3) b4, by simp⟩
  · exact ⟨_, Own.grow (Own.grow h2 b3) b4, by simp⟩
  · exact ⟨_, Own.grow h3 b4, by simp⟩
end Go.Proofs.YteplokddaebbeaaGreat

/- What each function does, step by step, written by a program (Gen.lean); each equation is checked by the kernel. -/
namespace Go.Proofs.YteplokddaebbeaaGreat
open Go
set_option linter.unusedVariables false
set_option maxRecDepth 100000
namespace impl_labels
@[reducible] def cfg : Cfg := ⟨26, [(3, [0, 5, 9, 10, 11])], [(1, [0, 5, 9, 10, 11]), (0, [5])], [], [4], [], [13, 12, 21, 89, 36, 108, 74, 75, 104, 78, 125], [73, 117, 103, 46, 4, 30, 40]⟩
def q2 (pr : Prims) (R : Ending → World → Prop) : Exit → Env → World → Prop := fun ex e w => normQ ex (fun e w => contE pr cfg (sub (codeOf Tryz.f34) [1, 1, 1]) (fun e w => wpC pr PP cfg (DD pr) (sub (codeOf Tryz.f34) [1, 1, 1]) (retQ Tryz.f34.results.toList R) e w) e w) (retQ Tryz.f34.results.toList R) e w
def q3 (pr : Prims) (R : Ending → World → Prop) : Exit → Env → World → Prop := fun ex e w => blockQ ex 0 (q2 pr R) e w
def emb3 (list_0 : Sl) (out_5 : Sl) (t9 : Sl) (t10 : Int) (t11 : Int) : Env := [(0, Sl.v list_0), (5, Sl.v out_5), (9, Sl.v t9), (10, vI t10), (11, vI t11)]
def x0 (out_5 : Sl) : Env := [(5, Sl.v out_5)]
def S3 (pr : Prims) (Q : Exit → Env → World → Prop) : (Env → World → Prop) → Env → World → Prop := fun k e w => wpC pr PP cfg (DD pr) (sub (codeOf Tryz.f34) [1, 1, 0, 1, 0, 0]) (fun ex e w => normQ ex (fun e' w' => k (Env.restr e' (lookN cfg.loops (keyOf (sub (codeOf Tryz.f34) [1, 1, 0, 1, 0, 0])))) w') Q e w) e w
def B3 (pr : Prims) (list_0 : Sl) (out_5 : Sl) (t9 : Sl) (t10 : Int) (t11 : Int) (w : World) (k : Env → World → Prop) (Q : Exit → Env → World → Prop) : Prop :=
  S3 pr Q k (emb3 list_0 out_5 t9 t10 t11) w
def L3 (pr : Prims) (list_0 : Sl) (out_5 : Sl) (t9 : Sl) (t10 : Int) (t11 : Int) (w : World) (Q : Exit → Env → World → Prop) : Prop :=
  pr.loop (S3 pr Q) (emb3 list_0 out_5 t9 t10 t11) w
def E (pr : Prims) (list_0 : Sl) (perms_1 : Sl) (w : World) (R : Ending → World → Prop) : Prop :=
  wpC pr PP cfg (DD pr) (codeOf Tryz.f34) (retQ Tryz.f34.results.toList R) (argE 0 [Sl.v list_0, Sl.v perms_1]) w
theorem B3_eq (pr : Prims) (list_0 : Sl) (out_5 : Sl) (t9 : Sl) (t10 : Int) (t11 : Int) (w : World) (k : Env → World → Prop) (Q : Exit → Env → World → Prop) : B3 pr list_0 out_5 t9 t10 t11 w k Q = (
  bif decide (t11 < t10) then (
  pr.idxK 1 t9 t11 fun (a4 : Addr) =>
  pr.load1 .sl a4 w fun (ξ5 : Sl) =>
  pr.call1 .sl PP F.impl_active #[Sl.v list_0, Sl.v ξ5] w fun (ρ6 : Sl) ω7 =>
  pr.sem1 .sl PP (Instr.buildSlice T_Sint 1 #[(0, vI (ρ6.n : Int))]) ω7 fun (ρ8 : Sl) ω9 =>
  pr.sem1 .sl PP (Builtin.append_ #[T_Sint, T_Sint] T_Sint #[Sl.v out_5, Sl.v ρ8]) ω9 fun (ρ10 : Sl) ω11 =>
  k (emb3 list_0 ρ10 t9 t10 (w64 (t11 + 1))) ω11)
  else (
  Q (.exit 0) (x0 out_5) w)) := by kernel_rfl
theorem B3_s (list_0 : Sl) (out_5 : Sl) (t9 : Sl) (t10 : Int) (t11 : Int) (w : World) (k : Env → World → Prop) (Q : Exit → Env → World → Prop) : B3 std list_0 out_5 t9 t10 t11 w k Q = (
  bif decide (t11 < t10) then (
  idxK 1 t9 t11 fun (a4 : Addr) =>
  load1 .sl a4 w fun (ξ5 : Sl) =>
  call1 .sl PP F.impl_active #[Sl.v list_0, Sl.v ξ5] w fun (ρ6 : Sl) ω7 =>
  sem1 .sl PP (Instr.buildSlice T_Sint 1 #[(0, vI (ρ6.n : Int))]) ω7 fun (ρ8 : Sl) ω9 =>
  sem1 .sl PP (Builtin.append_ #[T_Sint, T_Sint] T_Sint #[Sl.v out_5, Sl.v ρ8]) ω9 fun (ρ10 : Sl) ω11 =>
  k (emb3 list_0 ρ10 t9 t10 (w64 (t11 + 1))) ω11)
  else (
  Q (.exit 0) (x0 out_5) w)) := B3_eq std list_0 out_5 t9 t10 t11 w k Q
theorem L3_rule (list_0 : Sl) (out_5 : Sl) (t9 : Sl) (t10 : Int) (t11 : Int) (w : World) (Q : Exit → Env → World → Prop) (I : Sl → Int → World → Prop) (μ : Sl → Int → World → Nat) (h0 : I out_5 t11 w)
    (h : ∀ (out_5 : Sl) (t11 : Int) (w' : World), I out_5 t11 w' → B3 std list_0 out_5 t9 t10 t11 w' (fun e2 w2 => ∃ out_5_n t11_n, e2 = emb3 list_0 out_5_n t9 t10 t11_n ∧ I out_5_n t11_n w2 ∧ μ out_5_n t11_n w2 < μ out_5 t11 w') Q) :
    L3 std list_0 out_5 t9 t10 t11 w Q := by
  unfold L3
  refine LoopE.intro (σ := Sl × Int) (step := S3 std Q) (fun s => emb3 list_0 s.1 t9 t10 s.2) (fun s w => I s.1 s.2 w) (fun s w => μ s.1 s.2 w) (out_5, t11) rfl h0 ?_
  intro s w' hI
  have h1 := h s.1 s.2 w' hI
  unfold B3 at h1
  simp only [Prod.exists]
  exact h1
theorem A3_0_eq (pr : Prims) (out_5 : Sl) (w : World) (R : Ending → World → Prop) : (q3 pr R) (.exit 0) (x0 out_5) w = (
  pr.call0  PP F.slices_Sort___int_int_ #[Sl.v out_5] w fun ω12 =>
  R (.returned (Sl.v out_5)) ω12) := by kernel_rfl
theorem A3_0_s (out_5 : Sl) (w : World) (R : Ending → World → Prop) : (q3 std R) (.exit 0) (x0 out_5) w = (
  call0  PP F.slices_Sort___int_int_ #[Sl.v out_5] w fun ω12 =>
  R (.returned (Sl.v out_5)) ω12) := A3_0_eq std out_5 w R
theorem E_eq (pr : Prims) (list_0 : Sl) (perms_1 : Sl) (w : World) (R : Ending → World → Prop) : E pr list_0 perms_1 w R = (
  pr.sem1 .sl PP (Instr.buildSlice T_Sint 0 #[]) w fun (ρ0 : Sl) ω1 =>
  L3 pr list_0 ρ0 perms_1 (perms_1.n : Int) 0 ω1 (q3 pr R)) := by kernel_rfl
theorem E_s (list_0 : Sl) (perms_1 : Sl) (w : World) (R : Ending → World → Prop) : E std list_0 perms_1 w R = (
  sem1 .sl PP (Instr.buildSlice T_Sint 0 #[]) w fun (ρ0 : Sl) ω1 =>
  L3 std list_0 ρ0 perms_1 (perms_1.n : Int) 0 ω1 (q3 std R)) := E_eq std list_0 perms_1 w R
theorem drawsOk : drawsOk PP cfg okD (codeOf Tryz.f34) = true := by kernel_rfl
theorem calls (list_0 : Sl) (perms_1 : Sl) {w : World} {R : Ending → World → Prop} (h : E std list_0 perms_1 w R) : Calls PP F.impl_labels #[Sl.v list_0, Sl.v perms_1] w R :=
  calls_of noCount mixed drawOk Tryz.func34 rfl (c := cfg) (args := [Sl.v list_0, Sl.v perms_1]) rfl (Nat.le_of_ble_eq_true (by kernel_rfl)) drawsOk h
end impl_labels

namespace impl_ChildLabels
@[reducible] def cfg : Cfg := ⟨19, [], [], [], [4], [], [13, 12, 21, 89, 36, 108, 74, 75, 104, 78, 125], [73, 117, 103, 46, 4, 30, 40]⟩
def E (pr : Prims) (list_0 : Sl) (p_1 : Sl) (w : World) (R : Ending → World → Prop) : Prop :=
  wpC pr PP cfg (DD pr) (codeOf Tryz.f14) (retQ Tryz.f14.results.toList R) (argE 0 [Sl.v list_0, Sl.v p_1]) w
theorem E_eq (pr : Prims) (list_0 : Sl) (p_1 : Sl) (w : World) (R : Ending → World → Prop) : E pr list_0 p_1 w R = (
  bif decide ((p_1.n : Int) > 6) then (
  R (.returned (Sl.v Sl.nil)) w)
  else (
  pr.call1 .bool PP F.impl_hasSites #[Sl.v list_0, Sl.v p_1] w fun (ρ0 : Bool) ω1 =>
  bif !ρ0 then (
  R (.returned (Sl.v Sl.nil)) ω1)
  else (
  pr.call1 .sl PP F.impl_children #[Sl.v list_0, Sl.v p_1] ω1 fun (ρ2 : Sl) ω3 =>
  pr.call1 .sl PP F.impl_labels #[Sl.v list_0, Sl.v ρ2] ω3 fun (ρ4 : Sl) ω5 =>
  R (.returned (Sl.v ρ4)) ω5))) := by kernel_rfl
theorem E_s (list_0 : Sl) (p_1 : Sl) (w : World) (R : Ending → World → Prop) : E std list_0 p_1 w R = (
  bif decide ((p_1.n : Int) > 6) then (
  R (.returned (Sl.v Sl.nil)) w)
  else (
  call1 .bool PP F.impl_hasSites #[Sl.v list_0, Sl.v p_1] w fun (ρ0 : Bool) ω1 =>
  bif !ρ0 then (
  R (.returned (Sl.v Sl.nil)) ω1)
  else (
  call1 .sl PP F.impl_children #[Sl.v list_0, Sl.v p_1] ω1 fun (ρ2 : Sl) ω3 =>
  call1 .sl PP F.impl_labels #[Sl.v list_0, Sl.v ρ2] ω3 fun (ρ4 : Sl) ω5 =>
  R (.returned (Sl.v ρ4)) ω5))) := E_eq std list_0 p_1 w R
theorem drawsOk : drawsOk PP cfg okD (codeOf Tryz.f14) = true := by kernel_rfl
theorem calls (list_0 : Sl) (p_1 : Sl) {w : World} {R : Ending → World → Prop} (h : E std list_0 p_1 w R) : Calls PP F.impl_ChildLabels #[Sl.v list_0, Sl.v p_1] w R :=
  calls_of noCount mixed drawOk Tryz.func14 rfl (c := cfg) (args := [Sl.v list_0, Sl.v p_1]) rfl (Nat.le_of_ble_eq_true (by kernel_rfl)) drawsOk h
end impl_ChildLabels

namespace spec_ChildLabels
@[reducible] def cfg : Cfg := ⟨34, [(6, [0, 5, 6, 7])], [(1, [0, 5, 6, 7]), (0, [5])], [], [4], [], [13, 12, 21, 89, 36, 108, 74, 75, 104, 78, 125], [73, 117, 103, 46, 4, 30, 40]⟩
def q4 (pr : Prims) (R : Ending → World → Prop) : Exit → Env → World → Prop := fun ex e w => normQ ex (fun e w => contE pr cfg (sub (codeOf Tryz.f15) [1, 1, 1, 1, 1]) (fun e w => wpC pr PP cfg (DD pr) (sub (codeOf Tryz.f15) [1, 1, 1, 1, 1]) (retQ Tryz.f15.results.toList R) e w) e w) (retQ Tryz.f15.results.toList R) e w
def q5 (pr : Prims) (R : Ending → World → Prop) : Exit → Env → World → Prop := fun ex e w => blockQ ex 0 (q4 pr R) e w
def emb6 (list_0 : Sl) (out_5 : Sl) (all_6 : Sl) (k_7 : Int) : Env := [(0, Sl.v list_0), (5, Sl.v out_5), (6, Sl.v all_6), (7, vI k_7)]
def x0 (out_5 : Sl) : Env := [(5, Sl.v out_5)]
def S6 (pr : Prims) (Q : Exit → Env → World → Prop) : (Env → World → Prop) → Env → World → Prop := fun k e w => wpC pr PP cfg (DD pr) (sub (codeOf Tryz.f15) [1, 1, 1, 1, 0, 1, 0, 0]) (fun ex e w => normQ ex (fun e' w' => k (Env.restr e' (lookN cfg.loops (keyOf (sub (codeOf Tryz.f15) [1, 1, 1, 1, 0, 1, 0, 0])))) w') Q e w) e w
def B6 (pr : Prims) (list_0 : Sl) (out_5 : Sl) (all_6 : Sl) (k_7 : Int) (w : World) (k : Env → World → Prop) (Q : Exit → Env → World → Prop) : Prop :=
  S6 pr Q k (emb6 list_0 out_5 all_6 k_7) w
def L6 (pr : Prims) (list_0 : Sl) (out_5 : Sl) (all_6 : Sl) (k_7 : Int) (w : World) (Q : Exit → Env → World → Prop) : Prop :=
  pr.loop (S6 pr Q) (emb6 list_0 out_5 all_6 k_7) w
def E (pr : Prims) (list_0 : Sl) (p_1 : Sl) (w : World) (R : Ending → World → Prop) : Prop :=
  wpC pr PP cfg (DD pr) (codeOf Tryz.f15) (retQ Tryz.f15.results.toList R) (argE 0 [Sl.v list_0, Sl.v p_1]) w
theorem B6_eq (pr : Prims) (list_0 : Sl) (out_5 : Sl) (all_6 : Sl) (k_7 : Int) (w : World) (k : Env → World → Prop) (Q : Exit → Env → World → Prop) : B6 pr list_0 out_5 all_6 k_7 w k Q = (
  bif decide (k_7 < (all_6.n : Int)) then (
  pr.idxK 1 all_6 k_7 fun (a6 : Addr) =>
  pr.load1 .sl a6 w fun (ξ7 : Sl) =>
  pr.call1 .sl PP F.spec_l14Sites #[Sl.v list_0, Sl.v ξ7] w fun (ρ8 : Sl) ω9 =>
  pr.sem1 .sl PP (Instr.buildSlice T_Sint 1 #[(0, vI (ρ8.n : Int))]) ω9 fun (ρ10 : Sl) ω11 =>
  pr.sem1 .sl PP (Builtin.append_ #[T_Sint, T_Sint] T_Sint #[Sl.v out_5, Sl.v ρ10]) ω11 fun (ρ12 : Sl) ω13 =>
  k (emb6 list_0 ρ12 all_6 (w64 (k_7 + 1))) ω13)
  else (
  Q (.exit 0) (x0 out_5) w)) := by kernel_rfl
theorem B6_s (list_0 : Sl) (out_5 : Sl) (all_6 : Sl) (k_7 : Int) (w : World) (k : Env → World → Prop) (Q : Exit → Env → World → Prop) : B6 std list_0 out_5 all_6 k_7 w k Q = (
  bif decide (k_7 < (all_6.n : Int)) then (
  idxK 1 all_6 k_7 fun (a6 : Addr) =>
  load1 .sl a6 w fun (ξ7 : Sl) =>
  call1 .sl PP F.spec_l14Sites #[Sl.v list_0, Sl.v ξ7] w fun (ρ8 : Sl) ω9 =>
  sem1 .sl PP (Instr.buildSlice T_Sint 1 #[(0, vI (ρ8.n : Int))]) ω9 fun (ρ10 : Sl) ω11 =>
  sem1 .sl PP (Builtin.append_ #[T_Sint, T_Sint] T_Sint #[Sl.v out_5, Sl.v ρ10]) ω11 fun (ρ12 : Sl) ω13 =>
  k (emb6 list_0 ρ12 all_6 (w64 (k_7 + 1))) ω13)
  else (
  Q (.exit 0) (x0 out_5) w)) := B6_eq std list_0 out_5 all_6 k_7 w k Q
theorem L6_rule (list_0 : Sl) (out_5 : Sl) (all_6 : Sl) (k_7 : Int) (w : World) (Q : Exit → Env → World → Prop) (I : Sl → Int → World → Prop) (μ : Sl → Int → World → Nat) (h0 : I out_5 k_7 w)
    (h : ∀ (out_5 : Sl) (k_7 : Int) (w' : World), I out_5 k_7 w' → B6 std list_0 out_5 all_6 k_7 w' (fun e2 w2 => ∃ out_5_n k_7_n, e2 = emb6 list_0 out_5_n all_6 k_7_n ∧ I out_5_n k_7_n w2 ∧ μ out_5_n k_7_n w2 < μ out_5 k_7 w') Q) :
    L6 std list_0 out_5 all_6 k_7 w Q := by
  unfold L6
  refine LoopE.intro (σ := Sl × Int) (step := S6 std Q) (fun s => emb6 list_0 s.1 all_6 s.2) (fun s w => I s.1 s.2 w) (fun s w => μ s.1 s.2 w) (out_5, k_7) rfl h0 ?_
  intro s w' hI
  have h1 := h s.1 s.2 w' hI
  unfold B6 at h1
  simp only [Prod.exists]
  exact h1
theorem A6_0_eq (pr : Prims) (out_5 : Sl) (w : World) (R : Ending → World → Prop) : (q5 pr R) (.exit 0) (x0 out_5) w = (
  pr.call1 .sl PP F.spec_l15Sort #[Sl.v out_5] w fun (ρ14 : Sl) ω15 =>
  R (.returned (Sl.v ρ14)) ω15) := by kernel_rfl
theorem A6_0_s (out_5 : Sl) (w : World) (R : Ending → World → Prop) : (q5 std R) (.exit 0) (x0 out_5) w = (
  call1 .sl PP F.spec_l15Sort #[Sl.v out_5] w fun (ρ14 : Sl) ω15 =>
  R (.returned (Sl.v ρ14)) ω15) := A6_0_eq std out_5 w R
theorem E_eq (pr : Prims) (list_0 : Sl) (p_1 : Sl) (w : World) (R : Ending → World → Prop) : E pr list_0 p_1 w R = (
  pr.sem1 .sl PP (Instr.buildSlice T_Sint 0 #[]) w fun (ρ0 : Sl) ω1 =>
  bif decide ((p_1.n : Int) > 6) then (
  R (.returned (Sl.v ρ0)) ω1)
  else (
  pr.call1 .sl PP F.spec_ChildrenOf #[Sl.v list_0, Sl.v p_1] ω1 fun (ρ2 : Sl) ω3 =>
  L6 pr list_0 ρ0 ρ2 0 ω3 (q5 pr R))) := by kernel_rfl
theorem E_s (list_0 : Sl) (p_1 : Sl) (w : World) (R : Ending → World → Prop) : E std list_0 p_1 w R = (
  sem1 .sl PP (Instr.buildSlice T_Sint 0 #[]) w fun (ρ0 : Sl) ω1 =>
  bif decide ((p_1.n : Int) > 6) then (
  R (.returned (Sl.v ρ0)) ω1)
  else (
  call1 .sl PP F.spec_ChildrenOf #[Sl.v list_0, Sl.v p_1] ω1 fun (ρ2 : Sl) ω3 =>
  L6 std list_0 ρ0 ρ2 0 ω3 (q5 std R))) := E_eq std list_0 p_1 w R
theorem drawsOk : drawsOk PP cfg okD (codeOf Tryz.f15) = true := by kernel_rfl
theorem calls (list_0 : Sl) (p_1 : Sl) {w : World} {R : Ending → World → Prop} (h : E std list_0 p_1 w R) : Calls PP F.spec_ChildLabels #[Sl.v list_0, Sl.v p_1] w R :=
  calls_of noCount mixed drawOk Tryz.func15 rfl (c := cfg) (args := [Sl.v list_0, Sl.v p_1]) rfl (Nat.le_of_ble_eq_true (by kernel_rfl)) drawsOk h
end spec_ChildLabels

namespace impl_LabelsAt
@[reducible] def cfg : Cfg := ⟨18, [], [], [], [4], [], [13, 12, 21, 89, 36, 108, 74, 75, 104, 78, 125], [73, 117, 103, 46, 4, 30, 40]⟩
def E (pr : Prims) (list_0 : Sl) (n_1 : Int) (w : World) (R : Ending → World → Prop) : Prop :=
  wpC pr PP cfg (DD pr) (codeOf Tryz.f11) (retQ Tryz.f11.results.toList R) (argE 0 [Sl.v list_0, vI n_1]) w
theorem E_eq (pr : Prims) (list_0 : Sl) (n_1 : Int) (w : World) (R : Ending → World → Prop) : E pr list_0 n_1 w R = (
  pr.call1 .bool PP F.impl_IsBasis #[Sl.v list_0] w fun (ρ0 : Bool) ω1 =>
  bif !ρ0 then (
  R (.returned (Sl.v Sl.nil)) ω1)
  else (
  pr.pcall1 .bool PP F.impl_isSix #[vI n_1] fun (ρ2 : Bool) =>
  bif !ρ2 then (
  R (.returned (Sl.v Sl.nil)) ω1)
  else (
  pr.call1 .sl PP F.impl_class #[Sl.v list_0, vI n_1] ω1 fun (ρ3 : Sl) ω4 =>
  pr.call1 .sl PP F.impl_labels #[Sl.v list_0, Sl.v ρ3] ω4 fun (ρ5 : Sl) ω6 =>
  R (.returned (Sl.v ρ5)) ω6))) := by kernel_rfl
theorem E_s (list_0 : Sl) (n_1 : Int) (w : World) (R : Ending → World → Prop) : E std list_0 n_1 w R = (
  call1 .bool PP F.impl_IsBasis #[Sl.v list_0] w fun (ρ0 : Bool) ω1 =>
  bif !ρ0 then (
  R (.returned (Sl.v Sl.nil)) ω1)
  else (
  pcall1 .bool PP F.impl_isSix #[vI n_1] fun (ρ2 : Bool) =>
  bif !ρ2 then (
  R (.returned (Sl.v Sl.nil)) ω1)
  else (
  call1 .sl PP F.impl_class #[Sl.v list_0, vI n_1] ω1 fun (ρ3 : Sl) ω4 =>
  call1 .sl PP F.impl_labels #[Sl.v list_0, Sl.v ρ3] ω4 fun (ρ5 : Sl) ω6 =>
  R (.returned (Sl.v ρ5)) ω6))) := E_eq std list_0 n_1 w R
theorem drawsOk : drawsOk PP cfg okD (codeOf Tryz.f11) = true := by kernel_rfl
theorem calls (list_0 : Sl) (n_1 : Int) {w : World} {R : Ending → World → Prop} (h : E std list_0 n_1 w R) : Calls PP F.impl_LabelsAt #[Sl.v list_0, vI n_1] w R :=
  calls_of noCount mixed drawOk Tryz.func11 rfl (c := cfg) (args := [Sl.v list_0, vI n_1]) rfl (Nat.le_of_ble_eq_true (by kernel_rfl)) drawsOk h
end impl_LabelsAt

namespace spec_LabelsAt
@[reducible] def cfg : Cfg := ⟨30, [(4, [0, 5, 6, 7])], [(1, [0, 5, 6, 7]), (0, [5])], [], [4], [], [13, 12, 21, 89, 36, 108, 74, 75, 104, 78, 125], [73, 117, 103, 46, 4, 30, 40]⟩
def q4 (pr : Prims) (R : Ending → World → Prop) : Exit → Env → World → Prop := fun ex e w => normQ ex (fun e w => contE pr cfg (sub (codeOf Tryz.f16) [1, 1, 1, 1]) (fun e w => wpC pr PP cfg (DD pr) (sub (codeOf Tryz.f16) [1, 1, 1, 1]) (retQ Tryz.f16.results.toList R) e w) e w) (retQ Tryz.f16.results.toList R) e w
def q5 (pr : Prims) (R : Ending → World → Prop) : Exit → Env → World → Prop := fun ex e w => blockQ ex 0 (q4 pr R) e w
def emb4 (list_0 : Sl) (out_5 : Sl) (all_6 : Sl) (k_7 : Int) : Env := [(0, Sl.v list_0), (5, Sl.v out_5), (6, Sl.v all_6), (7, vI k_7)]
def x0 (out_5 : Sl) : Env := [(5, Sl.v out_5)]
def S4 (pr : Prims) (Q : Exit → Env → World → Prop) : (Env → World → Prop) → Env → World → Prop := fun k e w => wpC pr PP cfg (DD pr) (sub (codeOf Tryz.f16) [1, 1, 1, 0, 1, 0, 0]) (fun ex e w => normQ ex (fun e' w' => k (Env.restr e' (lookN cfg.loops (keyOf (sub (codeOf Tryz.f16) [1, 1, 1, 0, 1, 0, 0])))) w') Q e w) e w
def B4 (pr : Prims) (list_0 : Sl) (out_5 : Sl) (all_6 : Sl) (k_7 : Int) (w : World) (k : Env → World → Prop) (Q : Exit → Env → World → Prop) : Prop :=
  S4 pr Q k (emb4 list_0 out_5 all_6 k_7) w
def L4 (pr : Prims) (list_0 : Sl) (out_5 : Sl) (all_6 : Sl) (k_7 : Int) (w : World) (Q : Exit → Env → World → Prop) : Prop :=
  pr.loop (S4 pr Q) (emb4 list_0 out_5 all_6 k_7) w
def E (pr : Prims) (list_0 : Sl) (n_1 : Int) (w : World) (R : Ending → World → Prop) : Prop :=
  wpC pr PP cfg (DD pr) (codeOf Tryz.f16) (retQ Tryz.f16.results.toList R) (argE 0 [Sl.v list_0, vI n_1]) w
theorem B4_eq (pr : Prims) (list_0 : Sl) (out_5 : Sl) (all_6 : Sl) (k_7 : Int) (w : World) (k : Env → World → Prop) (Q : Exit → Env → World → Prop) : B4 pr list_0 out_5 all_6 k_7 w k Q = (
  bif decide (k_7 < (all_6.n : Int)) then (
  pr.idxK 1 all_6 k_7 fun (a6 : Addr) =>
  pr.load1 .sl a6 w fun (ξ7 : Sl) =>
  pr.call1 .sl PP F.spec_l14Sites #[Sl.v list_0, Sl.v ξ7] w fun (ρ8 : Sl) ω9 =>
  pr.sem1 .sl PP (Instr.buildSlice T_Sint 1 #[(0, vI (ρ8.n : Int))]) ω9 fun (ρ10 : Sl) ω11 =>
  pr.sem1 .sl PP (Builtin.append_ #[T_Sint, T_Sint] T_Sint #[Sl.v out_5, Sl.v ρ10]) ω11 fun (ρ12 : Sl) ω13 =>
  k (emb4 list_0 ρ12 all_6 (w64 (k_7 + 1))) ω13)
  else (
  Q (.exit 0) (x0 out_5) w)) := by kernel_rfl
theorem B4_s (list_0 : Sl) (out_5 : Sl) (all_6 : Sl) (k_7 : Int) (w : World) (k : Env → World → Prop) (Q : Exit → Env → World → Prop) : B4 std list_0 out_5 all_6 k_7 w k Q = (
  bif decide (k_7 < (all_6.n : Int)) then (
  idxK 1 all_6 k_7 fun (a6 : Addr) =>
  load1 .sl a6 w fun (ξ7 : Sl) =>
  call1 .sl PP F.spec_l14Sites #[Sl.v list_0, Sl.v ξ7] w fun (ρ8 : Sl) ω9 =>
  sem1 .sl PP (Instr.buildSlice T_Sint 1 #[(0, vI (ρ8.n : Int))]) ω9 fun (ρ10 : Sl) ω11 =>
  sem1 .sl PP (Builtin.append_ #[T_Sint, T_Sint] T_Sint #[Sl.v out_5, Sl.v ρ10]) ω11 fun (ρ12 : Sl) ω13 =>
  k (emb4 list_0 ρ12 all_6 (w64 (k_7 + 1))) ω13)
  else (
  Q (.exit 0) (x0 out_5) w)) := B4_eq std list_0 out_5 all_6 k_7 w k Q
theorem L4_rule (list_0 : Sl) (out_5 : Sl) (all_6 : Sl) (k_7 : Int) (w : World) (Q : Exit → Env → World → Prop) (I : Sl → Int → World → Prop) (μ : Sl → Int → World → Nat) (h0 : I out_5 k_7 w)
    (h : ∀ (out_5 : Sl) (k_7 : Int) (w' : World), I out_5 k_7 w' → B4 std list_0 out_5 all_6 k_7 w' (fun e2 w2 => ∃ out_5_n k_7_n, e2 = emb4 list_0 out_5_n all_6 k_7_n ∧ I out_5_n k_7_n w2 ∧ μ out_5_n k_7_n w2 < μ out_5 k_7 w') Q) :
    L4 std list_0 out_5 all_6 k_7 w Q := by
  unfold L4
  refine LoopE.intro (σ := Sl × Int) (step := S4 std Q) (fun s => emb4 list_0 s.1 all_6 s.2) (fun s w => I s.1 s.2 w) (fun s w => μ s.1 s.2 w) (out_5, k_7) rfl h0 ?_
  intro s w' hI
  have h1 := h s.1 s.2 w' hI
  unfold B4 at h1
  simp only [Prod.exists]
  exact h1
theorem A4_0_eq (pr : Prims) (out_5 : Sl) (w : World) (R : Ending → World → Prop) : (q5 pr R) (.exit 0) (x0 out_5) w = (
  pr.call1 .sl PP F.spec_l15Sort #[Sl.v out_5] w fun (ρ14 : Sl) ω15 =>
  R (.returned (Sl.v ρ14)) ω15) := by kernel_rfl
theorem A4_0_s (out_5 : Sl) (w : World) (R : Ending → World → Prop) : (q5 std R) (.exit 0) (x0 out_5) w = (
  call1 .sl PP F.spec_l15Sort #[Sl.v out_5] w fun (ρ14 : Sl) ω15 =>
  R (.returned (Sl.v ρ14)) ω15) := A4_0_eq std out_5 w R
theorem E_eq (pr : Prims) (list_0 : Sl) (n_1 : Int) (w : World) (R : Ending → World → Prop) : E pr list_0 n_1 w R = (
  pr.sem1 .sl PP (Instr.buildSlice T_Sint 0 #[]) w fun (ρ0 : Sl) ω1 =>
  pr.call1 .sl PP F.spec_ClassOf #[Sl.v list_0, vI n_1] ω1 fun (ρ2 : Sl) ω3 =>
  L4 pr list_0 ρ0 ρ2 0 ω3 (q5 pr R)) := by kernel_rfl
theorem E_s (list_0 : Sl) (n_1 : Int) (w : World) (R : Ending → World → Prop) : E std list_0 n_1 w R = (
  sem1 .sl PP (Instr.buildSlice T_Sint 0 #[]) w fun (ρ0 : Sl) ω1 =>
  call1 .sl PP F.spec_ClassOf #[Sl.v list_0, vI n_1] ω1 fun (ρ2 : Sl) ω3 =>
  L4 std list_0 ρ0 ρ2 0 ω3 (q5 std R)) := E_eq std list_0 n_1 w R
theorem drawsOk : drawsOk PP cfg okD (codeOf Tryz.f16) = true := by kernel_rfl
theorem calls (list_0 : Sl) (n_1 : Int) {w : World} {R : Ending → World → Prop} (h : E std list_0 n_1 w R) : Calls PP F.spec_LabelsAt #[Sl.v list_0, vI n_1] w R :=
  calls_of noCount mixed drawOk Tryz.func16 rfl (c := cfg) (args := [Sl.v list_0, vI n_1]) rfl (Nat.le_of_ble_eq_true (by kernel_rfl)) drawsOk h
end spec_LabelsAt

end Go.Proofs.YteplokddaebbeaaGreat

/- What each function does, step by step, written by a program (Gen.lean); each equation is checked by the kernel. -/
namespace Go.Proofs.YteplokddaebbeaaGreat
open Go
set_option linter.unusedVariables false
set_option maxRecDepth 100000
namespace spec_l14Sites
@[reducible] def cfg : Cfg := ⟨24, [(3, [0, 1, 5, 6])], [(1, [0, 1, 5, 6]), (0, [5])], [], [4], [], [13, 12, 21, 89, 36, 108, 74, 75, 104, 78, 125], [73, 117, 103, 46, 4, 30, 40]⟩
def q2 (pr : Prims) (R : Ending → World → Prop) : Exit → Env → World → Prop := fun ex e w => normQ ex (fun e w => contE pr cfg (sub (codeOf Tryz.f41) [1, 1, 1]) (fun e w => wpC pr PP cfg (DD pr) (sub (codeOf Tryz.f41) [1, 1, 1]) (retQ Tryz.f41.results.toList R) e w) e w) (retQ Tryz.f41.results.toList R) e w
def q3 (pr : Prims) (R : Ending → World → Prop) : Exit → Env → World → Prop := fun ex e w => blockQ ex 0 (q2 pr R) e w
def emb3 (list_0 : Sl) (p_1 : Sl) (out_5 : Sl) (site_6 : Int) : Env := [(0, Sl.v list_0), (1, Sl.v p_1), (5, Sl.v out_5), (6, vI site_6)]
def x0 (out_5 : Sl) : Env := [(5, Sl.v out_5)]
def S3 (pr : Prims) (Q : Exit → Env → World → Prop) : (Env → World → Prop) → Env → World → Prop := fun k e w => wpC pr PP cfg (DD pr) (sub (codeOf Tryz.f41) [1, 1, 0, 1, 0, 0]) (fun ex e w => normQ ex (fun e' w' => k (Env.restr e' (lookN cfg.loops (keyOf (sub (codeOf Tryz.f41) [1, 1, 0, 1, 0, 0])))) w') Q e w) e w
def B3 (pr : Prims) (list_0 : Sl) (p_1 : Sl) (out_5 : Sl) (site_6 : Int) (w : World) (k : Env → World → Prop) (Q : Exit → Env → World → Prop) : Prop :=
  S3 pr Q k (emb3 list_0 p_1 out_5 site_6) w
def L3 (pr : Prims) (list_0 : Sl) (p_1 : Sl) (out_5 : Sl) (site_6 : Int) (w : World) (Q : Exit → Env → World → Prop) : Prop :=
  pr.loop (S3 pr Q) (emb3 list_0 p_1 out_5 site_6) w
def E (pr : Prims) (list_0 : Sl) (p_1 : Sl) (w : World) (R : Ending → World → Prop) : Prop :=
  wpC pr PP cfg (DD pr) (codeOf Tryz.f41) (retQ Tryz.f41.results.toList R) (argE 0 [Sl.v list_0, Sl.v p_1]) w
theorem B3_eq (pr : Prims) (list_0 : Sl) (p_1 : Sl) (out_5 : Sl) (site_6 : Int) (w : World) (k : Env → World → Prop) (Q : Exit → Env → World → Prop) : B3 pr list_0 p_1 out_5 site_6 w k Q = (
  bif decide (site_6 ≤ (p_1.n : Int)) then (
  pr.call1 .sl PP F.spec_l14Child #[Sl.v p_1, vI site_6] w fun (ρ4 : Sl) ω5 =>
  pr.call1 .bool PP F.spec_l12Avoids #[Sl.v list_0, Sl.v ρ4] ω5 fun (ρ6 : Bool) ω7 =>
  bif ρ6 then (
  pr.sem1 .sl PP (Instr.buildSlice T_Sint 1 #[(0, vI site_6)]) ω7 fun (ρ8 : Sl) ω9 =>
  pr.sem1 .sl PP (Builtin.append_ #[T_Sint, T_Sint] T_Sint #[Sl.v out_5, Sl.v ρ8]) ω9 fun (ρ10 : Sl) ω11 =>
  k (emb3 list_0 p_1 ρ10 (w64 (site_6 + 1))) ω11)
  else (
  k (emb3 list_0 p_1 out_5 (w64 (site_6 + 1))) ω7))
  else (
  Q (.exit 0) (x0 out_5) w)) := by kernel_rfl
theorem B3_s (list_0 : Sl) (p_1 : Sl) (out_5 : Sl) (site_6 : Int) (w : World) (k : Env → World → Prop) (Q : Exit → Env → World → Prop) : B3 std list_0 p_1 out_5 site_6 w k Q = (
  bif decide (site_6 ≤ (p_1.n : Int)) then (
  call1 .sl PP F.spec_l14Child #[Sl.v p_1, vI site_6] w fun (ρ4 : Sl) ω5 =>
  call1 .bool PP F.spec_l12Avoids #[Sl.v list_0, Sl.v ρ4] ω5 fun (ρ6 : Bool) ω7 =>
  bif ρ6 then (
  sem1 .sl PP (Instr.buildSlice T_Sint 1 #[(0, vI site_6)]) ω7 fun (ρ8 : Sl) ω9 =>
  sem1 .sl PP (Builtin.append_ #[T_Sint, T_Sint] T_Sint #[Sl.v out_5, Sl.v ρ8]) ω9 fun (ρ10 : Sl) ω11 =>
  k (emb3 list_0 p_1 ρ10 (w64 (site_6 + 1))) ω11)
  else (
  k (emb3 list_0 p_1 out_5 (w64 (site_6 + 1))) ω7))
  else (
  Q (.exit 0) (x0 out_5) w)) := B3_eq std list_0 p_1 out_5 site_6 w k Q
theorem L3_rule (list_0 : Sl) (p_1 : Sl) (out_5 : Sl) (site_6 : Int) (w : World) (Q : Exit → Env → World → Prop) (I : Sl → Int → World → Prop) (μ : Sl → Int → World → Nat) (h0 : I out_5 site_6 w)
    (h : ∀ (out_5 : Sl) (site_6 : Int) (w' : World), I out_5 site_6 w' → B3 std list_0 p_1 out_5 site_6 w' (fun e2 w2 => ∃ out_5_n site_6_n, e2 = emb3 list_0 p_1 out_5_n site_6_n ∧ I out_5_n site_6_n w2 ∧ μ out_5_n site_6_n w2 < μ out_5 site_6 w') Q) :
    L3 std list_0 p_1 out_5 site_6 w Q := by
  unfold L3
  refine LoopE.intro (σ := Sl × Int) (step := S3 std Q) (fun s => emb3 list_0 p_1 s.1 s.2) (fun s w => I s.1 s.2 w) (fun s w => μ s.1 s.2 w) (out_5, site_6) rfl h0 ?_
  intro s w' hI
  have h1 := h s.1 s.2 w' hI
  unfold B3 at h1
  simp only [Prod.exists]
  exact h1
theorem A3_0_eq (pr : Prims) (out_5 : Sl) (w : World) (R : Ending → World → Prop) : (q3 pr R) (.exit 0) (x0 out_5) w = (
  R (.returned (Sl.v out_5)) w) := by kernel_rfl
theorem A3_0_s (out_5 : Sl) (w : World) (R : Ending → World → Prop) : (q3 std R) (.exit 0) (x0 out_5) w = (
  R (.returned (Sl.v out_5)) w) := A3_0_eq std out_5 w R
theorem E_eq (pr : Prims) (list_0 : Sl) (p_1 : Sl) (w : World) (R : Ending → World → Prop) : E pr list_0 p_1 w R = (
  pr.sem1 .sl PP (Instr.buildSlice T_Sint 0 #[]) w fun (ρ0 : Sl) ω1 =>
  L3 pr list_0 p_1 ρ0 0 ω1 (q3 pr R)) := by kernel_rfl
theorem E_s (list_0 : Sl) (p_1 : Sl) (w : World) (R : Ending → World → Prop) : E std list_0 p_1 w R = (
  sem1 .sl PP (Instr.buildSlice T_Sint 0 #[]) w fun (ρ0 : Sl) ω1 =>
  L3 std list_0 p_1 ρ0 0 ω1 (q3 std R)) := E_eq std list_0 p_1 w R
theorem drawsOk : drawsOk PP cfg okD (codeOf Tryz.f41) = true := by kernel_rfl
theorem calls (list_0 : Sl) (p_1 : Sl) {w : World} {R : Ending → World → Prop} (h : E std list_0 p_1 w R) : Calls PP F.spec_l14Sites #[Sl.v list_0, Sl.v p_1] w R :=
  calls_of noCount mixed drawOk Tryz.func41 rfl (c := cfg) (args := [Sl.v list_0, Sl.v p_1]) rfl (Nat.le_of_ble_eq_true (by kernel_rfl)) drawsOk h
end spec_l14Sites

namespace spec_ActiveSites
@[reducible] def cfg : Cfg := ⟨18, [], [], [], [4], [], [13, 12, 21, 89, 36, 108, 74, 75, 104, 78, 125], [73, 117, 103, 46, 4, 30, 40]⟩
def E (pr : Prims) (list_0 : Sl) (p_1 : Sl) (w : World) (R : Ending → World → Prop) : Prop :=
  wpC pr PP cfg (DD pr) (codeOf Tryz.f80) (retQ Tryz.f80.results.toList R) (argE 0 [Sl.v list_0, Sl.v p_1]) w
theorem E_eq (pr : Prims) (list_0 : Sl) (p_1 : Sl) (w : World) (R : Ending → World → Prop) : E pr list_0 p_1 w R = (
  pr.call1 .bool PP F.spec_InClass #[Sl.v list_0, Sl.v p_1] w fun (ρ0 : Bool) ω1 =>
  bif !ρ0 then (
  pr.sem1 .sl PP (Instr.buildSlice T_Sint 0 #[]) ω1 fun (ρ2 : Sl) ω3 =>
  R (.returned (Sl.v ρ2)) ω3)
  else (
  bif (p_1.n : Int) == 8 then (
  pr.sem1 .sl PP (Instr.buildSlice T_Sint 0 #[]) ω1 fun (ρ4 : Sl) ω5 =>
  R (.returned (Sl.v ρ4)) ω5)
  else (
  pr.call1 .sl PP F.spec_l14Sites #[Sl.v list_0, Sl.v p_1] ω1 fun (ρ6 : Sl) ω7 =>
  R (.returned (Sl.v ρ6)) ω7))) := by kernel_rfl
theorem E_s (list_0 : Sl) (p_1 : Sl) (w : World) (R : Ending → World → Prop) : E std list_0 p_1 w R = (
  call1 .bool PP F.spec_InClass #[Sl.v list_0, Sl.v p_1] w fun (ρ0 : Bool) ω1 =>
  bif !ρ0 then (
  sem1 .sl PP (Instr.buildSlice T_Sint 0 #[]) ω1 fun (ρ2 : Sl) ω3 =>
  R (.returned (Sl.v ρ2)) ω3)
  else (
  bif (p_1.n : Int) == 8 then (
  sem1 .sl PP (Instr.buildSlice T_Sint 0 #[]) ω1 fun (ρ4 : Sl) ω5 =>
  R (.returned (Sl.v ρ4)) ω5)
  else (
  call1 .sl PP F.spec_l14Sites #[Sl.v list_0, Sl.v p_1] ω1 fun (ρ6 : Sl) ω7 =>
  R (.returned (Sl.v ρ6)) ω7))) := E_eq std list_0 p_1 w R
theorem drawsOk : drawsOk PP cfg okD (codeOf Tryz.f80) = true := by kernel_rfl
theorem calls (list_0 : Sl) (p_1 : Sl) {w : World} {R : Ending → World → Prop} (h : E std list_0 p_1 w R) : Calls PP F.spec_ActiveSites #[Sl.v list_0, Sl.v p_1] w R :=
  calls_of noCount mixed drawOk Tryz.func80 rfl (c := cfg) (args := [Sl.v list_0, Sl.v p_1]) rfl (Nat.le_of_ble_eq_true (by kernel_rfl)) drawsOk h
end spec_ActiveSites

namespace spec_ChildrenOf
@[reducible] def cfg : Cfg := ⟨28, [(4, [1, 5, 6, 7])], [(1, [1, 5, 6, 7]), (0, [5])], [], [4], [], [13, 12, 21, 89, 36, 108, 74, 75, 104, 78, 125], [73, 117, 103, 46, 4, 30, 40]⟩
def q4 (pr : Prims) (R : Ending → World → Prop) : Exit → Env → World → Prop := fun ex e w => normQ ex (fun e w => contE pr cfg (sub (codeOf Tryz.f48) [1, 1, 1, 1]) (fun e w => wpC pr PP cfg (DD pr) (sub (codeOf Tryz.f48) [1, 1, 1, 1]) (retQ Tryz.f48.results.toList R) e w) e w) (retQ Tryz.f48.results.toList R) e w
def q5 (pr : Prims) (R : Ending → World → Prop) : Exit → Env → World → Prop := fun ex e w => blockQ ex 0 (q4 pr R) e w
def emb4 (p_1 : Sl) (out_5 : Sl) (sites_6 : Sl) (k_7 : Int) : Env := [(1, Sl.v p_1), (5, Sl.v out_5), (6, Sl.v sites_6), (7, vI k_7)]
def x0 (out_5 : Sl) : Env := [(5, Sl.v out_5)]
def S4 (pr : Prims) (Q : Exit → Env → World → Prop) : (Env → World → Prop) → Env → World → Prop := fun k e w => wpC pr PP cfg (DD pr) (sub (codeOf Tryz.f48) [1, 1, 1, 0, 1, 0, 0]) (fun ex e w => normQ ex (fun e' w' => k (Env.restr e' (lookN cfg.loops (keyOf (sub (codeOf Tryz.f48) [1, 1, 1, 0, 1, 0, 0])))) w') Q e w) e w
def B4 (pr : Prims) (p_1 : Sl) (out_5 : Sl) (sites_6 : Sl) (k_7 : Int) (w : World) (k : Env → World → Prop) (Q : Exit → Env → World → Prop) : Prop :=
  S4 pr Q k (emb4 p_1 out_5 sites_6 k_7) w
def L4 (pr : Prims) (p_1 : Sl) (out_5 : Sl) (sites_6 : Sl) (k_7 : Int) (w : World) (Q : Exit → Env → World → Prop) : Prop :=
  pr.loop (S4 pr Q) (emb4 p_1 out_5 sites_6 k_7) w
def E (pr : Prims) (list_0 : Sl) (p_1 : Sl) (w : World) (R : Ending → World → Prop) : Prop :=
  wpC pr PP cfg (DD pr) (codeOf Tryz.f48) (retQ Tryz.f48.results.toList R) (argE 0 [Sl.v list_0, Sl.v p_1]) w
theorem B4_eq (pr : Prims) (p_1 : Sl) (out_5 : Sl) (sites_6 : Sl) (k_7 : Int) (w : World) (k : Env → World → Prop) (Q : Exit → Env → World → Prop) : B4 pr p_1 out_5 sites_6 k_7 w k Q = (
  bif decide (k_7 < (sites_6.n : Int)) then (
  pr.idxK 1 sites_6 k_7 fun (a6 : Addr) =>
  pr.load1 (.int .i64) a6 w fun (ξ7 : Int) =>
  pr.call1 .sl PP F.spec_l14Child #[Sl.v p_1, vI ξ7] w fun (ρ8 : Sl) ω9 =>
  pr.sem1 .sl PP (Instr.buildSlice T_SSint 1 #[(0, Sl.v ρ8)]) ω9 fun (ρ10 : Sl) ω11 =>
  pr.sem1 .sl PP (Builtin.append_ #[T_SSint, T_SSint] T_SSint #[Sl.v out_5, Sl.v ρ10]) ω11 fun (ρ12 : Sl) ω13 =>
  k (emb4 p_1 ρ12 sites_6 (w64 (k_7 + 1))) ω13)
  else (
  Q (.exit 0) (x0 out_5) w)) := by kernel_rfl
theorem B4_s (p_1 : Sl) (out_5 : Sl) (sites_6 : Sl) (k_7 : Int) (w : World) (k : Env → World → Prop) (Q : Exit → Env → World → Prop) : B4 std p_1 out_5 sites_6 k_7 w k Q = (
  bif decide (k_7 < (sites_6.n : Int)) then (
  idxK 1 sites_6 k_7 fun (a6 : Addr) =>
  load1 (.int .i64) a6 w fun (ξ7 : Int) =>
  call1 .sl PP F.spec_l14Child #[Sl.v p_1, vI ξ7] w fun (ρ8 : Sl) ω9 =>
  sem1 .sl PP (Instr.buildSlice T_SSint 1 #[(0, Sl.v ρ8)]) ω9 fun (ρ10 : Sl) ω11 =>
  sem1 .sl PP (Builtin.append_ #[T_SSint, T_SSint] T_SSint #[Sl.v out_5, Sl.v ρ10]) ω11 fun (ρ12 : Sl) ω13 =>
  k (emb4 p_1 ρ12 sites_6 (w64 (k_7 + 1))) ω13)
  else (
  Q (.exit 0) (x0 out_5) w)) := B4_eq std p_1 out_5 sites_6 k_7 w k Q
theorem L4_rule (p_1 : Sl) (out_5 : Sl) (sites_6 : Sl) (k_7 : Int) (w : World) (Q : Exit → Env → World → Prop) (I : Sl → Int → World → Prop) (μ : Sl → Int → World → Nat) (h0 : I out_5 k_7 w)
    (h : ∀ (out_5 : Sl) (k_7 : Int) (w' : World), I out_5 k_7 w' → B4 std p_1 out_5 sites_6 k_7 w' (fun e2 w2 => ∃ out_5_n k_7_n, e2 = emb4 p_1 out_5_n sites_6 k_7_n ∧ I out_5_n k_7_n w2 ∧ μ out_5_n k_7_n w2 < μ out_5 k_7 w') Q) :
    L4 std p_1 out_5 sites_6 k_7 w Q := by
  unfold L4
  refine LoopE.intro (σ := Sl × Int) (step := S4 std Q) (fun s => emb4 p_1 s.1 sites_6 s.2) (fun s w => I s.1 s.2 w) (fun s w => μ s.1 s.2 w) (out_5, k_7) rfl h0 ?_
  intro s w' hI
  have h1 := h s.1 s.2 w' hI
  unfold B4 at h1
  simp only [Prod.exists]
  exact h1
theorem A4_0_eq (pr : Prims) (out_5 : Sl) (w : World) (R : Ending → World → Prop) : (q5 pr R) (.exit 0) (x0 out_5) w = (
  R (.returned (Sl.v out_5)) w) := by kernel_rfl
theorem A4_0_s (out_5 : Sl) (w : World) (R : Ending → World → Prop) : (q5 std R) (.exit 0) (x0 out_5) w = (
  R (.returned (Sl.v out_5)) w) := A4_0_eq std out_5 w R
theorem E_eq (pr : Prims) (list_0 : Sl) (p_1 : Sl) (w : World) (R : Ending → World → Prop) : E pr list_0 p_1 w R = (
  pr.sem1 .sl PP (Instr.buildSlice T_SSint 0 #[]) w fun (ρ0 : Sl) ω1 =>
  pr.call1 .sl PP F.spec_ActiveSites #[Sl.v list_0, Sl.v p_1] ω1 fun (ρ2 : Sl) ω3 =>
  L4 pr p_1 ρ0 ρ2 0 ω3 (q5 pr R)) := by kernel_rfl
theorem E_s (list_0 : Sl) (p_1 : Sl) (w : World) (R : Ending → World → Prop) : E std list_0 p_1 w R = (
  sem1 .sl PP (Instr.buildSlice T_SSint 0 #[]) w fun (ρ0 : Sl) ω1 =>
  call1 .sl PP F.spec_ActiveSites #[Sl.v list_0, Sl.v p_1] ω1 fun (ρ2 : Sl) ω3 =>
  L4 std p_1 ρ0 ρ2 0 ω3 (q5 std R)) := E_eq std list_0 p_1 w R
theorem drawsOk : drawsOk PP cfg okD (codeOf Tryz.f48) = true := by kernel_rfl
theorem calls (list_0 : Sl) (p_1 : Sl) {w : World} {R : Ending → World → Prop} (h : E std list_0 p_1 w R) : Calls PP F.spec_ChildrenOf #[Sl.v list_0, Sl.v p_1] w R :=
  calls_of noCount mixed drawOk Tryz.func48 rfl (c := cfg) (args := [Sl.v list_0, Sl.v p_1]) rfl (Nat.le_of_ble_eq_true (by kernel_rfl)) drawsOk h
end spec_ChildrenOf

namespace spec_LabelOf
@[reducible] def cfg : Cfg := ⟨18, [], [], [], [4], [], [13, 12, 21, 89, 36, 108, 74, 75, 104, 78, 125], [73, 117, 103, 46, 4, 30, 40]⟩
def E (pr : Prims) (list_0 : Sl) (p_1 : Sl) (w : World) (R : Ending → World → Prop) : Prop :=
  wpC pr PP cfg (DD pr) (codeOf Tryz.f20) (retQ Tryz.f20.results.toList R) (argE 0 [Sl.v list_0, Sl.v p_1]) w
theorem E_eq (pr : Prims) (list_0 : Sl) (p_1 : Sl) (w : World) (R : Ending → World → Prop) : E pr list_0 p_1 w R = (
  pr.call1 .bool PP F.spec_InClass #[Sl.v list_0, Sl.v p_1] w fun (ρ0 : Bool) ω1 =>
  bif !ρ0 then (
  R (.returned (vI (-1))) ω1)
  else (
  bif (p_1.n : Int) == 8 then (
  R (.returned (vI (-1))) ω1)
  else (
  pr.call1 .sl PP F.spec_l14Sites #[Sl.v list_0, Sl.v p_1] ω1 fun (ρ2 : Sl) ω3 =>
  R (.returned (vI (ρ2.n : Int))) ω3))) := by kernel_rfl
theorem E_s (list_0 : Sl) (p_1 : Sl) (w : World) (R : Ending → World → Prop) : E std list_0 p_1 w R = (
  call1 .bool PP F.spec_InClass #[Sl.v list_0, Sl.v p_1] w fun (ρ0 : Bool) ω1 =>
  bif !ρ0 then (
  R (.returned (vI (-1))) ω1)
  else (
  bif (p_1.n : Int) == 8 then (
  R (.returned (vI (-1))) ω1)
  else (
  call1 .sl PP F.spec_l14Sites #[Sl.v list_0, Sl.v p_1] ω1 fun (ρ2 : Sl) ω3 =>
  R (.returned (vI (ρ2.n : Int))) ω3))) := E_eq std list_0 p_1 w R
theorem drawsOk : drawsOk PP cfg okD (codeOf Tryz.f20) = true := by kernel_rfl
theorem calls (list_0 : Sl) (p_1 : Sl) {w : World} {R : Ending → World → Prop} (h : E std list_0 p_1 w R) : Calls PP F.spec_LabelOf #[Sl.v list_0, Sl.v p_1] w R :=
  calls_of noCount mixed drawOk Tryz.func20 rfl (c := cfg) (args := [Sl.v list_0, Sl.v p_1]) rfl (Nat.le_of_ble_eq_true (by kernel_rfl)) drawsOk h
end spec_LabelOf

namespace impl_hasSites
@[reducible] def cfg : Cfg := ⟨13, [], [], [], [4], [], [13, 12, 21, 89, 36, 108, 74, 75, 104, 78, 125], [73, 117, 103, 46, 4, 30, 40]⟩
def E (pr : Prims) (list_0 : Sl) (p_1 : Sl) (w : World) (R : Ending → World → Prop) : Prop :=
  wpC pr PP cfg (DD pr) (codeOf Tryz.f47) (retQ Tryz.f47.results.toList R) (argE 0 [Sl.v list_0, Sl.v p_1]) w
theorem E_eq (pr : Prims) (list_0 : Sl) (p_1 : Sl) (w : World) (R : Ending → World → Prop) : E pr list_0 p_1 w R = (
  pr.call1 .bool PP F.impl_InClass #[Sl.v list_0, Sl.v p_1] w fun (ρ0 : Bool) ω1 =>
  bif ρ0 then (
  R (.returned (.bool (decide ((p_1.n : Int) < 8)))) ω1)
  else (
  R (.returned (.bool false)) ω1)) := by kernel_rfl
theorem E_s (list_0 : Sl) (p_1 : Sl) (w : World) (R : Ending → World → Prop) : E std list_0 p_1 w R = (
  call1 .bool PP F.impl_InClass #[Sl.v list_0, Sl.v p_1] w fun (ρ0 : Bool) ω1 =>
  bif ρ0 then (
  R (.returned (.bool (decide ((p_1.n : Int) < 8)))) ω1)
  else (
  R (.returned (.bool false)) ω1)) := E_eq std list_0 p_1 w R
theorem drawsOk : drawsOk PP cfg okD (codeOf Tryz.f47) = true := by kernel_rfl
theorem calls (list_0 : Sl) (p_1 : Sl) {w : World} {R : Ending → World → Prop} (h : E std list_0 p_1 w R) : Calls PP F.impl_hasSites #[Sl.v list_0, Sl.v p_1] w R :=
  calls_of noCount mixed drawOk Tryz.func47 rfl (c := cfg) (args := [Sl.v list_0, Sl.v p_1]) rfl (Nat.le_of_ble_eq_true (by kernel_rfl)) drawsOk h
end impl_hasSites

namespace impl_active
@[reducible] def cfg : Cfg := ⟨25, [(3, [0, 1, 5, 10, 11])], [(1, [0, 1, 5, 10, 11]), (0, [5])], [], [4], [], [13, 12, 21, 89, 36, 108, 74, 75, 104, 78, 125], [73, 117, 103, 46, 4, 30, 40]⟩
def q2 (pr : Prims) (R : Ending → World → Prop) : Exit → Env → World → Prop := fun ex e w => normQ ex (fun e w => contE pr cfg (sub (codeOf Tryz.f33) [1, 1, 1]) (fun e w => wpC pr PP cfg (DD pr) (sub (codeOf Tryz.f33) [1, 1, 1]) (retQ Tryz.f33.results.toList R) e w) e w) (retQ Tryz.f33.results.toList R) e w
def q3 (pr : Prims) (R : Ending → World → Prop) : Exit → Env → World → Prop := fun ex e w => blockQ ex 0 (q2 pr R) e w
def emb3 (list_0 : Sl) (p_1 : Sl) (out_5 : Sl) (t10 : Int) (t11 : Int) : Env := [(0, Sl.v list_0), (1, Sl.v p_1), (5, Sl.v out_5), (10, vI t10), (11, vI t11)]
def x0 (out_5 : Sl) : Env := [(5, Sl.v out_5)]
def S3 (pr : Prims) (Q : Exit → Env → World → Prop) : (Env → World → Prop) → Env → World → Prop := fun k e w => wpC pr PP cfg (DD pr) (sub (codeOf Tryz.f33) [1, 1, 0, 1, 0, 0]) (fun ex e w => normQ ex (fun e' w' => k (Env.restr e' (lookN cfg.loops (keyOf (sub (codeOf Tryz.f33) [1, 1, 0, 1, 0, 0])))) w') Q e w) e w
def B3 (pr : Prims) (list_0 : Sl) (p_1 : Sl) (out_5 : Sl) (t10 : Int) (t11 : Int) (w : World) (k : Env → World → Prop) (Q : Exit → Env → World → Prop) : Prop :=
  S3 pr Q k (emb3 list_0 p_1 out_5 t10 t11) w
def L3 (pr : Prims) (list_0 : Sl) (p_1 : Sl) (out_5 : Sl) (t10 : Int) (t11 : Int) (w : World) (Q : Exit → Env → World → Prop) : Prop :=
  pr.loop (S3 pr Q) (emb3 list_0 p_1 out_5 t10 t11) w
def E (pr : Prims) (list_0 : Sl) (p_1 : Sl) (w : World) (R : Ending → World → Prop) : Prop :=
  wpC pr PP cfg (DD pr) (codeOf Tryz.f33) (retQ Tryz.f33.results.toList R) (argE 0 [Sl.v list_0, Sl.v p_1]) w
theorem B3_eq (pr : Prims) (list_0 : Sl) (p_1 : Sl) (out_5 : Sl) (t10 : Int) (t11 : Int) (w : World) (k : Env → World → Prop) (Q : Exit → Env → World → Prop) : B3 pr list_0 p_1 out_5 t10 t11 w k Q = (
  bif decide (t11 < t10) then (
  pr.call1 .sl PP F.impl_child #[Sl.v p_1, vI t11] w fun (ρ4 : Sl) ω5 =>
  pr.call1 .bool PP F.impl_avoids #[Sl.v list_0, Sl.v ρ4] ω5 fun (ρ6 : Bool) ω7 =>
  bif ρ6 then (
  pr.sem1 .sl PP (Instr.buildSlice T_Sint 1 #[(0, vI t11)]) ω7 fun (ρ8 : Sl) ω9 =>
  pr.sem1 .sl PP (Builtin.append_ #[T_Sint, T_Sint] T_Sint #[Sl.v out_5, Sl.v ρ8]) ω9 fun (ρ10 : Sl) ω11 =>
  k (emb3 list_0 p_1 ρ10 t10 (w64 (t11 + 1))) ω11)
  else (
  k (emb3 list_0 p_1 out_5 t10 (w64 (t11 + 1))) ω7))
  else (
  Q (.exit 0) (x0 out_5) w)) := by kernel_rfl
theorem B3_s (list_0 : Sl) (p_1 : Sl) (out_5 : Sl) (t10 : Int) (t11 : Int) (w : World) (k : Env → World → Prop) (Q : Exit → Env → World → Prop) : B3 std list_0 p_1 out_5 t10 t11 w k Q = (
  bif decide (t11 < t10) then (
  call1 .sl PP F.impl_child #[Sl.v p_1, vI t11] w fun (ρ4 : Sl) ω5 =>
  call1 .bool PP F.impl_avoids #[Sl.v list_0, Sl.v ρ4] ω5 fun (ρ6 : Bool) ω7 =>
  bif ρ6 then (
  sem1 .sl PP (Instr.buildSlice T_Sint 1 #[(0, vI t11)]) ω7 fun (ρ8 : Sl) ω9 =>
  sem1 .sl PP (Builtin.append_ #[T_Sint, T_Sint] T_Sint #[Sl.v out_5, Sl.v ρ8]) ω9 fun (ρ10 : Sl) ω11 =>
  k (emb3 list_0 p_1 ρ10 t10 (w64 (t11 + 1))) ω11)
  else (
  k (emb3 list_0 p_1 out_5 t10 (w64 (t11 + 1))) ω7))
  else (
  Q (.exit 0) (x0 out_5) w)) := B3_eq std list_0 p_1 out_5 t10 t11 w k Q
theorem L3_rule (list_0 : Sl) (p_1 : Sl) (out_5 : Sl) (t10 : Int) (t11 : Int) (w : World) (Q : Exit → Env → World → Prop) (I : Sl → Int → World → Prop) (μ : Sl → Int → World → Nat) (h0 : I out_5 t11 w)
    (h : ∀ (out_5 : Sl) (t11 : Int) (w' : World), I out_5 t11 w' → B3 std list_0 p_1 out_5 t10 t11 w' (fun e2 w2 => ∃ out_5_n t11_n, e2 = emb3 list_0 p_1 out_5_n t10 t11_n ∧ I out_5_n t11_n w2 ∧ μ out_5_n t11_n w2 < μ out_5 t11 w') Q) :
    L3 std list_0 p_1 out_5 t10 t11 w Q := by
  unfold L3
  refine LoopE.intro (σ := Sl × Int) (step := S3 std Q) (fun s => emb3 list_0 p_1 s.1 t10 s.2) (fun s w => I s.1 s.2 w) (fun s w => μ s.1 s.2 w) (out_5, t11) rfl h0 ?_
  intro s w' hI
  have h1 := h s.1 s.2 w' hI
  unfold B3 at h1
  simp only [Prod.exists]
  exact h1
theorem A3_0_eq (pr : Prims) (out_5 : Sl) (w : World) (R : Ending → World → Prop) : (q3 pr R) (.exit 0) (x0 out_5) w = (
  R (.returned (Sl.v out_5)) w) := by kernel_rfl
theorem A3_0_s (out_5 : Sl) (w : World) (R : Ending → World → Prop) : (q3 std R) (.exit 0) (x0 out_5) w = (
  R (.returned (Sl.v out_5)) w) := A3_0_eq std out_5 w R
theorem E_eq (pr : Prims) (list_0 : Sl) (p_1 : Sl) (w : World) (R : Ending → World → Prop) : E pr list_0 p_1 w R = (
  pr.sem1 .sl PP (Instr.buildSlice T_Sint 0 #[]) w fun (ρ0 : Sl) ω1 =>
  L3 pr list_0 p_1 ρ0 (w64 ((p_1.n : Int) + 1)) 0 ω1 (q3 pr R)) := by kernel_rfl
theorem E_s (list_0 : Sl) (p_1 : Sl) (w : World) (R : Ending → World → Prop) : E std list_0 p_1 w R = (
  sem1 .sl PP (Instr.buildSlice T_Sint 0 #[]) w fun (ρ0 : Sl) ω1 =>
  L3 std list_0 p_1 ρ0 (w64 ((p_1.n : Int) + 1)) 0 ω1 (q3 std R)) := E_eq std list_0 p_1 w R
theorem drawsOk : drawsOk PP cfg okD (codeOf Tryz.f33) = true := by kernel_rfl
theorem calls (list_0 : Sl) (p_1 : Sl) {w : World} {R : Ending → World → Prop} (h : E std list_0 p_1 w R) : Calls PP F.impl_active #[Sl.v list_0, Sl.v p_1] w R :=
  calls_of noCount mixed drawOk Tryz.func33 rfl (c := cfg) (args := [Sl.v list_0, Sl.v p_1]) rfl (Nat.le_of_ble_eq_true (by kernel_rfl)) drawsOk h
end impl_active

namespace impl_children
@[reducible] def cfg : Cfg := ⟨25, [(3, [1, 5, 11, 12, 13])], [(1, [1, 5, 11, 12, 13]), (0, [5])], [], [4], [], [13, 12, 21, 89, 36, 108, 74, 75, 104, 78, 125], [73, 117, 103, 46, 4, 30, 40]⟩
def q2 (pr : Prims) (R : Ending → World → Prop) : Exit → Env → World → Prop := fun ex e w => normQ ex (fun e w => contE pr cfg (sub (codeOf Tryz.f35) [1, 1, 1]) (fun e w => wpC pr PP cfg (DD pr) (sub (codeOf Tryz.f35) [1, 1, 1]) (retQ Tryz.f35.results.toList R) e w) e w) (retQ Tryz.f35.results.toList R) e w
def q5 (pr : Prims) (R : Ending → World → Prop) : Exit → Env → World → Prop := fun ex e w => blockQ ex 0 (q2 pr R) e w
def emb3 (p_1 : Sl) (out_5 : Sl) (t11 : Sl) (t12 : Int) (t13 : Int) : Env := [(1, Sl.v p_1), (5, Sl.v out_5), (11, Sl.v t11), (12, vI t12), (13, vI t13)]
def x0 (out_5 : Sl) : Env := [(5, Sl.v out_5)]
def S3 (pr : Prims) (Q : Exit → Env → World → Prop) : (Env → World → Prop) → Env → World → Prop := fun k e w => wpC pr PP cfg (DD pr) (sub (codeOf Tryz.f35) [1, 1, 0, 1, 0, 0]) (fun ex e w => normQ ex (fun e' w' => k (Env.restr e' (lookN cfg.loops (keyOf (sub (codeOf Tryz.f35) [1, 1, 0, 1, 0, 0])))) w') Q e w) e w
def B3 (pr : Prims) (p_1 : Sl) (out_5 : Sl) (t11 : Sl) (t12 : Int) (t13 : Int) (w : World) (k : Env → World → Prop) (Q : Exit → Env → World → Prop) : Prop :=
  S3 pr Q k (emb3 p_1 out_5 t11 t12 t13) w
def L3 (pr : Prims) (p_1 : Sl) (out_5 : Sl) (t11 : Sl) (t12 : Int) (t13 : Int) (w : World) (Q : Exit → Env → World → Prop) : Prop :=
  pr.loop (S3 pr Q) (emb3 p_1 out_5 t11 t12 t13) w
def E (pr : Prims) (list_0 : Sl) (p_1 : Sl) (w : World) (R : Ending → World → Prop) : Prop :=
  wpC pr PP cfg (DD pr) (codeOf Tryz.f35) (retQ Tryz.f35.results.toList R) (argE 0 [Sl.v list_0, Sl.v p_1]) w
theorem B3_eq (pr : Prims) (p_1 : Sl) (out_5 : Sl) (t11 : Sl) (t12 : Int) (t13 : Int) (w : World) (k : Env → World → Prop) (Q : Exit → Env → World → Prop) : B3 pr p_1 out_5 t11 t12 t13 w k Q = (
  bif decide (t13 < t12) then (
  pr.idxK 1 t11 t13 fun (a6 : Addr) =>
  pr.load1 (.int .i64) a6 w fun (ξ7 : Int) =>
  pr.call1 .sl PP F.impl_child #[Sl.v p_1, vI ξ7] w fun (ρ8 : Sl) ω9 =>
  pr.sem1 .sl PP (Instr.buildSlice T_SSint 1 #[(0, Sl.v ρ8)]) ω9 fun (ρ10 : Sl) ω11 =>
  pr.sem1 .sl PP (Builtin.append_ #[T_SSint, T_SSint] T_SSint #[Sl.v out_5, Sl.v ρ10]) ω11 fun (ρ12 : Sl) ω13 =>
  k (emb3 p_1 ρ12 t11 t12 (w64 (t13 + 1))) ω13)
  else (
  Q (.exit 0) (x0 out_5) w)) := by kernel_rfl
theorem B3_s (p_1 : Sl) (out_5 : Sl) (t11 : Sl) (t12 : Int) (t13 : Int) (w : World) (k : Env → World → Prop) (Q : Exit → Env → World → Prop) : B3 std p_1 out_5 t11 t12 t13 w k Q = (
  bif decide (t13 < t12) then (
  idxK 1 t11 t13 fun (a6 : Addr) =>
  load1 (.int .i64) a6 w fun (ξ7 : Int) =>
  call1 .sl PP F.impl_child #[Sl.v p_1, vI ξ7] w fun (ρ8 : Sl) ω9 =>
  sem1 .sl PP (Instr.buildSlice T_SSint 1 #[(0, Sl.v ρ8)]) ω9 fun (ρ10 : Sl) ω11 =>
  sem1 .sl PP (Builtin.append_ #[T_SSint, T_SSint] T_SSint #[Sl.v out_5, Sl.v ρ10]) ω11 fun (ρ12 : Sl) ω13 =>
  k (emb3 p_1 ρ12 t11 t12 (w64 (t13 + 1))) ω13)
  else (
  Q (.exit 0) (x0 out_5) w)) := B3_eq std p_1 out_5 t11 t12 t13 w k Q
theorem L3_rule (p_1 : Sl) (out_5 : Sl) (t11 : Sl) (t12 : Int) (t13 : Int) (w : World) (Q : Exit → Env → World → Prop) (I : Sl → Int → World → Prop) (μ : Sl → Int → World → Nat) (h0 : I out_5 t13 w)
    (h : ∀ (out_5 : Sl) (t13 : Int) (w' : World), I out_5 t13 w' → B3 std p_1 out_5 t11 t12 t13 w' (fun e2 w2 => ∃ out_5_n t13_n, e2 = emb3 p_1 out_5_n t11 t12 t13_n ∧ I out_5_n t13_n w2 ∧ μ out_5_n t13_n w2 < μ out_5 t13 w') Q) :
    L3 std p_1 out_5 t11 t12 t13 w Q := by
  unfold L3
  refine LoopE.intro (σ := Sl × Int) (step := S3 std Q) (fun s => emb3 p_1 s.1 t11 t12 s.2) (fun s w => I s.1 s.2 w) (fun s w => μ s.1 s.2 w) (out_5, t13) rfl h0 ?_
  intro s w' hI
  have h1 := h s.1 s.2 w' hI
  unfold B3 at h1
  simp only [Prod.exists]
  exact h1
theorem A3_0_eq (pr : Prims) (out_5 : Sl) (w : World) (R : Ending → World → Prop) : (q5 pr R) (.exit 0) (x0 out_5) w = (
  R (.returned (Sl.v out_5)) w) := by kernel_rfl
theorem A3_0_s (out_5 : Sl) (w : World) (R : Ending → World → Prop) : (q5 std R) (.exit 0) (x0 out_5) w = (
  R (.returned (Sl.v out_5)) w) := A3_0_eq std out_5 w R
theorem E_eq (pr : Prims) (list_0 : Sl) (p_1 : Sl) (w : World) (R : Ending → World → Prop) : E pr list_0 p_1 w R = (
  pr.sem1 .sl PP (Instr.buildSlice T_SSint 0 #[]) w fun (ρ0 : Sl) ω1 =>
  pr.call1 .sl PP F.impl_active #[Sl.v list_0, Sl.v p_1] ω1 fun (ρ3 : Sl) ω4 =>
  L3 pr p_1 ρ0 ρ3 (ρ3.n : Int) 0 ω4 (q5 pr R)) := by kernel_rfl
theorem E_s (list_0 : Sl) (p_1 : Sl) (w : World) (R : Ending → World → Prop) : E std list_0 p_1 w R = (
  sem1 .sl PP (Instr.buildSlice T_SSint 0 #[]) w fun (ρ0 : Sl) ω1 =>
  call1 .sl PP F.impl_active #[Sl.v list_0, Sl.v p_1] ω1 fun (ρ3 : Sl) ω4 =>
  L3 std p_1 ρ0 ρ3 (ρ3.n : Int) 0 ω4 (q5 std R)) := E_eq std list_0 p_1 w R
theorem drawsOk : drawsOk PP cfg okD (codeOf Tryz.f35) = true := by kernel_rfl
theorem calls (list_0 : Sl) (p_1 : Sl) {w : World} {R : Ending → World → Prop} (h : E std list_0 p_1 w R) : Calls PP F.impl_children #[Sl.v list_0, Sl.v p_1] w R :=
  calls_of noCount mixed drawOk Tryz.func35 rfl (c := cfg) (args := [Sl.v list_0, Sl.v p_1]) rfl (Nat.le_of_ble_eq_true (by kernel_rfl)) drawsOk h
end impl_children

namespace impl_LabelOf
@[reducible] def cfg : Cfg := ⟨13, [], [], [], [4], [], [13, 12, 21, 89, 36, 108, 74, 75, 104, 78, 125], [73, 117, 103, 46, 4, 30, 40]⟩
def E (pr : Prims) (list_0 : Sl) (p_1 : Sl) (w : World) (R : Ending → World → Prop) : Prop :=
  wpC pr PP cfg (DD pr) (codeOf Tryz.f19) (retQ Tryz.f19.results.toList R) (argE 0 [Sl.v list_0, Sl.v p_1]) w
theorem E_eq (pr : Prims) (list_0 : Sl) (p_1 : Sl) (w : World) (R : Ending → World → Prop) : E pr list_0 p_1 w R = (
  pr.call1 .bool PP F.impl_hasSites #[Sl.v list_0, Sl.v p_1] w fun (ρ0 : Bool) ω1 =>
  bif !ρ0 then (
  R (.returned (vI (-1))) ω1)
  else (
  pr.call1 .sl PP F.impl_active #[Sl.v list_0, Sl.v p_1] ω1 fun (ρ2 : Sl) ω3 =>
  R (.returned (vI (ρ2.n : Int))) ω3)) := by kernel_rfl
theorem E_s (list_0 : Sl) (p_1 : Sl) (w : World) (R : Ending → World → Prop) : E std list_0 p_1 w R = (
  call1 .bool PP F.impl_hasSites #[Sl.v list_0, Sl.v p_1] w fun (ρ0 : Bool) ω1 =>
  bif !ρ0 then (
  R (.returned (vI (-1))) ω1)
  else (
  call1 .sl PP F.impl_active #[Sl.v list_0, Sl.v p_1] ω1 fun (ρ2 : Sl) ω3 =>
  R (.returned (vI (ρ2.n : Int))) ω3)) := E_eq std list_0 p_1 w R
theorem drawsOk : drawsOk PP cfg okD (codeOf Tryz.f19) = true := by kernel_rfl
theorem calls (list_0 : Sl) (p_1 : Sl) {w : World} {R : Ending → World → Prop} (h : E std list_0 p_1 w R) : Calls PP F.impl_LabelOf #[Sl.v list_0, Sl.v p_1] w R :=
  calls_of noCount mixed drawOk Tryz.func19 rfl (c := cfg) (args := [Sl.v list_0, Sl.v p_1]) rfl (Nat.le_of_ble_eq_true (by kernel_rfl)) drawsOk h
end impl_LabelOf

end Go.Proofs.YteplokddaebbeaaGreat

/- InClass: the model text. -/
namespace Go.Proofs.YteplokddaebbeaaGreat
open Go Go.RowKit
set_option maxRecDepth 100000

/-! ### InClass -/
open Classical in
noncomputable def InClassV (LL : List (List Int)) (P : List Int) : Bool := decide (InCl LL P)
open Classical in
theorem c_specInClass {w : World} {l p : Sl} {LL : List (List Int)} {P : List Int} (hl : RowSS w l LL) (hL : LL.length < 2^38) (ht : tot LL < 2^37) (hp : RowI w p P) (hP : P.length < 2^37) :
    Calls PP F.spec_InClass #[l.v, p.v] w fun e w' => e = .returned (.bool (InClassV LL P)) ∧ Below w.heap.size w w' := by
  have no : ∀ w', Below w.heap.size w w' → ¬ InCl LL P → (Ending.returned (.bool false)) = .returned (.bool (InClassV LL P)) ∧ Below w.heap.size w w' := fun w' hb hn => ⟨by simp [InClassV, hn], hb⟩
  refine spec_InClass.calls l p ?_
  rw [spec_InClass.E_s]
  refine (c_specIsBasis hl hL ht).mono ?_
  rintro e w1 ⟨rfl, hb1⟩
  refine ⟨_, rfl, ?_⟩
  refine bif_intro (fun h => ?_) (fun h => ?_)
  · have hB : BasisOk LL := by simpa [IsBasisV] using h
    refine Quiet.call1 (s := .bool) (c_specIsPerm (hp.grow hb1) (by omega)) ?_
    intro w2 hd
    have hb2 := hb1.trans (hd.below _)
    refine bif_intro (fun h2 => ?_) (fun h2 => ?_)
    · have h2 : IsP P := by simpa using h2
      refine (c_l12Avoids (hl.grow hb2) (hp.grow hb2) h2.1 hL hB.len).mono ?_
      rintro e w3 ⟨rfl, hb23⟩
      refine ⟨_, rfl, ?_, hb2.trans (hb23.mono hb2.size)⟩
      congr 2
      rw [InClassV]
      cases hv : avoidsV LL P
      · rw [decide_eq_false (fun h => by rw [h.2.2] at hv; cases hv)]
      · rw [decide_eq_true ⟨hB, h2, hv⟩]
    · have h2 : ¬ IsP P := by simpa using h2
      exact no w2 hb2 fun hh => h2 hh.2.1
  · have h : ¬ BasisOk LL := by simpa [IsBasisV] using h
    exact no w1 hb1 fun hh => h hh.1
end Go.Proofs.YteplokddaebbeaaGreat

/- InClass: the program text. -/
namespace Go.Proofs.YteplokddaebbeaaGreat
open Go Go.RowKit
set_option maxRecDepth 100000

open Classical in
theorem c_implInClass {w : World} {l p : Sl} {LL : List (List Int)} {P : List Int} (hl : RowSS w l LL) (hL : LL.length < 2^38) (ht : tot LL < 2^37) (hp : RowI w p P) (hP : P.length < 2^37) :
    Calls PP F.impl_InClass #[l.v, p.v] w fun e w' => e = .returned (.bool (InClassV LL P)) ∧ Below w.heap.size w w' := by
  have no : ∀ w', Below w.heap.size w w' → ¬ InCl LL P → (Ending.returned (.bool false)) = .returned (.bool (InClassV LL P)) ∧ Below w.heap.size w w' := fun w' hb hn => ⟨by simp [InClassV, hn], hb⟩
  refine impl_InClass.calls l p ?_
  rw [impl_InClass.E_s]
  refine (c_implIsBasis hl hL ht).mono ?_
  rintro e w1 ⟨rfl, hb1⟩
  refine ⟨_, rfl, ?_⟩
  refine bif_intro (fun h => ?_) (fun h => ?_)
  · have hB : BasisOk LL := by simpa [IsBasisV] using h
    refine (c_implIsPerm (hp.grow hb1) (by omega)).mono ?_
    rintro e w2 ⟨rfl, hb12⟩
    refine ⟨_, rfl, ?_⟩
    have hb2 := hb1.trans (hb12.mono hb1.size)
    refine bif_intro (fun h2 => ?_) (fun h2 => ?_)
    · have h2 : IsP P := by simpa using h2
      refine (c_avoids (hl.grow hb2) (hp.grow hb2) hP hL (fun q hq => by have := hB.len q hq; omega)).mono ?_
      rintro e w3 ⟨rfl, hb23⟩
      refine ⟨_, rfl, ?_, hb2.trans (hb23.mono hb2.size)⟩
      congr 2
      rw [InClassV]
      cases hv : avoidsV LL P
      · rw [decide_eq_false (fun h => by rw [h.2.2] at hv; cases hv)]
      · rw [decide_eq_true ⟨hB, h2, hv⟩]
    · have h2 : ¬ IsP P := by simpa using h2
      exact no w2 hb2 fun hh => h2 hh.2.1
  · have h : ¬ BasisOk LL := by simpa [IsBasisV] using h
    exact no w1 hb1 fun hh => h hh.1
end Go.Proofs.YteplokddaebbeaaGreat

/- What each function does, step by step, written by a program (Gen.lean); each equation is checked by the kernel. -/
namespace Go.Proofs.YteplokddaebbeaaGreat
open Go
set_option linter.unusedVariables false
set_option maxRecDepth 100000
namespace impl_child
@[reducible] def cfg : Cfg := ⟨13, [], [], [], [4], [], [13, 12, 21, 89, 36, 108, 74, 75, 104, 78, 125], [73, 117, 103, 46, 4, 30, 40]⟩
def E (pr : Prims) (p_0 : Sl) (site_1 : Int) (w : World) (R : Ending → World → Prop) : Prop :=
  wpC pr PP cfg (DD pr) (codeOf Tryz.f69) (retQ Tryz.f69.results.toList R) (argE 0 [Sl.v p_0, vI site_1]) w
theorem E_eq (pr : Prims) (p_0 : Sl) (site_1 : Int) (w : World) (R : Ending → World → Prop) : E pr p_0 site_1 w R = (
  pr.call1 .sl PP F.slices_Clone___int_int_ #[Sl.v p_0] w fun (ρ0 : Sl) ω1 =>
  pr.sem1 .sl PP (Instr.buildSlice T_Sint 1 #[(0, vI (w64 ((p_0.n : Int) + 1)))]) ω1 fun (ρ2 : Sl) ω3 =>
  pr.call1 .sl PP F.slices_Insert___int_int_ #[Sl.v ρ0, vI site_1, Sl.v ρ2] ω3 fun (ρ4 : Sl) ω5 =>
  R (.returned (Sl.v ρ4)) ω5) := by kernel_rfl
theorem E_s (p_0 : Sl) (site_1 : Int) (w : World) (R : Ending → World → Prop) : E std p_0 site_1 w R = (
  call1 .sl PP F.slices_Clone___int_int_ #[Sl.v p_0] w fun (ρ0 : Sl) ω1 =>
  sem1 .sl PP (Instr.buildSlice T_Sint 1 #[(0, vI (w64 ((p_0.n : Int) + 1)))]) ω1 fun (ρ2 : Sl) ω3 =>
  call1 .sl PP F.slices_Insert___int_int_ #[Sl.v ρ0, vI site_1, Sl.v ρ2] ω3 fun (ρ4 : Sl) ω5 =>
  R (.returned (Sl.v ρ4)) ω5) := E_eq std p_0 site_1 w R
theorem drawsOk : drawsOk PP cfg okD (codeOf Tryz.f69) = true := by kernel_rfl
theorem calls (p_0 : Sl) (site_1 : Int) {w : World} {R : Ending → World → Prop} (h : E std p_0 site_1 w R) : Calls PP F.impl_child #[Sl.v p_0, vI site_1] w R :=
  calls_of noCount mixed drawOk Tryz.func69 rfl (c := cfg) (args := [Sl.v p_0, vI site_1]) rfl (Nat.le_of_ble_eq_true (by kernel_rfl)) drawsOk h
end impl_child

namespace spec_l14Child
@[reducible] def cfg : Cfg := ⟨19, [], [], [], [4], [], [13, 12, 21, 89, 36, 108, 74, 75, 104, 78, 125], [73, 117, 103, 46, 4, 30, 40]⟩
def E (pr : Prims) (p_0 : Sl) (site_1 : Int) (w : World) (R : Ending → World → Prop) : Prop :=
  wpC pr PP cfg (DD pr) (codeOf Tryz.f77) (retQ Tryz.f77.results.toList R) (argE 0 [Sl.v p_0, vI site_1]) w
theorem E_eq (pr : Prims) (p_0 : Sl) (site_1 : Int) (w : World) (R : Ending → World → Prop) : E pr p_0 site_1 w R = (
  pr.drewAll w fun ω0 =>
  pr.cutK 1 p_0 none (some site_1) fun (s1 : Sl) =>
  pr.cutK 1 p_0 (some site_1) none fun (s2 : Sl) =>
  (pr.sem1 .sl PP (Instr.buildSlice T_Sint 0 #[]) ω0 fun (ρ3 : Sl) ω4 =>
  (pr.sem1 .sl PP (Builtin.append_ #[T_Sint, T_Sint] T_Sint #[Sl.v ρ3, Sl.v s1]) ω4 fun (ρ5 : Sl) ω6 =>
  pr.sem1 .sl PP (Instr.buildSlice T_Sint 1 #[(0, vI (w64 ((p_0.n : Int) + 1)))]) ω6 fun (ρ7 : Sl) ω8 =>
  pr.sem1 .sl PP (Builtin.append_ #[T_Sint, T_Sint] T_Sint #[Sl.v ρ5, Sl.v ρ7]) ω8 fun (ρ9 : Sl) ω10 =>
  pr.sem1 .sl PP (Builtin.append_ #[T_Sint, T_Sint] T_Sint #[Sl.v ρ9, Sl.v s2]) ω10 fun (ρ11 : Sl) ω12 =>
  R (.returned (Sl.v ρ11)) ω12) ∧
  (pr.sem1 .sl PP (Instr.buildSlice T_Sint 1 #[(0, vI (w64 ((p_0.n : Int) + 1)))]) ω4 fun (ρ13 : Sl) ω14 =>
  pr.sem1 .sl PP (Builtin.append_ #[T_Sint, T_Sint] T_Sint #[Sl.v ρ3, Sl.v s1]) ω14 fun (ρ15 : Sl) ω16 =>
  pr.sem1 .sl PP (Builtin.append_ #[T_Sint, T_Sint] T_Sint #[Sl.v ρ15, Sl.v ρ13]) ω16 fun (ρ17 : Sl) ω18 =>
  pr.sem1 .sl PP (Builtin.append_ #[T_Sint, T_Sint] T_Sint #[Sl.v ρ17, Sl.v s2]) ω18 fun (ρ19 : Sl) ω20 =>
  R (.returned (Sl.v ρ19)) ω20)) ∧
  (pr.sem1 .sl PP (Instr.buildSlice T_Sint 1 #[(0, vI (w64 ((p_0.n : Int) + 1)))]) ω0 fun (ρ21 : Sl) ω22 =>
  pr.sem1 .sl PP (Instr.buildSlice T_Sint 0 #[]) ω22 fun (ρ23 : Sl) ω24 =>
  pr.sem1 .sl PP (Builtin.append_ #[T_Sint, T_Sint] T_Sint #[Sl.v ρ23, Sl.v s1]) ω24 fun (ρ25 : Sl) ω26 =>
  pr.sem1 .sl PP (Builtin.append_ #[T_Sint, T_Sint] T_Sint #[Sl.v ρ25, Sl.v ρ21]) ω26 fun (ρ27 : Sl) ω28 =>
  pr.sem1 .sl PP (Builtin.append_ #[T_Sint, T_Sint] T_Sint #[Sl.v ρ27, Sl.v s2]) ω28 fun (ρ29 : Sl) ω30 =>
  R (.returned (Sl.v ρ29)) ω30)) := by kernel_rfl
theorem E_s (p_0 : Sl) (site_1 : Int) (w : World) (R : Ending → World → Prop) : E std p_0 site_1 w R = (
  drewAll w fun ω0 =>
  cutK 1 p_0 none (some site_1) fun (s1 : Sl) =>
  cutK 1 p_0 (some site_1) none fun (s2 : Sl) =>
  (sem1 .sl PP (Instr.buildSlice T_Sint 0 #[]) ω0 fun (ρ3 : Sl) ω4 =>
  (sem1 .sl PP (Builtin.append_ #[T_Sint, T_Sint] T_Sint #[Sl.v ρ3, Sl.v s1]) ω4 fun (ρ5 : Sl) ω6 =>
  sem1 .sl PP (Instr.buildSlice T_Sint 1 #[(0, vI (w64 ((p_0.n : Int) + 1)))]) ω6 fun (ρ7 : Sl) ω8 =>
  sem1 .sl PP (Builtin.append_ #[T_Sint, T_Sint] T_Sint #[Sl.v ρ5, Sl.v ρ7]) ω8 fun (ρ9 : Sl) ω10 =>
  sem1 .sl PP (Builtin.append_ #[T_Sint, T_Sint] T_Sint #[Sl.v ρ9, Sl.v s2]) ω10 fun (ρ11 : Sl) ω12 =>
  R (.returned (Sl.v ρ11)) ω12) ∧
  (sem1 .sl PP (Instr.buildSlice T_Sint 1 #[(0, vI (w64 ((p_0.n : Int) + 1)))]) ω4 fun (ρ13 : Sl) ω14 =>
  sem1 .sl PP (Builtin.append_ #[T_Sint, T_Sint] T_Sint #[Sl.v ρ3, Sl.v s1]) ω14 fun (ρ15 : Sl) ω16 =>
  sem1 .sl PP (Builtin.append_ #[T_Sint, T_Sint] T_Sint #[Sl.v ρ15, Sl.v ρ13]) ω16 fun (ρ17 : Sl) ω18 =>
  sem1 .sl PP (Builtin.append_ #[T_Sint, T_Sint] T_Sint #[Sl.v ρ17, Sl.v s2]) ω18 fun (ρ19 : Sl) ω20 =>
  R (.returned (Sl.v ρ19)) ω20)) ∧
  (sem1 .sl PP (Instr.buildSlice T_Sint 1 #[(0, vI (w64 ((p_0.n : Int) + 1)))]) ω0 fun (ρ21 : Sl) ω22 =>
  sem1 .sl PP (Instr.buildSlice T_Sint 0 #[]) ω22 fun (ρ23 : Sl) ω24 =>
  sem1 .sl PP (Builtin.append_ #[T_Sint, T_Sint] T_Sint #[Sl.v ρ23, Sl.v s1]) ω24 fun (ρ25 : Sl) ω26 =>
  sem1 .sl PP (Builtin.append_ #[T_Sint, T_Sint] T_Sint #[Sl.v ρ25, Sl.v ρ21]) ω26 fun (ρ27 : Sl) ω28 =>
  sem1 .sl PP (Builtin.append_ #[T_Sint, T_Sint] T_Sint #[Sl.v ρ27, Sl.v s2]) ω28 fun (ρ29 : Sl) ω30 =>
  R (.returned (Sl.v ρ29)) ω30)) := E_eq std p_0 site_1 w R
theorem drawsOk : drawsOk PP cfg okD (codeOf Tryz.f77) = true := by kernel_rfl
theorem calls (p_0 : Sl) (site_1 : Int) {w : World} {R : Ending → World → Prop} (h : E std p_0 site_1 w R) : Calls PP F.spec_l14Child #[Sl.v p_0, vI site_1] w R :=
  calls_of noCount mixed drawOk Tryz.func77 rfl (c := cfg) (args := [Sl.v p_0, vI site_1]) rfl (Nat.le_of_ble_eq_true (by kernel_rfl)) drawsOk h
end spec_l14Child

end Go.Proofs.YteplokddaebbeaaGreat

/- What each function does, step by step, written by a program (Gen.lean); each equation is checked by the kernel. -/
namespace Go.Proofs.YteplokddaebbeaaGreat
open Go
set_option linter.unusedVariables false
set_option maxRecDepth 100000
namespace slices_Insert___int_int_
@[reducible] def cfg : Cfg := ⟨95, [], [], [], [6], [], [13, 12, 21, 89, 36, 108, 74, 75, 104, 78, 125], [73, 117, 103, 46, 4, 30, 40]⟩
def E (pr : Prims) (s_0 : Sl) (i_1 : Int) (v_2 : Sl) (w : World) (R : Ending → World → Prop) : Prop :=
  wpC pr PP cfg (DD pr) (codeOf Tryz.f91) (retQ Tryz.f91.results.toList R) (argE 0 [Sl.v s_0, vI i_1, Sl.v v_2]) w
theorem E_eq (pr : Prims) (s_0 : Sl) (i_1 : Int) (v_2 : Sl) (w : World) (R : Ending → World → Prop) : E pr s_0 i_1 v_2 w R = (
  pr.cutK 1 s_0 (some i_1) none fun (s0 : Sl) =>
  bif (v_2.n : Int) == 0 then (
  R (.returned (Sl.v s_0)) w)
  else (
  bif i_1 == (s_0.n : Int) then (
  pr.sem1 .sl PP (Builtin.append_ #[T_Sint, T_Sint] T_Sint #[Sl.v s_0, Sl.v v_2]) w fun (ρ1 : Sl) ω2 =>
  R (.returned (Sl.v ρ1)) ω2)
  else (
  bif decide ((w64 ((s_0.n : Int) + (v_2.n : Int))) > (s_0.c : Int)) then (
  pr.cutK 1 s_0 none (some i_1) fun (s3 : Sl) =>
  pr.sem1 .sl PP (Builtin.append_ #[T_Sint, T_int] T_Sint #[Sl.v s3, vI (w64 ((w64 ((s_0.n : Int) + (v_2.n : Int))) - i_1))]) w fun (ρ4 : Sl) ω5 =>
  pr.cutK 1 ρ4 (some i_1) none fun (s6 : Sl) =>
  pr.sem1 (.int .i64) PP (Builtin.copy_ #[T_Sint, T_Sint] T_int #[Sl.v s6, Sl.v v_2]) ω5 fun (ρ7 : Int) ω8 =>
  pr.drewAll ω8 fun ω9 =>
  pr.cutK 1 ρ4 (some (w64 (i_1 + (v_2.n : Int)))) none fun (s10 : Sl) =>
  pr.cutK 1 s_0 (some i_1) none fun (s11 : Sl) =>
  pr.sem1 (.int .i64) PP (Builtin.copy_ #[T_Sint, T_Sint] T_int #[Sl.v s10, Sl.v s11]) ω9 fun (ρ12 : Int) ω13 =>
  R (.returned (Sl.v ρ4)) ω13)
  else (
  pr.cutK 1 s_0 none (some (w64 ((s_0.n : Int) + (v_2.n : Int)))) fun (s14 : Sl) =>
  pr.cutK 1 s14 (some (w64 (i_1 + (v_2.n : Int)))) none fun (s15 : Sl) =>
  pr.ext1 .bool PP F.slices_overlaps_int_ #[Sl.v v_2, Sl.v s15] w fun (ρ16 : Bool) ω17 =>
  bif !ρ16 then (
  pr.drewAll ω17 fun ω18 =>
  pr.cutK 1 s14 (some (w64 (i_1 + (v_2.n : Int)))) none fun (s19 : Sl) =>
  pr.cutK 1 s14 (some i_1) none fun (s20 : Sl) =>
  pr.sem1 (.int .i64) PP (Builtin.copy_ #[T_Sint, T_Sint] T_int #[Sl.v s19, Sl.v s20]) ω18 fun (ρ21 : Int) ω22 =>
  pr.cutK 1 s14 (some i_1) none fun (s23 : Sl) =>
  pr.sem1 (.int .i64) PP (Builtin.copy_ #[T_Sint, T_Sint] T_int #[Sl.v s23, Sl.v v_2]) ω22 fun (ρ24 : Int) ω25 =>
  R (.returned (Sl.v s14)) ω25)
  else (
  pr.cutK 1 s14 (some (s_0.n : Int)) none fun (s26 : Sl) =>
  pr.sem1 (.int .i64) PP (Builtin.copy_ #[T_Sint, T_Sint] T_int #[Sl.v s26, Sl.v v_2]) ω17 fun (ρ27 : Int) ω28 =>
  pr.cutK 1 s14 (some i_1) none fun (s29 : Sl) =>
  pr.call0  PP F.slices_rotateRight_int_ #[Sl.v s29, vI (v_2.n : Int)] ω28 fun ω30 =>
  R (.returned (Sl.v s14)) ω30))))) := by kernel_rfl
theorem E_s (s_0 : Sl) (i_1 : Int) (v_2 : Sl) (w : World) (R : Ending → World → Prop) : E std s_0 i_1 v_2 w R = (
  cutK 1 s_0 (some i_1) none fun (s0 : Sl) =>
  bif (v_2.n : Int) == 0 then (
  R (.returned (Sl.v s_0)) w)
  else (
  bif i_1 == (s_0.n : Int) then (
  sem1 .sl PP (Builtin.append_ #[T_Sint, T_Sint] T_Sint #[Sl.v s_0, Sl.v v_2]) w fun (ρ1 : Sl) ω2 =>
  R (.returned (Sl.v ρ1)) ω2)
  else (
  bif decide ((w64 ((s_0.n : Int) + (v_2.n : Int))) > (s_0.c : Int)) then (
  cutK 1 s_0 none (some i_1) fun (s3 : Sl) =>
  sem1 .sl PP (Builtin.append_ #[T_Sint, T_int] T_Sint #[Sl.v s3, vI (w64 ((w64 ((s_0.n : Int) + (v_2.n : Int))) - i_1))]) w fun (ρ4 : Sl) ω5 =>
  cutK 1 ρ4 (some i_1) none fun (s6 : Sl) =>
  sem1 (.int .i64) PP (Builtin.copy_ #[T_Sint, T_Sint] T_int #[Sl.v s6, Sl.v v_2]) ω5 fun (ρ7 : Int) ω8 =>
  drewAll ω8 fun ω9 =>
  cutK 1 ρ4 (some (w64 (i_1 + (v_2.n : Int)))) none fun (s10 : Sl) =>
  cutK 1 s_0 (some i_1) none fun (s11 : Sl) =>
  sem1 (.int .i64) PP (Builtin.copy_ #[T_Sint, T_Sint] T_int #[Sl.v s10, Sl.v s11]) ω9 fun (ρ12 : Int) ω13 =>
  R (.returned (Sl.v ρ4)) ω13)
  else (
  cutK 1 s_0 none (some (w64 ((s_0.n : Int) + (v_2.n : Int)))) fun (s14 : Sl) =>
  cutK 1 s14 (some (w64 (i_1 + (v_2.n : Int)))) none fun (s15 : Sl) =>
  ext1 .bool PP F.slices_overlaps_int_ #[Sl.v v_2, Sl.v s15] w fun (ρ16 : Bool) ω17 =>
  bif !ρ16 then (
  drewAll ω17 fun ω18 =>
  cutK 1 s14 (some (w64 (i_1 + (v_2.n : Int)))) none fun (s19 : Sl) =>
  cutK 1 s14 (some i_1) none fun (s20 : Sl) =>
  sem1 (.int .i64) PP (Builtin.copy_ #[T_Sint, T_Sint] T_int #[Sl.v s19, Sl.v s20]) ω18 fun (ρ21 : Int) ω22 =>
  cutK 1 s14 (some i_1) none fun (s23 : Sl) =>
  sem1 (.int .i64) PP (Builtin.copy_ #[T_Sint, T_Sint] T_int #[Sl.v s23, Sl.v v_2]) ω22 fun (ρ24 : Int) ω25 =>
  R (.returned (Sl.v s14)) ω25)
  else (
  cutK 1 s14 (some (s_0.n : Int)) none fun (s26 : Sl) =>
  sem1 (.int .i64) PP (Builtin.copy_ #[T_Sint, T_Sint] T_int #[Sl.v s26, Sl.v v_2]) ω17 fun (ρ27 : Int) ω28 =>
  cutK 1 s14 (some i_1) none fun (s29 : Sl) =>
  call0  PP F.slices_rotateRight_int_ #[Sl.v s29, vI (v_2.n : Int)] ω28 fun ω30 =>
  R (.returned (Sl.v s14)) ω30))))) := E_eq std s_0 i_1 v_2 w R
theorem drawsOk : drawsOk PP cfg okD (codeOf Tryz.f91) = true := by kernel_rfl
theorem calls (s_0 : Sl) (i_1 : Int) (v_2 : Sl) {w : World} {R : Ending → World → Prop} (h : E std s_0 i_1 v_2 w R) : Calls PP F.slices_Insert___int_int_ #[Sl.v s_0, vI i_1, Sl.v v_2] w R :=
  calls_of noCount mixed drawOk Tryz.func91 rfl (c := cfg) (args := [Sl.v s_0, vI i_1, Sl.v v_2]) rfl (Nat.le_of_ble_eq_true (by kernel_rfl)) drawsOk h
end slices_Insert___int_int_

namespace slices_rotateRight_int_
@[reducible] def cfg : Cfg := ⟨10, [], [], [], [], [], [13, 12, 21, 89, 36, 108, 74, 75, 104, 78, 125], [73, 117, 103, 46, 4, 30, 40]⟩
def E (pr : Prims) (s_0 : Sl) (r_1 : Int) (w : World) (R : Ending → World → Prop) : Prop :=
  wpC pr PP cfg (DD pr) (codeOf Tryz.f110) (retQ Tryz.f110.results.toList R) (argE 0 [Sl.v s_0, vI r_1]) w
theorem E_eq (pr : Prims) (s_0 : Sl) (r_1 : Int) (w : World) (R : Ending → World → Prop) : E pr s_0 r_1 w R = (
  pr.call0  PP F.slices_rotateLeft_int_ #[Sl.v s_0, vI (w64 ((s_0.n : Int) - r_1))] w fun ω0 =>
  R (.returned (.tuple #[])) ω0) := by kernel_rfl
theorem E_s (s_0 : Sl) (r_1 : Int) (w : World) (R : Ending → World → Prop) : E std s_0 r_1 w R = (
  call0  PP F.slices_rotateLeft_int_ #[Sl.v s_0, vI (w64 ((s_0.n : Int) - r_1))] w fun ω0 =>
  R (.returned (.tuple #[])) ω0) := E_eq std s_0 r_1 w R
theorem drawsOk : drawsOk PP cfg okD (codeOf Tryz.f110) = true := by kernel_rfl
theorem calls (s_0 : Sl) (r_1 : Int) {w : World} {R : Ending → World → Prop} (h : E std s_0 r_1 w R) : Calls PP F.slices_rotateRight_int_ #[Sl.v s_0, vI r_1] w R :=
  calls_of noCount mixed drawOk Tryz.func110 rfl (c := cfg) (args := [Sl.v s_0, vI r_1]) rfl (Nat.le_of_ble_eq_true (by kernel_rfl)) drawsOk h
end slices_rotateRight_int_

namespace slices_rotateLeft_int_
@[reducible] def cfg : Cfg := ⟨14, [], [], [], [], [], [13, 12, 21, 89, 36, 108, 74, 75, 104, 78, 125], [73, 117, 103, 46, 4, 30, 40]⟩
def E (pr : Prims) (s_0 : Sl) (r_1 : Int) (w : World) (R : Ending → World → Prop) : Prop :=
  wpC pr PP cfg (DD pr) (codeOf Tryz.f127) (retQ Tryz.f127.results.toList R) (argE 0 [Sl.v s_0, vI r_1]) w
theorem E_eq (pr : Prims) (s_0 : Sl) (r_1 : Int) (w : World) (R : Ending → World → Prop) : E pr s_0 r_1 w R = (
  pr.cutK 1 s_0 none (some r_1) fun (s0 : Sl) =>
  pr.call0  PP F.slices_Reverse___int_int_ #[Sl.v s0] w fun ω1 =>
  pr.cutK 1 s_0 (some r_1) none fun (s2 : Sl) =>
  pr.call0  PP F.slices_Reverse___int_int_ #[Sl.v s2] ω1 fun ω3 =>
  pr.call0  PP F.slices_Reverse___int_int_ #[Sl.v s_0] ω3 fun ω4 =>
  R (.returned (.tuple #[])) ω4) := by kernel_rfl
theorem E_s (s_0 : Sl) (r_1 : Int) (w : World) (R : Ending → World → Prop) : E std s_0 r_1 w R = (
  cutK 1 s_0 none (some r_1) fun (s0 : Sl) =>
  call0  PP F.slices_Reverse___int_int_ #[Sl.v s0] w fun ω1 =>
  cutK 1 s_0 (some r_1) none fun (s2 : Sl) =>
  call0  PP F.slices_Reverse___int_int_ #[Sl.v s2] ω1 fun ω3 =>
  call0  PP F.slices_Reverse___int_int_ #[Sl.v s_0] ω3 fun ω4 =>
  R (.returned (.tuple #[])) ω4) := E_eq std s_0 r_1 w R
theorem drawsOk : drawsOk PP cfg okD (codeOf Tryz.f127) = true := by kernel_rfl
theorem calls (s_0 : Sl) (r_1 : Int) {w : World} {R : Ending → World → Prop} (h : E std s_0 r_1 w R) : Calls PP F.slices_rotateLeft_int_ #[Sl.v s_0, vI r_1] w R :=
  calls_of noCount mixed drawOk Tryz.func127 rfl (c := cfg) (args := [Sl.v s_0, vI r_1]) rfl (Nat.le_of_ble_eq_true (by kernel_rfl)) drawsOk h
end slices_rotateLeft_int_

end Go.Proofs.YteplokddaebbeaaGreat

/- The library's Insert of one number into a row of ints that the call owns. -/
namespace Go.Proofs.YteplokddaebbeaaGreat
open Go Go.RowKit
set_option maxRecDepth 100000

theorem splice_take {α : Type} (C news : List α) {lo k n : Nat} (hk : news.length = k) (h : lo + k ≤ n) (hn : n ≤ C.length) : (C.take lo ++ news ++ C.drop (lo + k)).take n = (C.take n).take lo ++ news ++ (C.take n).drop (lo + k) := by
  have hA : (C.take lo ++ news).length = lo + k := by simp; omega
  rw [List.take_append, hA, List.take_of_length_le (by omega), List.take_take, Nat.min_eq_left (by omega), List.drop_take]
/-- 'copy(s[lo:], r)'. -/
theorem copy_run {tt : TypeId} {w : World} {B : Nat} {s r : Sl} {vs news : List Value} (h : Own w B T_int s vs) {lo k : Nat} (hlo : lo < vs.length) (hr : Row w r news) (hk : k = min news.length (vs.length - lo)) (h1 : ∀ v ∈ news.take k, One v) (hk0 : 0 < k) {K : Int → World → Prop}
    (hK : ∀ w', Own w' B T_int s (vs.take lo ++ news.take k ++ vs.drop (lo + k)) → w.grownBy w' s.blk → w'.heap.size = w.heap.size → K k w') :
    sem1 (.int .i64) PP (Builtin.copy_ #[T_Sint, T_Sint] tt #[(s.cut 1 lo s.n).v, r.v]) w K := by
  have hn := h.n
  have hnc := h.nc
  rcases h.at_ with hc | ⟨g, cur, ha, hb, hg, hs, ht⟩
  · omega
  obtain ⟨i, hu, hi, hz, hsz, hbb, hzc⟩ := oneInt
  have hblk : s.blk = some g := by simp [Sl.blk, show s.c ≠ 0 by omega, ha]
  have ecut : s.cut 1 lo s.n = ⟨some ⟨g, lo, none⟩, s.n - lo, s.c - lo⟩ := by
    simp only [Sl.cut]
    rw [if_neg (by omega), ha]
    simp only [Option.map_some, Nat.mul_one, add_lit, Nat.zero_add]
  obtain ⟨ra, hra, _⟩ := hr.cell 0 (news[0]'(by omega)) (List.getElem?_eq_getElem (by omega))
  have hrn := hr.n
  have hlen : (news.take k).length = k := by rw [List.length_take]; omega
  have hrun := run_copy_row (P := PP) w T_Sint T_Sint tt T_int g lo (s.n - lo) (s.c - lo) ra r.n r.c cur T_int (news.take k) hu (by rw [hi]; simp [hsz]) hg
    (by rw [hlen, hrn, hn, hk]) (fun j v hv => by
      rw [List.getElem?_take] at hv
      split at hv
      · obtain ⟨a', ha', hc'⟩ := hr.cell j v hv
        rw [hra] at ha'; cases ha'; exact hc'
      · cases hv) (by rw [hlen]; omega) (fun v hv => (h1 v hv).2)
  rw [hlen] at hrun
  rw [ecut]
  have e2 : r.v = .slice (some ra) r.n r.c := by simp only [Sl.v, hra]
  refine ⟨k, _, by rw [e2]; exact hrun, hK _ ⟨?_, hnc, h.cm, .inr ⟨g, _, ha, hb, setRow_heap w g cur _ T_int (0, 0) hg, ?_, ?_⟩⟩ ?_ (by simp [World.setRow])⟩
  · simp only [List.length_append, hlen, List.length_take, List.length_drop]; omega
  · simp only [List.size_toArray, List.length_append, hlen, List.length_take, List.length_drop, Array.length_toList]; omega
  · rw [← ht]
    exact splice_take _ _ hlen (by omega) (by simp <;> omega)
  · rw [hblk]
    exact ⟨rfl, rfl, rfl, by simp [World.setRow], fun x hx hne => setRow_other w g x _ (fun e => hne (by rw [e]))⟩
theorem cutK_lo {w B e s vs} (h : Own w B e s vs) {lo : Nat} (hlo : lo ≤ vs.length) {K : Sl → Prop} (hK : K (s.cut 1 lo s.n)) : cutK 1 s (some (lo : Int)) none K := by
  have hn := h.n
  have hnc := h.nc
  refine ⟨by simp, by simp; omega, by simp; omega, ?_⟩
  simpa using hK
/-- A row behind an Own's cut. -/
theorem cut_row {w B e s vs} (h : Own w B e s vs) {lo : Nat} (hlo : lo ≤ vs.length) : Row w (s.cut 1 lo s.n) (vs.drop lo) := by
  have hn := h.n
  have hnc := h.nc
  refine ⟨by simp [Sl.cut]; omega, by simp only [Sl.cut]; omega, fun i v hv => ?_⟩
  rw [List.getElem?_drop] at hv
  obtain ⟨a, ha, hc⟩ := h.row.cell _ v hv
  have hlt : lo + i < vs.length := (List.getElem?_eq_some_iff.1 hv).1
  refine ⟨a.add lo, ?_, by rw [add_add]; exact hc⟩
  simp only [Sl.cut, Nat.mul_one]
  rw [if_neg (by omega), ha]; rfl
theorem insW_eq {α : Type} (L : List α) (x : α) (i : Nat) (hi : i ≤ L.length) : (L.take i ++ x :: L.drop i).length = L.length + 1 := by simp; omega
theorem bodied_overlaps : bodied PP F.slices_overlaps_int_ = false := by kernel_rfl
theorem overlaps_fn : ∃ fn, PP.funcs[F.slices_overlaps_int_]? = some fn ∧ (fn.name == "runtime.NumGoroutine") = false ∧ fn.body.isNone = true ∧ Extern.findNext fn = none ∧ Extern.find fn = some (Extern.SlicesOverlaps.overlaps #[T_Sint, T_Sint] #[T_bool]) :=
  ⟨_, rfl, by kernel_rfl, by kernel_rfl, by kernel_rfl, by kernel_rfl⟩
theorem size_int : ∀ w, (Go.sizeOf T_int).run PP w = .ok 1 w := fun w => by
  obtain ⟨i, hu, hi, hz, hsz, hbb, hzc⟩ := oneInt
  simp [sizeOf, typeInfo, hi, hsz]
theorem overlaps_apart {w : World} {B B' : Nat} {v s : Sl} {us vs : List Value} (hv : Own w B T_int v us) (hs : Own w B' T_int s vs) (hap : Apt v s) (hu : us ≠ []) {lo : Nat} (hlo : lo < vs.length) {K : Bool → World → Prop} (hK : K false w) :
    ext1 .bool PP F.slices_overlaps_int_ #[v.v, (s.cut 1 lo s.n).v] w K := by
  obtain ⟨fn, hf, h1, h2, h3, h4⟩ := overlaps_fn
  have hun : 0 < us.length := List.length_pos_iff.2 hu
  have hvn := hv.n; have hvc := hv.nc; have hsn := hs.n; have hsc := hs.nc
  rcases hv.at_ with hc | ⟨g, cur, ha, hb, hg, hcs, ht⟩
  · omega
  rcases hs.at_ with hc | ⟨g2, cur2, ha2, hb2, hg2, hcs2, ht2⟩
  · omega
  have b1 : v.blk = some g := by simp [Sl.blk, show v.c ≠ 0 by omega, ha]
  have b2 : s.blk = some g2 := by simp [Sl.blk, show s.c ≠ 0 by omega, ha2]
  have hne : g ≠ g2 := fun e => hap g b1 (by rw [b2, e])
  have ecut : s.cut 1 lo s.n = ⟨some ⟨g2, lo, none⟩, s.n - lo, s.c - lo⟩ := by
    simp only [Sl.cut]
    rw [if_neg (by omega), ha2]
    simp only [Option.map_some, Nat.mul_one, add_lit, Nat.zero_add]
  refine ⟨false, w, ?_, hK⟩
  rw [run_callFunc_extern hf h1 h2 h3 h4, ecut]
  have e1 : v.v = .slice (some ⟨g, 0, none⟩) v.n v.c := by simp only [Sl.v, ha]
  have hus : PP.underlying T_Sint = some (.slice T_int) := by obtain ⟨i, hu, _⟩ := oneInt; exact hu
  rw [e1, Lib.run_overlaps_apart w T_Sint T_bool T_int hus 1 size_int ⟨g, 0, none⟩ ⟨g2, lo, none⟩ v.n v.c (s.n - lo) (s.c - lo) hne T_int T_int cur.size cur2.size (by simp [World.shape?, hg]) (by simp [World.shape?, hg2]) (by omega) (by simp [World.frozen?, hg]) (by simp [World.frozen?, hg])]
  rfl

theorem c_Insert {w : World} {B : Nat} {s v : Sl} {L : List Int} {x : Int} (h : OwnI w B s L) (hB : B ≤ w.heap.size) (hv : OwnI w B v [x]) (hap : Apt v s) (hL : L.length < 2^38) {i : Nat} (hi : i ≤ L.length) :
    Calls PP F.slices_Insert___int_int_ #[s.v, vI i, v.v] w fun e w' => ∃ s' : Sl, e = .returned s'.v ∧ OwnI w' B s' (L.take i ++ x :: L.drop i) ∧ w.grownBy w' s.blk ∧ Next w s s' := by
  have hsn : s.n = L.length := by have := h.n; simpa using this
  have hvn : v.n = 1 := by have := hv.n; simpa using this
  have hnc := h.nc
  refine slices_Insert___int_int_.calls s i v ?_
  rw [slices_Insert___int_int_.E_s, hsn, hvn]
  refine cutK_lo h (by simpa using hi) ?_
  refine bif_f (by simp) ?_
  have hone : ∀ u ∈ [x].map vI, One u := fun u hu => by simp at hu; subst hu; exact One.int x
  have honeL : ∀ u ∈ L.map vI, One u := fun u hu => by obtain ⟨y, _, rfl⟩ := List.mem_map.1 hu; exact One.int y
  refine bif_intro (fun h1 => ?_) (fun h1 => ?_)
  · have h1 : i = L.length := by simp at h1; omega
    subst h1
    refine append_row oneInt h hB hv.row hone (by simp <;> omega) ?_
    intro s' w' hs' hg' hn' _
    refine ⟨s', rfl, ?_, hg', hn'⟩
    rw [List.take_length, List.drop_length]
    simpa [OwnI] using hs'
  have hlt : i < L.length := by simp at h1; omega
  rw [w64_id (n := (L.length : Int) + ((1 : Nat) : Int)) (by omega) (by omega)]
  refine bif_dec (fun h2 => ?_) (fun h2 => ?_)
  · -- a new block
    rw [w64_id (n := (L.length : Int) + ((1 : Nat) : Int) - (i : Int)) (by omega) (by omega)]
    refine Own.popE h (by omega) (by simp <;> omega) fun hs3 => ?_
    rw [Int.toNat_natCast] at hs3 ⊢
    obtain ⟨ii, hu, hii, hz, hsz, hbb, hzc⟩ := oneInt
    have hui : PP.underlying T_int = some (.int .i64) := by kernel_rfl
    have e2 : (L.map vI).take i = (L.take i).map vI := by rw [List.map_take]
    rw [e2] at hs3
    have hold : (Builtin.firstCells ii.size i (.slice s.a i s.c)).run PP w.drew = .ok ((L.take i).map vI).toArray w.drew := by
      rw [hsz]
      cases hsa : s.a with
      | none =>
        have : L = [] := by
          cases L with
          | nil => rfl
          | cons y r => obtain ⟨a, ha, _⟩ := h.row.cell 0 (vI y) rfl; rw [hsa] at ha; cases ha
        subst this
        simp at hlt
      | some a =>
        refine run_firstCells_some w.drew 1 i a i s.c ((L.take i).map vI) (by simp <;> omega) (fun j u hj => ?_)
        obtain ⟨a', ha, hc⟩ := hs3.row.cell j u hj
        simp only at ha
        rw [hsa] at ha; cases ha; exact hc
    obtain ⟨m, hm⟩ : ∃ m : Nat, m = L.length + 1 - i := ⟨_, rfl⟩
    have hmi : ((L.length : Int) + ((1 : Nat) : Int) - (i : Int)) = (m : Int) := by omega
    rw [hmi]
    have him : i + m = L.length + 1 := by omega
    have hb24 : m * ii.bytes ≤ 281474976710656 := by
      have : m * ii.bytes ≤ m * 24 := Nat.mul_le_mul_left _ hbb
      omega
    have hrun := Go.Lib.run_append_grow_zeros (P := PP) w T_Sint T_int T_Sint T_int ii (vI 0) .i64 .i64 hu hui hii hz s.a i s.c _ hold m (by omega) (by omega) (by omega) (by omega) hb24 (growslice_fits (by omega) (by
      have : (i + m) * ii.bytes ≤ (i + m) * 24 := Nat.mul_le_mul_left _ hbb
      omega))
    have hge := grownCap_ge w (i + m) s.c T_int
    have hcm := grownCap_le_maxLen w (i + m) s.c T_int (by simp only [maxLen]; omega)
    refine ⟨⟨some ⟨w.heap.size, 0, none⟩, i + m, grownCap w (i + m) s.c T_int⟩, _, hrun, ?_⟩
    have hnew := heap_alloc_new w.drew (.cells (((L.take i).map vI).toArray ++ Builtin.zeroCells (vI 0).cells m ++ Builtin.zeroCells (vI 0).cells (grownCap w (i + m) s.c T_int - (i + m))) T_int)
    generalize hwn : w.drew.alloc (.cells (((L.take i).map vI).toArray ++ Builtin.zeroCells (vI 0).cells m ++ Builtin.zeroCells (vI 0).cells (grownCap w (i + m) s.c T_int - (i + m))) T_int) = wn at hnew
    have hbn : Below w.heap.size w wn := by
      rw [← hwn]; exact ⟨rfl, rfl, rfl, by simp, fun k hk => heap_alloc_old w.drew _ hk⟩
    obtain ⟨Z, hZ, hZl⟩ : ∃ Z : List Value, (Builtin.zeroCells (vI 0).cells m).toList = Z ∧ Z.length = m := ⟨_, rfl, by rw [Array.length_toList, size_zeroCells, hzc]; simp⟩
    have ho4 : Own wn w.heap.size T_int ⟨some ⟨w.heap.size, 0, none⟩, i + m, grownCap w (i + m) s.c T_int⟩ ((L.take i).map vI ++ Z) := by
      refine ⟨by simp [hZl]; omega, hge, hcm, .inr ⟨w.heap.size, _, rfl, Nat.le_refl _, hnew, ?_, ?_⟩⟩
      · simp only [Array.size_append, size_zeroCells, hzc, List.size_toArray, List.length_map, List.length_take]
        simp; omega
      · simp only [Array.toList_append, hZ]
        rw [show i + m = (((L.take i).map vI) ++ Z).length by simp [hZl]; omega]
        exact List.take_left
    have hlZ : ((L.take i).map vI ++ Z).length = L.length + 1 := by simp [hZl]; omega
    refine cutK_lo ho4 (by omega) ?_
    refine copy_run (k := 1) ho4 (by omega) (hv.row.grow hbn) (by simp <;> omega) (fun u hu => hone u (List.mem_of_mem_take hu)) (by omega) ?_
    intro w5 ho5 hg5 hs5
    have hlm : ((L.take i).map vI).length = i := by simp; omega
    have e5 : ((L.take i).map vI ++ Z).take i ++ ([x].map vI).take 1 ++ ((L.take i).map vI ++ Z).drop (i + 1) = (L.take i).map vI ++ vI x :: Z.drop 1 := by
      rw [List.take_left' hlm, List.drop_append, hlm, List.drop_eq_nil_of_le (by omega), show i + 1 - i = 1 by omega]
      simp
    rw [e5] at ho5
    refine drew_intro fun w6 hd6 => ?_
    have ho6 := ho5.heap hd6.heap'
    have hl6 : ((L.take i).map vI ++ vI x :: Z.drop 1).length = L.length + 1 := by simp [hZl]; omega
    rw [w64_id (n := (i : Int) + ((1 : Nat) : Int)) (by omega) (by omega)]
    rw [show (i : Int) + ((1 : Nat) : Int) = ((i + 1 : Nat) : Int) by omega]
    have hb5 : Below w.heap.size w w6 := (hbn.grown hg5 hbn.size (fun g hg => (ho4.lt g hg).1)).trans (hd6.below _)
    have hL6 : OwnI w6 B s L := h.grow hb5
    refine cutK_lo ho6 (by omega) ?_
    refine cutK_lo hL6 (by simp <;> omega) ?_
    have hrow6 := cut_row hL6 (lo := i) (by simp <;> omega)
    refine copy_run (k := L.length - i) ho6 (by omega) hrow6 (by rw [hl6]; simp <;> omega) (fun u hu => honeL u (List.mem_of_mem_drop (List.mem_of_mem_take hu))) (by omega) ?_
    intro w7 ho7 hg7 hs7
    refine ⟨_, rfl, ?_, ?_, fun g hg => .inr ?_⟩
    · have e7 : ((L.take i).map vI ++ vI x :: Z.drop 1).take (i + 1) ++ ((L.map vI).drop i).take (L.length - i) ++ ((L.take i).map vI ++ vI x :: Z.drop 1).drop (i + 1 + (L.length - i)) = (L.take i ++ x :: L.drop i).map vI := by
        rw [show ((L.take i).map vI ++ vI x :: Z.drop 1).drop (i + 1 + (L.length - i)) = [] from List.drop_eq_nil_of_le (by rw [hl6]; omega), List.append_nil, List.take_of_length_le (l := (L.map vI).drop i) (by simp)]
        have : ((L.take i).map vI ++ vI x :: Z.drop 1).take (i + 1) = (L.take i).map vI ++ [vI x] := by
          rw [List.take_append, hlm, List.take_of_length_le (by omega), show i + 1 - i = 1 by omega]; rfl
        rw [this]
        simp [List.map_drop]
      rw [e7] at ho7
      exact ho7.mono hB
    · have hb7 := hb5.grown hg7 hb5.size (fun g hg => (ho6.lt g hg).1)
      exact ⟨hb7.os, hb7.tape, hb7.output, hb7.size, fun k hk _ => hb7.block k hk⟩
    · simp [Sl.blk] at hg; omega
  · -- room
    rw [w64_id (n := (i : Int) + ((1 : Nat) : Int)) (by omega) (by omega)]
    rw [show (i : Int) + ((1 : Nat) : Int) = ((i + 1 : Nat) : Int) by omega]
    have hc1 : L.length + 1 ≤ s.c := by omega
    have hb14 : ∀ g, (⟨s.a, L.length + 1, s.c⟩ : Sl).blk = some g ↔ s.blk = some g := fun g => by simp [Sl.blk]
    have eblk : (⟨s.a, L.length + 1, s.c⟩ : Sl).blk = s.blk := by simp [Sl.blk]
    obtain ⟨u, h14⟩ : ∃ u, Own w B T_int ⟨s.a, L.length + 1, s.c⟩ (L.map vI ++ [u]) := by
      rcases h.at_ with hc | ⟨g, cur, ha, hb, hg, hcs, ht⟩
      · omega
      refine ⟨cur[L.length]'(by omega), by simp, hc1, h.cm, .inr ⟨g, cur, ha, hb, hg, hcs, ?_⟩⟩
      simp only
      rw [← ht, hsn]
      rw [List.take_succ_eq_append_getElem (by simp <;> omega)]
      simp
    refine ⟨by simp, by simp; omega, by simp; omega, ?_⟩
    have ecut : s.cut 1 ((none : Option Int).getD 0).toNat ((some ((L.length : Int) + ((1 : Nat) : Int))).getD (s.n : Int)).toNat = ⟨s.a, L.length + 1, s.c⟩ := by
      simp only [Sl.cut, Option.getD_none, Option.getD_some, Int.toNat_zero, Nat.zero_mul, Nat.sub_zero]
      rw [show ((L.length : Int) + ((1 : Nat) : Int)).toNat = L.length + 1 by omega]
      cases s.a <;> simp [add_zero']
    rw [ecut]
    have hl14 : (L.map vI ++ [u]).length = L.length + 1 := by simp
    refine cutK_lo h14 (by omega) ?_
    have hap14 : Apt v ⟨s.a, L.length + 1, s.c⟩ := fun g e1 e2 => hap g e1 ((hb14 g).1 e2)
    refine overlaps_apart hv h14 hap14 (by simp) (by omega) ?_
    refine bif_t rfl ?_
    refine drew_intro fun w1 hd => ?_
    have h15 := h14.heap hd.heap'
    refine cutK_lo h15 (by omega) ?_
    refine cutK_lo h15 (by omega) ?_
    have hrow := cut_row h15 (lo := i) (by omega)
    have etk : ((L.map vI ++ [u]).drop i).take (L.length - i) = (L.drop i).map vI := by
      rw [List.drop_append_of_le_length (by simp <;> omega), List.take_append_of_le_length (by simp), ← List.map_drop, List.take_of_length_le (by simp)]
    refine copy_run (k := L.length - i) h15 (by omega) hrow (by simp <;> omega) (fun y hy => by rw [etk] at hy; obtain ⟨z, _, rfl⟩ := List.mem_map.1 hy; exact One.int z) (by omega) ?_
    intro w2 ho2 hg2 hs2
    have e2 : (L.map vI ++ [u]).take (i + 1) ++ ((L.map vI ++ [u]).drop i).take (L.length - i) ++ (L.map vI ++ [u]).drop (i + 1 + (L.length - i)) = (L.map vI).take i ++ (vI L[i] :: (L.drop i).map vI) := by
      rw [etk, show (L.map vI ++ [u]).drop (i + 1 + (L.length - i)) = [] from List.drop_eq_nil_of_le (by rw [hl14]; omega), List.append_nil, List.take_append_of_le_length (by simp <;> omega), List.take_succ_eq_append_getElem (by simp <;> omega)]
      simp
    rw [e2] at ho2
    have hl2 : ((L.map vI).take i ++ (vI L[i] :: (L.drop i).map vI)).length = L.length + 1 := by simp; omega
    have hg02 : w.grownBy w2 s.blk := by
      rw [eblk] at hg2
      exact ⟨hg2.os.trans (hd.below 0).os, hg2.tape.trans (hd.below 0).tape, hg2.output.trans (hd.below 0).output, by have := hg2.size; have := hd.heap'; simp_all, fun k hk hne => by rw [hg2.block k (by rw [hd.heap']; exact hk) hne, hd.heap']⟩
    have hv2 : OwnI w2 B v [x] := hv.kept hg02 (fun g e1 e2 => hap g e1 e2)
    refine cutK_lo ho2 (by omega) ?_
    refine copy_run (k := 1) ho2 (by omega) hv2.row (by simp <;> omega) (fun y hy => hone y (List.mem_of_mem_take hy)) (by omega) ?_
    intro w3 ho3 hg3 hs3
    refine ⟨_, rfl, ?_, ?_, fun g hg => .inl ((hb14 g).1 hg)⟩
    · have hlt2 : ((L.map vI).take i).length = i := by simp; omega
      have e3 : ((L.map vI).take i ++ (vI L[i] :: (L.drop i).map vI)).take i ++ ([x].map vI).take 1 ++ ((L.map vI).take i ++ (vI L[i] :: (L.drop i).map vI)).drop (i + 1) = (L.take i ++ x :: L.drop i).map vI := by
        rw [List.take_left' hlt2, List.drop_append, hlt2, List.drop_eq_nil_of_le (by omega), show i + 1 - i = 1 by omega]
        simp
      rw [e3] at ho3
      exact ho3
    · rw [eblk] at hg3
      exact ⟨hg3.os.trans hg02.os, hg3.tape.trans hg02.tape, hg3.output.trans hg02.output, Nat.le_trans hg02.size hg3.size, fun k hk hne => (hg3.block k (Nat.lt_of_lt_of_le hk hg02.size) hne).trans (hg02.block k hk hne)⟩
end Go.Proofs.YteplokddaebbeaaGreat

/- The laws' helpers that mark a row and look whether the marks stand. -/
namespace Go.Proofs.YteplokddaebbeaaGreat
open Go Go.RowKit
set_option maxRecDepth 100000

/-- k, k+1, .. -/
def marks (k : Int) (n : Nat) : List Int := (List.range n).map fun (i : Nat) => k + (i : Int)
theorem marks_length (k : Int) (n : Nat) : (marks k n).length = n := by simp [marks]
theorem marks_getD {k : Int} {n i : Nat} (h : i < n) : (marks k n).getD i 0 = k + i := by simp [marks, List.getD_eq_getElem?_getD, h]
theorem marks_step (L : List Int) (k : Int) {i : Nat} (hi : i < L.length) : (marks k i ++ L.drop i).set i (k + i) = marks k (i + 1) ++ L.drop (i + 1) := by
  have h1 : L.drop i = L[i] :: L.drop (i + 1) := by rw [List.drop_eq_getElem_cons hi]
  have h2 : (marks k i).length = i := marks_length k i
  have h3 : marks k (i + 1) = marks k i ++ [k + (i : Int)] := by simp [marks, List.range_succ]
  rw [h1, List.set_append_right _ _ (by omega), h2, Nat.sub_self, List.set_cons_zero, h3, List.append_assoc]
  rfl

end Go.Proofs.YteplokddaebbeaaGreat

/- One more number at a site: both texts, and ChildAt's law. -/
namespace Go.Proofs.YteplokddaebbeaaGreat
open Go Go.RowKit
set_option maxRecDepth 100000

def childW (L : List Int) (i : Nat) : List Int := L.take i ++ ((L.length : Int) + 1) :: L.drop i
theorem childW_length {L : List Int} {i : Nat} (hi : i ≤ L.length) : (childW L i).length = L.length + 1 := by simp [childW]; omega
theorem c_child {w : World} {a : Sl} {L : List Int} (ha : RowI w a L) (hL : L.length < 2^37) {i : Nat} (hi : i ≤ L.length) :
    Calls PP F.impl_child #[a.v, vI i] w fun e w' => ∃ s : Sl, e = .returned s.v ∧ OwnI w' w.heap.size s (childW L i) ∧ Below w.heap.size w w' := by
  have han : a.n = L.length := by have := ha.n; simpa using this
  refine impl_child.calls a i ?_
  rw [impl_child.E_s, han]
  refine (c_Clone ha (by omega)).mono ?_
  rintro e w1 ⟨s, rfl, hs, hb1⟩
  refine ⟨s, rfl, ?_⟩
  rw [w64_succ (n := (L.length : Int)) (by omega) (by omega)]
  refine lit1 oneInt (B := w.heap.size) hb1.size (One.int _) ?_
  intro v w2 hv hg2 hn2
  have hb2 := hb1.grown hg2 hb1.size (by simp)
  have hs2 : OwnI w2 w.heap.size s L := hs.kept hg2 (by simp)
  have hap : Apt v s := fun g e1 e2 => by
    rcases hn2 g e1 with h | h
    · simp [Sl.blk, Sl.nil] at h
    · have := (hs.lt g e2).2; omega
  refine (c_Insert (x := (L.length : Int) + 1) hs2 hb2.size hv hap (by omega) hi).mono ?_
  rintro e w3 ⟨t, rfl, ht, hg3, _⟩
  exact ⟨t, rfl, t, rfl, ht, hb2.grown hg3 hb2.size (fun g hg => (hs2.lt g hg).1)⟩

theorem c_l14Child {w : World} {a : Sl} {L : List Int} (ha : RowI w a L) (hL : L.length < 2^37) {i : Nat} (hi : i ≤ L.length) :
    Calls PP F.spec_l14Child #[a.v, vI i] w fun e w' => ∃ s : Sl, e = .returned s.v ∧ OwnI w' w.heap.size s (childW L i) ∧ Below w.heap.size w w' := by
  have han : a.n = L.length := by have := ha.n; simpa using this
  refine spec_l14Child.calls a i ?_
  rw [spec_l14Child.E_s, han]
  refine drew_intro fun w0 hd => ?_
  have ha0 := ha.heap hd.heap'
  have hbd : Below w.heap.size w w0 := hd.below _
  refine Row.cut ha0 (by simp) (by simp <;> omega) (by simp <;> omega) ?_
  intro s1 hs1
  refine Row.cut ha0 (lo := some (i : Int)) (hi := none) (by simp) (by simp <;> omega) (by simp <;> omega) ?_
  intro s2 hs2
  have q1 : (List.take ((some (i : Int)).getD (a.n : Int)).toNat (L.map vI)).drop ((none : Option Int).getD 0).toNat = (L.take i).map vI := by simp
  have q2 : (List.take ((none : Option Int).getD (a.n : Int)).toNat (L.map vI)).drop ((some (i : Int)).getD 0).toNat = (L.drop i).map vI := by
    simp only [Option.getD_none, Option.getD_some, Int.toNat_natCast]
    rw [List.take_of_length_le (by simp <;> omega), List.map_drop]
  rw [q1] at hs1
  rw [q2] at hs2
  have hsz : w0.heap.size = w.heap.size := by rw [hd.heap']
  rw [w64_succ (n := (L.length : Int)) (by omega) (by omega)]
  have hlt : (L.take i).length < 2^38 ∧ (L.drop i).length < 2^38 := by simp; omega
  -- whatever the order, the three parts are put behind one another
  have fin : ∀ (w2 : World) (t r : Sl), OwnI w2 w.heap.size t [] → OwnI w2 w.heap.size r [(L.length : Int) + 1] → Apt t r → Below w.heap.size w w2 →
      sem1 .sl PP (Builtin.append_ #[T_Sint, T_Sint] T_Sint #[t.v, s1.v]) w2 fun (a : Sl) w3 => sem1 .sl PP (Builtin.append_ #[T_Sint, T_Sint] T_Sint #[a.v, r.v]) w3 fun (b : Sl) w4 => sem1 .sl PP (Builtin.append_ #[T_Sint, T_Sint] T_Sint #[b.v, s2.v]) w4 fun (c : Sl) w5 =>
        ∃ s : Sl, (Ending.returned c.v) = .returned s.v ∧ OwnI w5 w.heap.size s (childW L i) ∧ Below w.heap.size w w5 := by
    intro w2 t r ht hr hap hb2
    have hone : ∀ (M : List Int), ∀ v ∈ M.map vI, One v := fun M v hv => by obtain ⟨y, _, rfl⟩ := List.mem_map.1 hv; exact One.int y
    have hb02 : Below w0.heap.size w0 w2 := ⟨hb2.os.trans hbd.os.symm, hb2.tape.trans hbd.tape.symm, hb2.output.trans hbd.output.symm, by have := hb2.size; omega, fun k hk => by rw [hb2.block k (by omega), hbd.block k (by omega)]⟩
    refine append_row oneInt ht hb2.size (hs1.grow hb02) (hone _) (by simp <;> omega) ?_
    intro a w3 ha hg3 hn3 _
    have ha : OwnI w3 w.heap.size a (L.take i) := by simpa [OwnI] using ha
    have hb3 := hb2.grown hg3 hb2.size (fun g hg => (ht.lt g hg).1)
    have hr3 : OwnI w3 w.heap.size r [(L.length : Int) + 1] := hr.kept hg3 (fun g e1 e2 => hap g e2 e1)
    refine append_row oneInt ha hb3.size hr3.row (hone [_]) (by simp <;> omega) ?_
    intro b w4 hbo hg4 _ _
    have hbo : OwnI w4 w.heap.size b (L.take i ++ [(L.length : Int) + 1]) := by simpa [OwnI] using hbo
    have hb4 := hb3.grown hg4 hb3.size (fun g hg => (ha.lt g hg).1)
    have hb04 : Below w0.heap.size w0 w4 := ⟨hb4.os.trans hbd.os.symm, hb4.tape.trans hbd.tape.symm, hb4.output.trans hbd.output.symm, by have := hb4.size; omega, fun k hk => by rw [hb4.block k (by omega), hbd.block k (by omega)]⟩
    refine append_row oneInt hbo hb4.size (hs2.grow hb04) (hone _) (by simp <;> omega) ?_
    intro c w5 hc hg5 _ _
    exact ⟨c, rfl, by simpa [OwnI, childW] using hc, hb4.grown hg5 hb4.size (fun g hg => (hbo.lt g hg).1)⟩
  refine ⟨?_, ?_⟩
  · refine lit0 oneInt (B := w.heap.size) (by omega) ?_
    intro t w1 ht hg1 hc1
    have hb1 := hbd.grown hg1 hbd.size (by simp)
    have hapt : ∀ r, Apt t r := fun r g e1 _ => by simp [Sl.blk, hc1] at e1
    refine ⟨?_, ?_⟩
    · -- the left part ahead of the number
      have hone : ∀ (M : List Int), ∀ v ∈ M.map vI, One v := fun M v hv => by obtain ⟨y, _, rfl⟩ := List.mem_map.1 hv; exact One.int y
      have hb01 : Below w0.heap.size w0 w1 := below_of_grow hg1
      refine append_row oneInt ht hb1.size (hs1.grow hb01) (hone _) (by simp <;> omega) ?_
      intro a2 w2 ha2 hg2 _ _
      have ha2 : OwnI w2 w.heap.size a2 (L.take i) := by simpa [OwnI] using ha2
      have hb2 := hb1.grown hg2 hb1.size (fun g hg => (ht.lt g hg).1)
      refine append_int ha2 hb2.size (by simp <;> omega) ?_
      intro b w3 hbo hg3 _
      have hb3 := hb2.grown hg3 hb2.size (fun g hg => (ha2.lt g hg).1)
      have hb03 : Below w0.heap.size w0 w3 := ⟨hb3.os.trans hbd.os.symm, hb3.tape.trans hbd.tape.symm, hb3.output.trans hbd.output.symm, by have := hb3.size; omega, fun k hk => by rw [hb3.block k (by omega), hbd.block k (by omega)]⟩
      refine append_row oneInt hbo hb3.size (hs2.grow hb03) (hone _) (by simp <;> omega) ?_
      intro c w4 hc hg4 _ _
      exact ⟨c, rfl, by simpa [OwnI, childW] using hc, hb3.grown hg4 hb3.size (fun g hg => (hbo.lt g hg).1)⟩
    · refine lit1 oneInt (B := w.heap.size) hb1.size (One.int _) ?_
      intro r w2 hr hg2 _
      exact fin w2 t r (ht.kept hg2 (by simp)) hr (hapt r) (hb1.grown hg2 hb1.size (by simp))
  · refine lit1 oneInt (B := w.heap.size) (by omega) (One.int _) ?_
    intro r w1 hr hg1 _
    have hb1 := hbd.grown hg1 hbd.size (by simp)
    refine lit0 oneInt (B := w.heap.size) hb1.size ?_
    intro t w2 ht hg2 hc2
    exact fin w2 t r ht (hr.kept hg2 (by simp)) (fun g e1 _ => by simp [Sl.blk, hc2] at e1) (hb1.grown hg2 hb1.size (by simp))

def ChildOk (L : List Int) (i : Int) : Prop := IsP L ∧ L.length < 8 ∧ 0 ≤ i ∧ i ≤ L.length
open Classical in
noncomputable def ChildAtV (L : List Int) (i : Int) : List Int := if ChildOk L i then childW L i.toNat else []
open Classical in
noncomputable def ChildAtV1 (L : List Int) (i : Int) : Bool := decide (ChildOk L i)
theorem ChildAtV_len (L : List Int) (i : Int) : (ChildAtV L i).length < 2^38 := by
  unfold ChildAtV
  split
  · rename_i h
    obtain ⟨h1, h2, h3, h4⟩ := h
    rw [childW_length (by omega)]; omega
  · simp
end Go.Proofs.YteplokddaebbeaaGreat
