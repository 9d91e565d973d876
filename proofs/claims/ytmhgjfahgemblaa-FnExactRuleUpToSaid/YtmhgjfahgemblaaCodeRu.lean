/- What each function does, step by step, written by a program (Gen.lean); each equation is checked by the kernel. -/
import Derived.Test.YtmhgjfahgemblaaHead
namespace Go.Proofs.Ytmhgjfahgemblaa
open Go
set_option linter.unusedVariables false
set_option maxRecDepth 100000
namespace impl_RuleUpTo
@[reducible] def cfg : Cfg := ⟨87, [(8, [0, 6, 30, 31, 36, 37, 38]), (5, [0, 6, 30, 31]), (20, [14, 71])], [(3, [0, 6, 30, 31, 36, 37, 38]), (2, [0, 6, 30, 31]), (1, [0, 6, 30, 31]), (0, [6]), (5, [14, 71]), (4, [14])], [], [4, 5], [], [62, 10, 22, 58, 24, 44, 18, 70, 43, 85, 25, 71, 59, 37, 63], [82, 113, 102, 38, 103, 26, 60]⟩
def q4 (pr : Prims) (R : Ending → World → Prop) : Exit → Env → World → Prop := fun ex e w => normQ ex (fun e w => contE pr cfg (sub (codeOf Try.f21) [1, 1, 1, 1]) (fun e w => wpC pr PP cfg (DD pr) (sub (codeOf Try.f21) [1, 1, 1, 1]) (retQ Try.f21.results.toList R) e w) e w) (retQ Try.f21.results.toList R) e w
def q5 (pr : Prims) (R : Ending → World → Prop) : Exit → Env → World → Prop := fun ex e w => blockQ ex 0 (q4 pr R) e w
def q6 (pr : Prims) (k : Env → World → Prop) (Q : Exit → Env → World → Prop) : Exit → Env → World → Prop := fun ex e w => normQ ex (fun e w => contE pr cfg (sub (codeOf Try.f21) [1, 1, 1, 0, 1, 0, 0, 1, 1, 1]) (fun e w => wpC pr PP cfg (DD pr) (sub (codeOf Try.f21) [1, 1, 1, 0, 1, 0, 0, 1, 1, 1]) (fun ex e w => normQ ex (fun e' w' => k (Env.restr e' (lookN cfg.loops (keyOf (sub (codeOf Try.f21) [1, 1, 1, 0, 1, 0, 0])))) w') Q e w) e w) e w) (fun ex e w => normQ ex (fun e' w' => k (Env.restr e' (lookN cfg.loops (keyOf (sub (codeOf Try.f21) [1, 1, 1, 0, 1, 0, 0])))) w') Q e w) e w
def q7 (pr : Prims) (k : Env → World → Prop) (Q : Exit → Env → World → Prop) : Exit → Env → World → Prop := fun ex e w => blockQ ex 1 (q6 pr k Q) e w
def q10 (pr : Prims) (k : Env → World → Prop) (Q : Exit → Env → World → Prop) : Exit → Env → World → Prop := fun ex e w => blockQ ex 2 (q7 pr k Q) e w
def q28 (pr : Prims) (R : Ending → World → Prop) : Exit → Env → World → Prop := fun ex e w => normQ ex (fun e w => contE pr cfg (sub (codeOf Try.f21) [1, 1, 1, 1, 1, 1]) (fun e w => wpC pr PP cfg (DD pr) (sub (codeOf Try.f21) [1, 1, 1, 1, 1, 1]) (retQ Try.f21.results.toList R) e w) e w) (retQ Try.f21.results.toList R) e w
def q31 (pr : Prims) (R : Ending → World → Prop) : Exit → Env → World → Prop := fun ex e w => blockQ ex 4 (q28 pr R) e w
def emb5 (list_0 : Sl) (known_6 : (Option Nat)) (t30 : Int) (t31 : Int) : Env := [(0, Sl.v list_0), (6, .map known_6), (30, vI t30), (31, vI t31)]
def emb8 (list_0 : Sl) (known_6 : (Option Nat)) (t30 : Int) (t31 : Int) (t36 : Sl) (t37 : Int) (t38 : Int) : Env := [(0, Sl.v list_0), (6, .map known_6), (30, vI t30), (31, vI t31), (36, Sl.v t36), (37, vI t37), (38, vI t38)]
def x2 (list_0 : Sl) (known_6 : (Option Nat)) (t30 : Int) (t31 : Int) : Env := [(0, Sl.v list_0), (6, .map known_6), (30, vI t30), (31, vI t31)]
def x0 (known_6 : (Option Nat)) : Env := [(6, .map known_6)]
def emb20 (out_14 : Sl) (t71 : Value) : Env := [(14, Sl.v out_14), (71, t71)]
def x4 (out_14 : Sl) : Env := [(14, Sl.v out_14)]
def S8 (pr : Prims) (Q : Exit → Env → World → Prop) : (Env → World → Prop) → Env → World → Prop := fun k e w => wpC pr PP cfg (DD pr) (sub (codeOf Try.f21) [1, 1, 1, 0, 1, 0, 0, 1, 1, 0, 0, 1, 1, 0, 0]) (fun ex e w => normQ ex (fun e' w' => k (Env.restr e' (lookN cfg.loops (keyOf (sub (codeOf Try.f21) [1, 1, 1, 0, 1, 0, 0, 1, 1, 0, 0, 1, 1, 0, 0])))) w') Q e w) e w
def S5 (pr : Prims) (Q : Exit → Env → World → Prop) : (Env → World → Prop) → Env → World → Prop := fun k e w => wpC pr PP cfg (DD pr) (sub (codeOf Try.f21) [1, 1, 1, 0, 1, 0, 0]) (fun ex e w => normQ ex (fun e' w' => k (Env.restr e' (lookN cfg.loops (keyOf (sub (codeOf Try.f21) [1, 1, 1, 0, 1, 0, 0])))) w') Q e w) e w
def S20 (pr : Prims) (Q : Exit → Env → World → Prop) : (Env → World → Prop) → Env → World → Prop := fun k e w => wpC pr PP cfg (DD pr) (sub (codeOf Try.f21) [1, 1, 1, 1, 1, 0, 1, 0, 0]) (fun ex e w => normQ ex (fun e' w' => k (Env.restr e' (lookN cfg.loops (keyOf (sub (codeOf Try.f21) [1, 1, 1, 1, 1, 0, 1, 0, 0])))) w') Q e w) e w
def B8 (pr : Prims) (list_0 : Sl) (known_6 : (Option Nat)) (t30 : Int) (t31 : Int) (t36 : Sl) (t37 : Int) (t38 : Int) (w : World) (k : Env → World → Prop) (Q : Exit → Env → World → Prop) : Prop :=
  S8 pr Q k (emb8 list_0 known_6 t30 t31 t36 t37 t38) w
def L8 (pr : Prims) (list_0 : Sl) (known_6 : (Option Nat)) (t30 : Int) (t31 : Int) (t36 : Sl) (t37 : Int) (t38 : Int) (w : World) (Q : Exit → Env → World → Prop) : Prop :=
  pr.loop (S8 pr Q) (emb8 list_0 known_6 t30 t31 t36 t37 t38) w
def B5 (pr : Prims) (list_0 : Sl) (known_6 : (Option Nat)) (t30 : Int) (t31 : Int) (w : World) (k : Env → World → Prop) (Q : Exit → Env → World → Prop) : Prop :=
  S5 pr Q k (emb5 list_0 known_6 t30 t31) w
def L5 (pr : Prims) (list_0 : Sl) (known_6 : (Option Nat)) (t30 : Int) (t31 : Int) (w : World) (Q : Exit → Env → World → Prop) : Prop :=
  pr.loop (S5 pr Q) (emb5 list_0 known_6 t30 t31) w
def B20 (pr : Prims) (out_14 : Sl) (t71 : Value) (w : World) (k : Env → World → Prop) (Q : Exit → Env → World → Prop) : Prop :=
  S20 pr Q k (emb20 out_14 t71) w
def L20 (pr : Prims) (out_14 : Sl) (t71 : Value) (w : World) (Q : Exit → Env → World → Prop) : Prop :=
  pr.loop (S20 pr Q) (emb20 out_14 t71) w
def E (pr : Prims) (list_0 : Sl) (n_1 : Int) (w : World) (R : Ending → World → Prop) : Prop :=
  wpC pr PP cfg (DD pr) (codeOf Try.f21) (retQ Try.f21.results.toList R) (argE 0 [Sl.v list_0, vI n_1]) w
theorem B8_eq (pr : Prims) (list_0 : Sl) (known_6 : (Option Nat)) (t30 : Int) (t31 : Int) (t36 : Sl) (t37 : Int) (t38 : Int) (w : World) (k : Env → World → Prop) (Q : Exit → Env → World → Prop) : B8 pr list_0 known_6 t30 t31 t36 t37 t38 w k Q = (
  bif decide (t38 < t37) then (
  pr.idxK 1 t36 t38 fun (a11 : Addr) =>
  pr.load1 .sl a11 w fun (ξ12 : Sl) =>
  pr.call1 .sl PP F.impl_active #[Sl.v list_0, Sl.v ξ12] w fun (ρ13 : Sl) ω14 =>
  pr.call1 .sl PP F.impl_children #[Sl.v list_0, Sl.v ξ12] ω14 fun (ρ15 : Sl) ω16 =>
  pr.call1 .sl PP F.impl_labels #[Sl.v list_0, Sl.v ρ15] ω16 fun (ρ17 : Sl) ω18 =>
  pr.sem2 .sl .bool PP (Instr.lookup T_Mint_Sint (.map known_6) (vI (ρ13.n : Int)) true) ω18 fun (ρ19 : Sl) (ρ20 : Bool) ω21 =>
  bif ρ20 then (
  pr.call1 .bool PP F.slices_Equal___int_int_ #[Sl.v ρ19, Sl.v ρ17] ω21 fun (ρ22 : Bool) ω23 =>
  bif !ρ22 then (
  Q .ret [(4, Sl.v Sl.nil), (5, .bool false)] ω23)
  else (
  pr.sem0 PP (Instr.mapUpdate T_Mint_Sint (.map known_6) (vI (ρ13.n : Int)) (Sl.v ρ17)) ω23 fun ω24 =>
  k (emb8 list_0 known_6 t30 t31 t36 t37 (w64 (t38 + 1))) ω24))
  else (
  pr.sem0 PP (Instr.mapUpdate T_Mint_Sint (.map known_6) (vI (ρ13.n : Int)) (Sl.v ρ17)) ω21 fun ω25 =>
  k (emb8 list_0 known_6 t30 t31 t36 t37 (w64 (t38 + 1))) ω25))
  else (
  Q (.exit 2) (x2 list_0 known_6 t30 t31) w)) := by kernel_rfl
theorem B8_s (list_0 : Sl) (known_6 : (Option Nat)) (t30 : Int) (t31 : Int) (t36 : Sl) (t37 : Int) (t38 : Int) (w : World) (k : Env → World → Prop) (Q : Exit → Env → World → Prop) : B8 std list_0 known_6 t30 t31 t36 t37 t38 w k Q = (
  bif decide (t38 < t37) then (
  idxK 1 t36 t38 fun (a11 : Addr) =>
  load1 .sl a11 w fun (ξ12 : Sl) =>
  call1 .sl PP F.impl_active #[Sl.v list_0, Sl.v ξ12] w fun (ρ13 : Sl) ω14 =>
  call1 .sl PP F.impl_children #[Sl.v list_0, Sl.v ξ12] ω14 fun (ρ15 : Sl) ω16 =>
  call1 .sl PP F.impl_labels #[Sl.v list_0, Sl.v ρ15] ω16 fun (ρ17 : Sl) ω18 =>
  sem2 .sl .bool PP (Instr.lookup T_Mint_Sint (.map known_6) (vI (ρ13.n : Int)) true) ω18 fun (ρ19 : Sl) (ρ20 : Bool) ω21 =>
  bif ρ20 then (
  call1 .bool PP F.slices_Equal___int_int_ #[Sl.v ρ19, Sl.v ρ17] ω21 fun (ρ22 : Bool) ω23 =>
  bif !ρ22 then (
  Q .ret [(4, Sl.v Sl.nil), (5, .bool false)] ω23)
  else (
  sem0 PP (Instr.mapUpdate T_Mint_Sint (.map known_6) (vI (ρ13.n : Int)) (Sl.v ρ17)) ω23 fun ω24 =>
  k (emb8 list_0 known_6 t30 t31 t36 t37 (w64 (t38 + 1))) ω24))
  else (
  sem0 PP (Instr.mapUpdate T_Mint_Sint (.map known_6) (vI (ρ13.n : Int)) (Sl.v ρ17)) ω21 fun ω25 =>
  k (emb8 list_0 known_6 t30 t31 t36 t37 (w64 (t38 + 1))) ω25))
  else (
  Q (.exit 2) (x2 list_0 known_6 t30 t31) w)) := B8_eq std list_0 known_6 t30 t31 t36 t37 t38 w k Q
theorem L8_rule (list_0 : Sl) (known_6 : (Option Nat)) (t30 : Int) (t31 : Int) (t36 : Sl) (t37 : Int) (t38 : Int) (w : World) (Q : Exit → Env → World → Prop) (I : Int → World → Prop) (μ : Int → World → Nat) (h0 : I t38 w)
    (h : ∀ (t38 : Int) (w' : World), I t38 w' → B8 std list_0 known_6 t30 t31 t36 t37 t38 w' (fun e2 w2 => ∃ t38_n, e2 = emb8 list_0 known_6 t30 t31 t36 t37 t38_n ∧ I t38_n w2 ∧ μ t38_n w2 < μ t38 w') Q) :
    L8 std list_0 known_6 t30 t31 t36 t37 t38 w Q := by
  unfold L8
  refine LoopE.intro (σ := Int) (step := S8 std Q) (fun s => emb8 list_0 known_6 t30 t31 t36 t37 s) (fun s w => I s w) (fun s w => μ s w) t38 rfl h0 ?_
  intro s w' hI
  have h1 := h s w' hI
  unfold B8 at h1
  exact h1
theorem A8_2_eq (pr : Prims) (list_0 : Sl) (known_6 : (Option Nat)) (t30 : Int) (t31 : Int) (w : World) (k : Env → World → Prop) (Q : Exit → Env → World → Prop) : (q10 pr k Q) (.exit 2) (x2 list_0 known_6 t30 t31) w = (
  k (emb5 list_0 known_6 t30 (w64 (t31 + 1))) w) := by kernel_rfl
theorem A8_2_s (list_0 : Sl) (known_6 : (Option Nat)) (t30 : Int) (t31 : Int) (w : World) (k : Env → World → Prop) (Q : Exit → Env → World → Prop) : (q10 std k Q) (.exit 2) (x2 list_0 known_6 t30 t31) w = (
  k (emb5 list_0 known_6 t30 (w64 (t31 + 1))) w) := A8_2_eq std list_0 known_6 t30 t31 w k Q
theorem R8_eq (pr : Prims) (v4 : Value) (v5 : Value) (w : World) (k : Env → World → Prop) (Q : Exit → Env → World → Prop) : (q10 pr k Q) .ret [(4, v4), (5, v5)] w = (
  Q .ret [(4, v4), (5, v5)] w) := by kernel_rfl
theorem R8_s (v4 : Value) (v5 : Value) (w : World) (k : Env → World → Prop) (Q : Exit → Env → World → Prop) : (q10 std k Q) .ret [(4, v4), (5, v5)] w = (
  Q .ret [(4, v4), (5, v5)] w) := R8_eq std v4 v5 w k Q
theorem B5_eq (pr : Prims) (list_0 : Sl) (known_6 : (Option Nat)) (t30 : Int) (t31 : Int) (w : World) (k : Env → World → Prop) (Q : Exit → Env → World → Prop) : B5 pr list_0 known_6 t30 t31 w k Q = (
  bif decide (t31 < t30) then (
  pr.call1 .sl PP F.impl_class #[Sl.v list_0, vI t31] w fun (ρ8 : Sl) ω9 =>
  L8 pr list_0 known_6 t30 t31 ρ8 (ρ8.n : Int) 0 ω9 (q10 pr k Q))
  else (
  Q (.exit 0) (x0 known_6) w)) := by kernel_rfl
theorem B5_s (list_0 : Sl) (known_6 : (Option Nat)) (t30 : Int) (t31 : Int) (w : World) (k : Env → World → Prop) (Q : Exit → Env → World → Prop) : B5 std list_0 known_6 t30 t31 w k Q = (
  bif decide (t31 < t30) then (
  call1 .sl PP F.impl_class #[Sl.v list_0, vI t31] w fun (ρ8 : Sl) ω9 =>
  L8 std list_0 known_6 t30 t31 ρ8 (ρ8.n : Int) 0 ω9 (q10 std k Q))
  else (
  Q (.exit 0) (x0 known_6) w)) := B5_eq std list_0 known_6 t30 t31 w k Q
theorem L5_rule (list_0 : Sl) (known_6 : (Option Nat)) (t30 : Int) (t31 : Int) (w : World) (Q : Exit → Env → World → Prop) (I : Int → World → Prop) (μ : Int → World → Nat) (h0 : I t31 w)
    (h : ∀ (t31 : Int) (w' : World), I t31 w' → B5 std list_0 known_6 t30 t31 w' (fun e2 w2 => ∃ t31_n, e2 = emb5 list_0 known_6 t30 t31_n ∧ I t31_n w2 ∧ μ t31_n w2 < μ t31 w') Q) :
    L5 std list_0 known_6 t30 t31 w Q := by
  unfold L5
  refine LoopE.intro (σ := Int) (step := S5 std Q) (fun s => emb5 list_0 known_6 t30 s) (fun s w => I s w) (fun s w => μ s w) t31 rfl h0 ?_
  intro s w' hI
  have h1 := h s w' hI
  unfold B5 at h1
  exact h1
theorem B20_eq (pr : Prims) (out_14 : Sl) (t71 : Value) (w : World) (k : Env → World → Prop) (Q : Exit → Env → World → Prop) : B20 pr out_14 t71 w k Q = (
  nextK PP t71 false T___ w (fun ω32 =>
  Q (.exit 4) (x4 out_14) ω32) (fun (k33 : Value) (v34 : Value) ω35 =>
  entryK PP t71 ω35 fun (k36 : Value) (v37 : Value) ω38 =>
  pr.sem1 .sl PP (Instr.buildSlice T_Sint 1 #[(0, k36)]) ω38 fun (ρ39 : Sl) ω40 =>
  pr.sem1 .sl PP (Builtin.append_ #[T_Sint, T_Sint] T_Sint #[Sl.v ρ39, v37]) ω40 fun (ρ41 : Sl) ω42 =>
  pr.sem1 .sl PP (Instr.buildSlice T_SSint 1 #[(0, Sl.v ρ41)]) ω42 fun (ρ43 : Sl) ω44 =>
  pr.sem1 .sl PP (Builtin.append_ #[T_SSint, T_SSint] T_SSint #[Sl.v out_14, Sl.v ρ43]) ω44 fun (ρ45 : Sl) ω46 =>
  k (emb20 ρ45 t71) ω46)) := by kernel_rfl
theorem B20_s (out_14 : Sl) (t71 : Value) (w : World) (k : Env → World → Prop) (Q : Exit → Env → World → Prop) : B20 std out_14 t71 w k Q = (
  nextK PP t71 false T___ w (fun ω32 =>
  Q (.exit 4) (x4 out_14) ω32) (fun (k33 : Value) (v34 : Value) ω35 =>
  entryK PP t71 ω35 fun (k36 : Value) (v37 : Value) ω38 =>
  sem1 .sl PP (Instr.buildSlice T_Sint 1 #[(0, k36)]) ω38 fun (ρ39 : Sl) ω40 =>
  sem1 .sl PP (Builtin.append_ #[T_Sint, T_Sint] T_Sint #[Sl.v ρ39, v37]) ω40 fun (ρ41 : Sl) ω42 =>
  sem1 .sl PP (Instr.buildSlice T_SSint 1 #[(0, Sl.v ρ41)]) ω42 fun (ρ43 : Sl) ω44 =>
  sem1 .sl PP (Builtin.append_ #[T_SSint, T_SSint] T_SSint #[Sl.v out_14, Sl.v ρ43]) ω44 fun (ρ45 : Sl) ω46 =>
  k (emb20 ρ45 t71) ω46)) := B20_eq std out_14 t71 w k Q
theorem L20_rule (out_14 : Sl) (t71 : Value) (w : World) (Q : Exit → Env → World → Prop) (I : Sl → World → Prop) (μ : Sl → World → Nat) (h0 : I out_14 w)
    (h : ∀ (out_14 : Sl) (w' : World), I out_14 w' → B20 std out_14 t71 w' (fun e2 w2 => ∃ out_14_n, e2 = emb20 out_14_n t71 ∧ I out_14_n w2 ∧ μ out_14_n w2 < μ out_14 w') Q) :
    L20 std out_14 t71 w Q := by
  unfold L20
  refine LoopE.intro (σ := Sl) (step := S20 std Q) (fun s => emb20 s t71) (fun s w => I s w) (fun s w => μ s w) out_14 rfl h0 ?_
  intro s w' hI
  have h1 := h s w' hI
  unfold B20 at h1
  exact h1
theorem A20_4_eq (pr : Prims) (out_14 : Sl) (w : World) (R : Ending → World → Prop) : (q31 pr R) (.exit 4) (x4 out_14) w = (
  pr.call0  PP F.slices_SortFunc_____int___int_ #[Sl.v out_14, .func (.func F.slices_Compare___int_int_) #[] #[]] w fun ω47 =>
  R (.returned (.tuple #[Sl.v out_14, .bool true])) ω47) := by kernel_rfl
theorem A20_4_s (out_14 : Sl) (w : World) (R : Ending → World → Prop) : (q31 std R) (.exit 4) (x4 out_14) w = (
  call0  PP F.slices_SortFunc_____int___int_ #[Sl.v out_14, .func (.func F.slices_Compare___int_int_) #[] #[]] w fun ω47 =>
  R (.returned (.tuple #[Sl.v out_14, .bool true])) ω47) := A20_4_eq std out_14 w R
theorem A5_0_eq (pr : Prims) (known_6 : (Option Nat)) (w : World) (R : Ending → World → Prop) : (q5 pr R) (.exit 0) (x0 known_6) w = (
  pr.sem1 .sl PP (Instr.buildSlice T_SSint 0 #[]) w fun (ρ26 : Sl) ω27 =>
  pr.sem1 .any PP (Instr.range T_Mint_Sint (.map known_6)) ω27 fun (ρ29 : Value) ω30 =>
  L20 pr ρ26 ρ29 ω30 (q31 pr R)) := by kernel_rfl
theorem A5_0_s (known_6 : (Option Nat)) (w : World) (R : Ending → World → Prop) : (q5 std R) (.exit 0) (x0 known_6) w = (
  sem1 .sl PP (Instr.buildSlice T_SSint 0 #[]) w fun (ρ26 : Sl) ω27 =>
  sem1 .any PP (Instr.range T_Mint_Sint (.map known_6)) ω27 fun (ρ29 : Value) ω30 =>
  L20 std ρ26 ρ29 ω30 (q31 std R)) := A5_0_eq std known_6 w R
theorem R5_eq (pr : Prims) (v4 : Value) (v5 : Value) (w : World) (R : Ending → World → Prop) : (q5 pr R) .ret [(4, v4), (5, v5)] w = (
  R (.returned (.tuple #[v4, v5])) w) := by kernel_rfl
theorem R5_s (v4 : Value) (v5 : Value) (w : World) (R : Ending → World → Prop) : (q5 std R) .ret [(4, v4), (5, v5)] w = (
  R (.returned (.tuple #[v4, v5])) w) := R5_eq std v4 v5 w R
theorem E_eq (pr : Prims) (list_0 : Sl) (n_1 : Int) (w : World) (R : Ending → World → Prop) : E pr list_0 n_1 w R = (
  pr.call1 .bool PP F.impl_IsBasis #[Sl.v list_0] w fun (ρ0 : Bool) ω1 =>
  bif !ρ0 then (
  R (.returned (.tuple #[Sl.v Sl.nil, .bool false])) ω1)
  else (
  bif decide (n_1 < 0) then (
  R (.returned (.tuple #[Sl.v Sl.nil, .bool false])) ω1)
  else (
  bif decide (n_1 > 5) then (
  R (.returned (.tuple #[Sl.v Sl.nil, .bool false])) ω1)
  else (
  pr.sem1 .map PP (Instr.makeMap T_Mint_Sint none) ω1 fun (ρ2 : (Option Nat)) ω3 =>
  L5 pr list_0 ρ2 (w64 (n_1 + 1)) 0 ω3 (q5 pr R))))) := by kernel_rfl
theorem E_s (list_0 : Sl) (n_1 : Int) (w : World) (R : Ending → World → Prop) : E std list_0 n_1 w R = (
  call1 .bool PP F.impl_IsBasis #[Sl.v list_0] w fun (ρ0 : Bool) ω1 =>
  bif !ρ0 then (
  R (.returned (.tuple #[Sl.v Sl.nil, .bool false])) ω1)
  else (
  bif decide (n_1 < 0) then (
  R (.returned (.tuple #[Sl.v Sl.nil, .bool false])) ω1)
  else (
  bif decide (n_1 > 5) then (
  R (.returned (.tuple #[Sl.v Sl.nil, .bool false])) ω1)
  else (
  sem1 .map PP (Instr.makeMap T_Mint_Sint none) ω1 fun (ρ2 : (Option Nat)) ω3 =>
  L5 std list_0 ρ2 (w64 (n_1 + 1)) 0 ω3 (q5 std R))))) := E_eq std list_0 n_1 w R
theorem drawsOk : drawsOk PP cfg okD (codeOf Try.f21) = true := by kernel_rfl
theorem calls (list_0 : Sl) (n_1 : Int) {w : World} {R : Ending → World → Prop} (h : E std list_0 n_1 w R) : Calls PP F.impl_RuleUpTo #[Sl.v list_0, vI n_1] w R :=
  calls_of noCount mixed drawOk Try.func21 rfl (c := cfg) (args := [Sl.v list_0, vI n_1]) rfl (Nat.le_of_ble_eq_true (by kernel_rfl)) drawsOk h
end impl_RuleUpTo

namespace spec_RuleUpTo
@[reducible] def cfg : Cfg := ⟨63, [(9, [0, 1, 6, 7, 8, 9]), (5, [0, 1, 6, 7])], [(3, [0, 1, 6, 7, 8, 9]), (2, [0, 1, 6, 7]), (1, [0, 1, 6, 7]), (0, [6])], [(12, [0, 1, 6, 7, 8, 9, 10])], [4, 5], [], [62, 10, 22, 58, 24, 44, 18, 70, 43, 85, 25, 71, 59, 37, 63], [82, 113, 102, 38, 103, 26, 60]⟩
def q9 (pr : Prims) (R : Ending → World → Prop) : Exit → Env → World → Prop := fun ex e w => normQ ex (fun e w => contE pr cfg (sub (codeOf Try.f19) [1, 1, 1, 1]) (fun e w => wpC pr PP cfg (DD pr) (sub (codeOf Try.f19) [1, 1, 1, 1]) (retQ Try.f19.results.toList R) e w) e w) (retQ Try.f19.results.toList R) e w
def q10 (pr : Prims) (R : Ending → World → Prop) : Exit → Env → World → Prop := fun ex e w => blockQ ex 0 (q9 pr R) e w
def q11 (pr : Prims) (k : Env → World → Prop) (Q : Exit → Env → World → Prop) : Exit → Env → World → Prop := fun ex e w => normQ ex (fun e w => contE pr cfg (sub (codeOf Try.f19) [1, 1, 1, 0, 1, 0, 0, 1, 1]) (fun e w => wpC pr PP cfg (DD pr) (sub (codeOf Try.f19) [1, 1, 1, 0, 1, 0, 0, 1, 1]) (fun ex e w => normQ ex (fun e' w' => k (Env.restr e' (lookN cfg.loops (keyOf (sub (codeOf Try.f19) [1, 1, 1, 0, 1, 0, 0])))) w') Q e w) e w) e w) (fun ex e w => normQ ex (fun e' w' => k (Env.restr e' (lookN cfg.loops (keyOf (sub (codeOf Try.f19) [1, 1, 1, 0, 1, 0, 0])))) w') Q e w) e w
def q12 (pr : Prims) (k : Env → World → Prop) (Q : Exit → Env → World → Prop) : Exit → Env → World → Prop := fun ex e w => blockQ ex 1 (q11 pr k Q) e w
def q15 (pr : Prims) (k : Env → World → Prop) (Q : Exit → Env → World → Prop) : Exit → Env → World → Prop := fun ex e w => blockQ ex 2 (q12 pr k Q) e w
def q16 (pr : Prims) (k : Env → World → Prop) (Q : Exit → Env → World → Prop) : Exit → Env → World → Prop := fun ex e w => normQ ex (fun e w => contE pr cfg (sub (codeOf Try.f19) [1, 1, 1, 0, 1, 0, 0, 1, 0, 0, 1, 1, 0, 0, 1, 1]) (fun e w => wpC pr PP cfg (DD pr) (sub (codeOf Try.f19) [1, 1, 1, 0, 1, 0, 0, 1, 0, 0, 1, 1, 0, 0, 1, 1]) (fun ex e w => normQ ex (fun e' w' => k (Env.restr e' (lookN cfg.loops (keyOf (sub (codeOf Try.f19) [1, 1, 1, 0, 1, 0, 0, 1, 0, 0, 1, 1, 0, 0])))) w') Q e w) e w) e w) (fun ex e w => normQ ex (fun e' w' => k (Env.restr e' (lookN cfg.loops (keyOf (sub (codeOf Try.f19) [1, 1, 1, 0, 1, 0, 0, 1, 0, 0, 1, 1, 0, 0])))) w') Q e w) e w
def q17 (pr : Prims) (k : Env → World → Prop) (Q : Exit → Env → World → Prop) : Exit → Env → World → Prop := fun ex e w => blockQ ex 3 (q16 pr k Q) e w
def q18 (pr : Prims) (k : Env → World → Prop) (Q : Exit → Env → World → Prop) : Exit → Env → World → Prop := fun ex e w => normQ ex (fun e w => contE pr cfg (sub (codeOf Try.f19) [1, 1, 1, 0, 1, 0, 0, 1, 0, 0, 1, 1, 0, 0, 1, 0, 0, 1]) (fun e w => wpC pr PP cfg (DD pr) (sub (codeOf Try.f19) [1, 1, 1, 0, 1, 0, 0, 1, 0, 0, 1, 1, 0, 0, 1, 0, 0, 1]) (q17 pr k Q) e w) e w) (q17 pr k Q) e w
def emb5 (list_0 : Sl) (n_1 : Int) (rule_6 : Sl) (m_7 : Int) : Env := [(0, Sl.v list_0), (1, vI n_1), (6, Sl.v rule_6), (7, vI m_7)]
def emb9 (list_0 : Sl) (n_1 : Int) (rule_6 : Sl) (m_7 : Int) (all_8 : Sl) (k_9 : Int) : Env := [(0, Sl.v list_0), (1, vI n_1), (6, Sl.v rule_6), (7, vI m_7), (8, Sl.v all_8), (9, vI k_9)]
def j12 (list_0 : Sl) (n_1 : Int) (rule_6 : Sl) (m_7 : Int) (all_8 : Sl) (k_9 : Int) (next_10 : Sl) : Env := [(0, Sl.v list_0), (1, vI n_1), (6, Sl.v rule_6), (7, vI m_7), (8, Sl.v all_8), (9, vI k_9), (10, Sl.v next_10)]
def x2 (list_0 : Sl) (n_1 : Int) (rule_6 : Sl) (m_7 : Int) : Env := [(0, Sl.v list_0), (1, vI n_1), (6, Sl.v rule_6), (7, vI m_7)]
def x0 (rule_6 : Sl) : Env := [(6, Sl.v rule_6)]
def S9 (pr : Prims) (Q : Exit → Env → World → Prop) : (Env → World → Prop) → Env → World → Prop := fun k e w => wpC pr PP cfg (DD pr) (sub (codeOf Try.f19) [1, 1, 1, 0, 1, 0, 0, 1, 0, 0, 1, 1, 0, 0]) (fun ex e w => normQ ex (fun e' w' => k (Env.restr e' (lookN cfg.loops (keyOf (sub (codeOf Try.f19) [1, 1, 1, 0, 1, 0, 0, 1, 0, 0, 1, 1, 0, 0])))) w') Q e w) e w
def S5 (pr : Prims) (Q : Exit → Env → World → Prop) : (Env → World → Prop) → Env → World → Prop := fun k e w => wpC pr PP cfg (DD pr) (sub (codeOf Try.f19) [1, 1, 1, 0, 1, 0, 0]) (fun ex e w => normQ ex (fun e' w' => k (Env.restr e' (lookN cfg.loops (keyOf (sub (codeOf Try.f19) [1, 1, 1, 0, 1, 0, 0])))) w') Q e w) e w
def J12 (pr : Prims) (list_0 : Sl) (n_1 : Int) (rule_6 : Sl) (m_7 : Int) (all_8 : Sl) (k_9 : Int) (next_10 : Sl) (w : World) (k : Env → World → Prop) (Q : Exit → Env → World → Prop) : Prop :=
  pr.seg (fun e w => wpC pr PP cfg (DD pr) (sub (codeOf Try.f19) [1, 1, 1, 0, 1, 0, 0, 1, 0, 0, 1, 1, 0, 0, 1, 0, 0, 1]) (q17 pr k Q) e w) (j12 list_0 n_1 rule_6 m_7 all_8 k_9 next_10) w
def B9 (pr : Prims) (list_0 : Sl) (n_1 : Int) (rule_6 : Sl) (m_7 : Int) (all_8 : Sl) (k_9 : Int) (w : World) (k : Env → World → Prop) (Q : Exit → Env → World → Prop) : Prop :=
  S9 pr Q k (emb9 list_0 n_1 rule_6 m_7 all_8 k_9) w
def L9 (pr : Prims) (list_0 : Sl) (n_1 : Int) (rule_6 : Sl) (m_7 : Int) (all_8 : Sl) (k_9 : Int) (w : World) (Q : Exit → Env → World → Prop) : Prop :=
  pr.loop (S9 pr Q) (emb9 list_0 n_1 rule_6 m_7 all_8 k_9) w
def B5 (pr : Prims) (list_0 : Sl) (n_1 : Int) (rule_6 : Sl) (m_7 : Int) (w : World) (k : Env → World → Prop) (Q : Exit → Env → World → Prop) : Prop :=
  S5 pr Q k (emb5 list_0 n_1 rule_6 m_7) w
def L5 (pr : Prims) (list_0 : Sl) (n_1 : Int) (rule_6 : Sl) (m_7 : Int) (w : World) (Q : Exit → Env → World → Prop) : Prop :=
  pr.loop (S5 pr Q) (emb5 list_0 n_1 rule_6 m_7) w
def E (pr : Prims) (list_0 : Sl) (n_1 : Int) (w : World) (R : Ending → World → Prop) : Prop :=
  wpC pr PP cfg (DD pr) (codeOf Try.f19) (retQ Try.f19.results.toList R) (argE 0 [Sl.v list_0, vI n_1]) w
theorem J12_gen (pr : Prims) (list_0 : Sl) (n_1 : Int) (rule_6 : Sl) (m_7 : Int) (all_8 : Sl) (k_9 : Int) (next_10 : Sl) (w : World) (k : Env → World → Prop) (Q : Exit → Env → World → Prop) : wpC pr PP cfg (DD pr) (sub (codeOf Try.f19) [1, 1, 1, 0, 1, 0, 0, 1, 0, 0, 1, 1, 0, 0, 1, 0, 0, 1]) (q17 pr k Q) (j12 list_0 n_1 rule_6 m_7 all_8 k_9 next_10) w = (
  pr.call2 .sl .bool PP F.spec_l15Add #[Sl.v rule_6, Sl.v next_10] w fun (ρ32 : Sl) (ρ33 : Bool) ω34 =>
  bif !ρ33 then (
  pr.sem1 .sl PP (Instr.buildSlice T_SSint 0 #[]) ω34 fun (ρ35 : Sl) ω36 =>
  Q .ret [(4, Sl.v ρ35), (5, .bool false)] ω36)
  else (
  k (emb9 list_0 n_1 ρ32 m_7 all_8 (w64 (k_9 + 1))) ω34)) := by kernel_rfl
theorem J12_s (list_0 : Sl) (n_1 : Int) (rule_6 : Sl) (m_7 : Int) (all_8 : Sl) (k_9 : Int) (next_10 : Sl) (w : World) (k : Env → World → Prop) (Q : Exit → Env → World → Prop) : J12 std list_0 n_1 rule_6 m_7 all_8 k_9 next_10 w k Q = (
  call2 .sl .bool PP F.spec_l15Add #[Sl.v rule_6, Sl.v next_10] w fun (ρ32 : Sl) (ρ33 : Bool) ω34 =>
  bif !ρ33 then (
  sem1 .sl PP (Instr.buildSlice T_SSint 0 #[]) ω34 fun (ρ35 : Sl) ω36 =>
  Q .ret [(4, Sl.v ρ35), (5, .bool false)] ω36)
  else (
  k (emb9 list_0 n_1 ρ32 m_7 all_8 (w64 (k_9 + 1))) ω34)) := J12_gen std list_0 n_1 rule_6 m_7 all_8 k_9 next_10 w k Q
theorem B9_eq (pr : Prims) (list_0 : Sl) (n_1 : Int) (rule_6 : Sl) (m_7 : Int) (all_8 : Sl) (k_9 : Int) (w : World) (k : Env → World → Prop) (Q : Exit → Env → World → Prop) : B9 pr list_0 n_1 rule_6 m_7 all_8 k_9 w k Q = (
  bif decide (k_9 < (all_8.n : Int)) then (
  pr.drewAll w fun ω19 =>
  pr.idxK 1 all_8 k_9 fun (a20 : Addr) =>
  pr.idxK 1 all_8 k_9 fun (a21 : Addr) =>
  (pr.load1 .sl a20 ω19 fun (ξ22 : Sl) =>
  (pr.call1 .sl PP F.spec_l14Sites #[Sl.v list_0, Sl.v ξ22] ω19 fun (ρ23 : Sl) ω24 =>
  (pr.sem1 .sl PP (Instr.buildSlice T_Sint 1 #[(0, vI (ρ23.n : Int))]) ω24 fun (ρ25 : Sl) ω26 =>
  pr.load1 .sl a21 ω26 fun (ξ27 : Sl) =>
  pr.call1 .sl PP F.spec_ChildLabels #[Sl.v list_0, Sl.v ξ27] ω26 fun (ρ28 : Sl) ω29 =>
  pr.sem1 .sl PP (Builtin.append_ #[T_Sint, T_Sint] T_Sint #[Sl.v ρ25, Sl.v ρ28]) ω29 fun (ρ30 : Sl) ω31 =>
  J12 pr list_0 n_1 rule_6 m_7 all_8 k_9 ρ30 ω31 k Q) ∧
  (pr.load1 .sl a21 ω24 fun (ξ37 : Sl) =>
  (pr.sem1 .sl PP (Instr.buildSlice T_Sint 1 #[(0, vI (ρ23.n : Int))]) ω24 fun (ρ38 : Sl) ω39 =>
  pr.call1 .sl PP F.spec_ChildLabels #[Sl.v list_0, Sl.v ξ37] ω39 fun (ρ40 : Sl) ω41 =>
  pr.sem1 .sl PP (Builtin.append_ #[T_Sint, T_Sint] T_Sint #[Sl.v ρ38, Sl.v ρ40]) ω41 fun (ρ42 : Sl) ω43 =>
  J12 pr list_0 n_1 rule_6 m_7 all_8 k_9 ρ42 ω43 k Q) ∧
  (pr.call1 .sl PP F.spec_ChildLabels #[Sl.v list_0, Sl.v ξ37] ω24 fun (ρ44 : Sl) ω45 =>
  pr.sem1 .sl PP (Instr.buildSlice T_Sint 1 #[(0, vI (ρ23.n : Int))]) ω45 fun (ρ46 : Sl) ω47 =>
  pr.sem1 .sl PP (Builtin.append_ #[T_Sint, T_Sint] T_Sint #[Sl.v ρ46, Sl.v ρ44]) ω47 fun (ρ48 : Sl) ω49 =>
  J12 pr list_0 n_1 rule_6 m_7 all_8 k_9 ρ48 ω49 k Q))) ∧
  (pr.load1 .sl a21 ω19 fun (ξ50 : Sl) =>
  pr.call1 .sl PP F.spec_l14Sites #[Sl.v list_0, Sl.v ξ22] ω19 fun (ρ51 : Sl) ω52 =>
  (pr.sem1 .sl PP (Instr.buildSlice T_Sint 1 #[(0, vI (ρ51.n : Int))]) ω52 fun (ρ53 : Sl) ω54 =>
  pr.call1 .sl PP F.spec_ChildLabels #[Sl.v list_0, Sl.v ξ50] ω54 fun (ρ55 : Sl) ω56 =>
  pr.sem1 .sl PP (Builtin.append_ #[T_Sint, T_Sint] T_Sint #[Sl.v ρ53, Sl.v ρ55]) ω56 fun (ρ57 : Sl) ω58 =>
  J12 pr list_0 n_1 rule_6 m_7 all_8 k_9 ρ57 ω58 k Q) ∧
  (pr.call1 .sl PP F.spec_ChildLabels #[Sl.v list_0, Sl.v ξ50] ω52 fun (ρ59 : Sl) ω60 =>
  pr.sem1 .sl PP (Instr.buildSlice T_Sint 1 #[(0, vI (ρ51.n : Int))]) ω60 fun (ρ61 : Sl) ω62 =>
  pr.sem1 .sl PP (Builtin.append_ #[T_Sint, T_Sint] T_Sint #[Sl.v ρ61, Sl.v ρ59]) ω62 fun (ρ63 : Sl) ω64 =>
  J12 pr list_0 n_1 rule_6 m_7 all_8 k_9 ρ63 ω64 k Q))) ∧
  (pr.load1 .sl a21 ω19 fun (ξ65 : Sl) =>
  pr.load1 .sl a20 ω19 fun (ξ66 : Sl) =>
  pr.call1 .sl PP F.spec_l14Sites #[Sl.v list_0, Sl.v ξ66] ω19 fun (ρ67 : Sl) ω68 =>
  (pr.sem1 .sl PP (Instr.buildSlice T_Sint 1 #[(0, vI (ρ67.n : Int))]) ω68 fun (ρ69 : Sl) ω70 =>
  pr.call1 .sl PP F.spec_ChildLabels #[Sl.v list_0, Sl.v ξ65] ω70 fun (ρ71 : Sl) ω72 =>
  pr.sem1 .sl PP (Builtin.append_ #[T_Sint, T_Sint] T_Sint #[Sl.v ρ69, Sl.v ρ71]) ω72 fun (ρ73 : Sl) ω74 =>
  J12 pr list_0 n_1 rule_6 m_7 all_8 k_9 ρ73 ω74 k Q) ∧
  (pr.call1 .sl PP F.spec_ChildLabels #[Sl.v list_0, Sl.v ξ65] ω68 fun (ρ75 : Sl) ω76 =>
  pr.sem1 .sl PP (Instr.buildSlice T_Sint 1 #[(0, vI (ρ67.n : Int))]) ω76 fun (ρ77 : Sl) ω78 =>
  pr.sem1 .sl PP (Builtin.append_ #[T_Sint, T_Sint] T_Sint #[Sl.v ρ77, Sl.v ρ75]) ω78 fun (ρ79 : Sl) ω80 =>
  J12 pr list_0 n_1 rule_6 m_7 all_8 k_9 ρ79 ω80 k Q)))
  else (
  Q (.exit 2) (x2 list_0 n_1 rule_6 m_7) w)) := by kernel_rfl
theorem B9_s (list_0 : Sl) (n_1 : Int) (rule_6 : Sl) (m_7 : Int) (all_8 : Sl) (k_9 : Int) (w : World) (k : Env → World → Prop) (Q : Exit → Env → World → Prop) : B9 std list_0 n_1 rule_6 m_7 all_8 k_9 w k Q = (
  bif decide (k_9 < (all_8.n : Int)) then (
  drewAll w fun ω19 =>
  idxK 1 all_8 k_9 fun (a20 : Addr) =>
  idxK 1 all_8 k_9 fun (a21 : Addr) =>
  (load1 .sl a20 ω19 fun (ξ22 : Sl) =>
  (call1 .sl PP F.spec_l14Sites #[Sl.v list_0, Sl.v ξ22] ω19 fun (ρ23 : Sl) ω24 =>
  (sem1 .sl PP (Instr.buildSlice T_Sint 1 #[(0, vI (ρ23.n : Int))]) ω24 fun (ρ25 : Sl) ω26 =>
  load1 .sl a21 ω26 fun (ξ27 : Sl) =>
  call1 .sl PP F.spec_ChildLabels #[Sl.v list_0, Sl.v ξ27] ω26 fun (ρ28 : Sl) ω29 =>
  sem1 .sl PP (Builtin.append_ #[T_Sint, T_Sint] T_Sint #[Sl.v ρ25, Sl.v ρ28]) ω29 fun (ρ30 : Sl) ω31 =>
  J12 std list_0 n_1 rule_6 m_7 all_8 k_9 ρ30 ω31 k Q) ∧
  (load1 .sl a21 ω24 fun (ξ37 : Sl) =>
  (sem1 .sl PP (Instr.buildSlice T_Sint 1 #[(0, vI (ρ23.n : Int))]) ω24 fun (ρ38 : Sl) ω39 =>
  call1 .sl PP F.spec_ChildLabels #[Sl.v list_0, Sl.v ξ37] ω39 fun (ρ40 : Sl) ω41 =>
  sem1 .sl PP (Builtin.append_ #[T_Sint, T_Sint] T_Sint #[Sl.v ρ38, Sl.v ρ40]) ω41 fun (ρ42 : Sl) ω43 =>
  J12 std list_0 n_1 rule_6 m_7 all_8 k_9 ρ42 ω43 k Q) ∧
  (call1 .sl PP F.spec_ChildLabels #[Sl.v list_0, Sl.v ξ37] ω24 fun (ρ44 : Sl) ω45 =>
  sem1 .sl PP (Instr.buildSlice T_Sint 1 #[(0, vI (ρ23.n : Int))]) ω45 fun (ρ46 : Sl) ω47 =>
  sem1 .sl PP (Builtin.append_ #[T_Sint, T_Sint] T_Sint #[Sl.v ρ46, Sl.v ρ44]) ω47 fun (ρ48 : Sl) ω49 =>
  J12 std list_0 n_1 rule_6 m_7 all_8 k_9 ρ48 ω49 k Q))) ∧
  (load1 .sl a21 ω19 fun (ξ50 : Sl) =>
  call1 .sl PP F.spec_l14Sites #[Sl.v list_0, Sl.v ξ22] ω19 fun (ρ51 : Sl) ω52 =>
  (sem1 .sl PP (Instr.buildSlice T_Sint 1 #[(0, vI (ρ51.n : Int))]) ω52 fun (ρ53 : Sl) ω54 =>
  call1 .sl PP F.spec_ChildLabels #[Sl.v list_0, Sl.v ξ50] ω54 fun (ρ55 : Sl) ω56 =>
  sem1 .sl PP (Builtin.append_ #[T_Sint, T_Sint] T_Sint #[Sl.v ρ53, Sl.v ρ55]) ω56 fun (ρ57 : Sl) ω58 =>
  J12 std list_0 n_1 rule_6 m_7 all_8 k_9 ρ57 ω58 k Q) ∧
  (call1 .sl PP F.spec_ChildLabels #[Sl.v list_0, Sl.v ξ50] ω52 fun (ρ59 : Sl) ω60 =>
  sem1 .sl PP (Instr.buildSlice T_Sint 1 #[(0, vI (ρ51.n : Int))]) ω60 fun (ρ61 : Sl) ω62 =>
  sem1 .sl PP (Builtin.append_ #[T_Sint, T_Sint] T_Sint #[Sl.v ρ61, Sl.v ρ59]) ω62 fun (ρ63 : Sl) ω64 =>
  J12 std list_0 n_1 rule_6 m_7 all_8 k_9 ρ63 ω64 k Q))) ∧
  (load1 .sl a21 ω19 fun (ξ65 : Sl) =>
  load1 .sl a20 ω19 fun (ξ66 : Sl) =>
  call1 .sl PP F.spec_l14Sites #[Sl.v list_0, Sl.v ξ66] ω19 fun (ρ67 : Sl) ω68 =>
  (sem1 .sl PP (Instr.buildSlice T_Sint 1 #[(0, vI (ρ67.n : Int))]) ω68 fun (ρ69 : Sl) ω70 =>
  call1 .sl PP F.spec_ChildLabels #[Sl.v list_0, Sl.v ξ65] ω70 fun (ρ71 : Sl) ω72 =>
  sem1 .sl PP (Builtin.append_ #[T_Sint, T_Sint] T_Sint #[Sl.v ρ69, Sl.v ρ71]) ω72 fun (ρ73 : Sl) ω74 =>
  J12 std list_0 n_1 rule_6 m_7 all_8 k_9 ρ73 ω74 k Q) ∧
  (call1 .sl PP F.spec_ChildLabels #[Sl.v list_0, Sl.v ξ65] ω68 fun (ρ75 : Sl) ω76 =>
  sem1 .sl PP (Instr.buildSlice T_Sint 1 #[(0, vI (ρ67.n : Int))]) ω76 fun (ρ77 : Sl) ω78 =>
  sem1 .sl PP (Builtin.append_ #[T_Sint, T_Sint] T_Sint #[Sl.v ρ77, Sl.v ρ75]) ω78 fun (ρ79 : Sl) ω80 =>
  J12 std list_0 n_1 rule_6 m_7 all_8 k_9 ρ79 ω80 k Q)))
  else (
  Q (.exit 2) (x2 list_0 n_1 rule_6 m_7) w)) := B9_eq std list_0 n_1 rule_6 m_7 all_8 k_9 w k Q
theorem L9_rule (list_0 : Sl) (n_1 : Int) (rule_6 : Sl) (m_7 : Int) (all_8 : Sl) (k_9 : Int) (w : World) (Q : Exit → Env → World → Prop) (I : Sl → Int → World → Prop) (μ : Sl → Int → World → Nat) (h0 : I rule_6 k_9 w)
    (h : ∀ (rule_6 : Sl) (k_9 : Int) (w' : World), I rule_6 k_9 w' → B9 std list_0 n_1 rule_6 m_7 all_8 k_9 w' (fun e2 w2 => ∃ rule_6_n k_9_n, e2 = emb9 list_0 n_1 rule_6_n m_7 all_8 k_9_n ∧ I rule_6_n k_9_n w2 ∧ μ rule_6_n k_9_n w2 < μ rule_6 k_9 w') Q) :
    L9 std list_0 n_1 rule_6 m_7 all_8 k_9 w Q := by
  unfold L9
  refine LoopE.intro (σ := Sl × Int) (step := S9 std Q) (fun s => emb9 list_0 n_1 s.1 m_7 all_8 s.2) (fun s w => I s.1 s.2 w) (fun s w => μ s.1 s.2 w) (rule_6, k_9) rfl h0 ?_
  intro s w' hI
  have h1 := h s.1 s.2 w' hI
  unfold B9 at h1
  simp only [Prod.exists]
  exact h1
theorem A9_2_eq (pr : Prims) (list_0 : Sl) (n_1 : Int) (rule_6 : Sl) (m_7 : Int) (w : World) (k : Env → World → Prop) (Q : Exit → Env → World → Prop) : (q15 pr k Q) (.exit 2) (x2 list_0 n_1 rule_6 m_7) w = (
  k (emb5 list_0 n_1 rule_6 (w64 (m_7 + 1))) w) := by kernel_rfl
theorem A9_2_s (list_0 : Sl) (n_1 : Int) (rule_6 : Sl) (m_7 : Int) (w : World) (k : Env → World → Prop) (Q : Exit → Env → World → Prop) : (q15 std k Q) (.exit 2) (x2 list_0 n_1 rule_6 m_7) w = (
  k (emb5 list_0 n_1 rule_6 (w64 (m_7 + 1))) w) := A9_2_eq std list_0 n_1 rule_6 m_7 w k Q
theorem R9_eq (pr : Prims) (v4 : Value) (v5 : Value) (w : World) (k : Env → World → Prop) (Q : Exit → Env → World → Prop) : (q15 pr k Q) .ret [(4, v4), (5, v5)] w = (
  Q .ret [(4, v4), (5, v5)] w) := by kernel_rfl
theorem R9_s (v4 : Value) (v5 : Value) (w : World) (k : Env → World → Prop) (Q : Exit → Env → World → Prop) : (q15 std k Q) .ret [(4, v4), (5, v5)] w = (
  Q .ret [(4, v4), (5, v5)] w) := R9_eq std v4 v5 w k Q
theorem B5_eq (pr : Prims) (list_0 : Sl) (n_1 : Int) (rule_6 : Sl) (m_7 : Int) (w : World) (k : Env → World → Prop) (Q : Exit → Env → World → Prop) : B5 pr list_0 n_1 rule_6 m_7 w k Q = (
  bif decide (m_7 ≤ n_1) then (
  pr.call1 .sl PP F.spec_ClassOf #[Sl.v list_0, vI m_7] w fun (ρ13 : Sl) ω14 =>
  L9 pr list_0 n_1 rule_6 m_7 ρ13 0 ω14 (q15 pr k Q))
  else (
  Q (.exit 0) (x0 rule_6) w)) := by kernel_rfl
theorem B5_s (list_0 : Sl) (n_1 : Int) (rule_6 : Sl) (m_7 : Int) (w : World) (k : Env → World → Prop) (Q : Exit → Env → World → Prop) : B5 std list_0 n_1 rule_6 m_7 w k Q = (
  bif decide (m_7 ≤ n_1) then (
  call1 .sl PP F.spec_ClassOf #[Sl.v list_0, vI m_7] w fun (ρ13 : Sl) ω14 =>
  L9 std list_0 n_1 rule_6 m_7 ρ13 0 ω14 (q15 std k Q))
  else (
  Q (.exit 0) (x0 rule_6) w)) := B5_eq std list_0 n_1 rule_6 m_7 w k Q
theorem L5_rule (list_0 : Sl) (n_1 : Int) (rule_6 : Sl) (m_7 : Int) (w : World) (Q : Exit → Env → World → Prop) (I : Sl → Int → World → Prop) (μ : Sl → Int → World → Nat) (h0 : I rule_6 m_7 w)
    (h : ∀ (rule_6 : Sl) (m_7 : Int) (w' : World), I rule_6 m_7 w' → B5 std list_0 n_1 rule_6 m_7 w' (fun e2 w2 => ∃ rule_6_n m_7_n, e2 = emb5 list_0 n_1 rule_6_n m_7_n ∧ I rule_6_n m_7_n w2 ∧ μ rule_6_n m_7_n w2 < μ rule_6 m_7 w') Q) :
    L5 std list_0 n_1 rule_6 m_7 w Q := by
  unfold L5
  refine LoopE.intro (σ := Sl × Int) (step := S5 std Q) (fun s => emb5 list_0 n_1 s.1 s.2) (fun s w => I s.1 s.2 w) (fun s w => μ s.1 s.2 w) (rule_6, m_7) rfl h0 ?_
  intro s w' hI
  have h1 := h s.1 s.2 w' hI
  unfold B5 at h1
  simp only [Prod.exists]
  exact h1
theorem A5_0_eq (pr : Prims) (rule_6 : Sl) (w : World) (R : Ending → World → Prop) : (q10 pr R) (.exit 0) (x0 rule_6) w = (
  R (.returned (.tuple #[Sl.v rule_6, .bool true])) w) := by kernel_rfl
theorem A5_0_s (rule_6 : Sl) (w : World) (R : Ending → World → Prop) : (q10 std R) (.exit 0) (x0 rule_6) w = (
  R (.returned (.tuple #[Sl.v rule_6, .bool true])) w) := A5_0_eq std rule_6 w R
theorem R5_eq (pr : Prims) (v4 : Value) (v5 : Value) (w : World) (R : Ending → World → Prop) : (q10 pr R) .ret [(4, v4), (5, v5)] w = (
  R (.returned (.tuple #[v4, v5])) w) := by kernel_rfl
theorem R5_s (v4 : Value) (v5 : Value) (w : World) (R : Ending → World → Prop) : (q10 std R) .ret [(4, v4), (5, v5)] w = (
  R (.returned (.tuple #[v4, v5])) w) := R5_eq std v4 v5 w R
theorem E_eq (pr : Prims) (list_0 : Sl) (n_1 : Int) (w : World) (R : Ending → World → Prop) : E pr list_0 n_1 w R = (
  pr.call1 .bool PP F.spec_IsBasis #[Sl.v list_0] w fun (ρ0 : Bool) ω1 =>
  bif !ρ0 then (
  pr.sem1 .sl PP (Instr.buildSlice T_SSint 0 #[]) ω1 fun (ρ2 : Sl) ω3 =>
  R (.returned (.tuple #[Sl.v ρ2, .bool false])) ω3)
  else (
  pr.pcall1 .bool PP F.spec_l1In #[vI n_1, vI 0, vI 5] fun (ρ4 : Bool) =>
  bif !ρ4 then (
  pr.sem1 .sl PP (Instr.buildSlice T_SSint 0 #[]) ω1 fun (ρ5 : Sl) ω6 =>
  R (.returned (.tuple #[Sl.v ρ5, .bool false])) ω6)
  else (
  pr.sem1 .sl PP (Instr.buildSlice T_SSint 0 #[]) ω1 fun (ρ7 : Sl) ω8 =>
  L5 pr list_0 n_1 ρ7 0 ω8 (q10 pr R)))) := by kernel_rfl
theorem E_s (list_0 : Sl) (n_1 : Int) (w : World) (R : Ending → World → Prop) : E std list_0 n_1 w R = (
  call1 .bool PP F.spec_IsBasis #[Sl.v list_0] w fun (ρ0 : Bool) ω1 =>
  bif !ρ0 then (
  sem1 .sl PP (Instr.buildSlice T_SSint 0 #[]) ω1 fun (ρ2 : Sl) ω3 =>
  R (.returned (.tuple #[Sl.v ρ2, .bool false])) ω3)
  else (
  pcall1 .bool PP F.spec_l1In #[vI n_1, vI 0, vI 5] fun (ρ4 : Bool) =>
  bif !ρ4 then (
  sem1 .sl PP (Instr.buildSlice T_SSint 0 #[]) ω1 fun (ρ5 : Sl) ω6 =>
  R (.returned (.tuple #[Sl.v ρ5, .bool false])) ω6)
  else (
  sem1 .sl PP (Instr.buildSlice T_SSint 0 #[]) ω1 fun (ρ7 : Sl) ω8 =>
  L5 std list_0 n_1 ρ7 0 ω8 (q10 std R)))) := E_eq std list_0 n_1 w R
theorem drawsOk : drawsOk PP cfg okD (codeOf Try.f19) = true := by kernel_rfl
theorem calls (list_0 : Sl) (n_1 : Int) {w : World} {R : Ending → World → Prop} (h : E std list_0 n_1 w R) : Calls PP F.spec_RuleUpTo #[Sl.v list_0, vI n_1] w R :=
  calls_of noCount mixed drawOk Try.func19 rfl (c := cfg) (args := [Sl.v list_0, vI n_1]) rfl (Nat.le_of_ble_eq_true (by kernel_rfl)) drawsOk h
end spec_RuleUpTo

namespace spec_l15Add
@[reducible] def cfg : Cfg := ⟨63, [(2, [0, 1, 6])], [(1, [0, 1, 6]), (0, [0, 1, 6])], [], [4, 5], [2, 4], [62, 10, 22, 58, 24, 44, 18, 70, 43, 85, 25, 71, 59, 37, 63], [82, 113, 102, 38, 103, 26, 60]⟩
def q0 (pr : Prims) (R : Ending → World → Prop) : Exit → Env → World → Prop := fun ex e w => normQ ex (fun e w => contE pr cfg (sub (codeOf Try.f49) [1, 1, 1]) (fun e w => wpC pr PP cfg (DD pr) (sub (codeOf Try.f49) [1, 1, 1]) (retQ Try.f49.results.toList R) e w) e w) (retQ Try.f49.results.toList R) e w
def q1 (pr : Prims) (R : Ending → World → Prop) : Exit → Env → World → Prop := fun ex e w => blockQ ex 0 (q0 pr R) e w
def emb2 (rule_0 : Sl) (next_1 : Sl) (at_6 : Int) : Env := [(0, Sl.v rule_0), (1, Sl.v next_1), (6, vI at_6)]
def x0 (rule_0 : Sl) (next_1 : Sl) (at_6 : Int) : Env := [(0, Sl.v rule_0), (1, Sl.v next_1), (6, vI at_6)]
def S2 (pr : Prims) (Q : Exit → Env → World → Prop) : (Env → World → Prop) → Env → World → Prop := fun k e w => wpC pr PP cfg (DD pr) (sub (codeOf Try.f49) [1, 1, 0, 0, 0]) (fun ex e w => normQ ex (fun e' w' => k (Env.restr e' (lookN cfg.loops (keyOf (sub (codeOf Try.f49) [1, 1, 0, 0, 0])))) w') Q e w) e w
def B2 (pr : Prims) (rule_0 : Sl) (next_1 : Sl) (at_6 : Int) (w : World) (k : Env → World → Prop) (Q : Exit → Env → World → Prop) : Prop :=
  S2 pr Q k (emb2 rule_0 next_1 at_6) w
def L2 (pr : Prims) (rule_0 : Sl) (next_1 : Sl) (at_6 : Int) (w : World) (Q : Exit → Env → World → Prop) : Prop :=
  pr.loop (S2 pr Q) (emb2 rule_0 next_1 at_6) w
def E (pr : Prims) (rule_0 : Sl) (next_1 : Sl) (w : World) (R : Ending → World → Prop) : Prop :=
  wpC pr PP cfg (DD pr) (codeOf Try.f49) (retQ Try.f49.results.toList R) (argE 0 [Sl.v rule_0, Sl.v next_1]) w
theorem B2_eq (pr : Prims) (rule_0 : Sl) (next_1 : Sl) (at_6 : Int) (w : World) (k : Env → World → Prop) (Q : Exit → Env → World → Prop) : B2 pr rule_0 next_1 at_6 w k Q = (
  bif decide (at_6 > 0) then (
  pr.idxK 1 next_1 0 fun (a2 : Addr) =>
  pr.load1 (.int .i64) a2 w fun (ξ3 : Int) =>
  pr.idxK 1 rule_0 (w64 (at_6 - 1)) fun (a4 : Addr) =>
  pr.load1 .sl a4 w fun (ξ5 : Sl) =>
  pr.idxK 1 ξ5 0 fun (a6 : Addr) =>
  pr.load1 (.int .i64) a6 w fun (ξ7 : Int) =>
  pr.drewAll w fun ω8 =>
  bif decide (ξ3 < ξ7) then (
  k (emb2 rule_0 next_1 (w64 (at_6 - 1))) ω8)
  else (
  Q (.exit 0) (x0 rule_0 next_1 at_6) ω8))
  else (
  pr.drewAll w fun ω9 =>
  Q (.exit 0) (x0 rule_0 next_1 at_6) ω9)) := by kernel_rfl
theorem B2_s (rule_0 : Sl) (next_1 : Sl) (at_6 : Int) (w : World) (k : Env → World → Prop) (Q : Exit → Env → World → Prop) : B2 std rule_0 next_1 at_6 w k Q = (
  bif decide (at_6 > 0) then (
  idxK 1 next_1 0 fun (a2 : Addr) =>
  load1 (.int .i64) a2 w fun (ξ3 : Int) =>
  idxK 1 rule_0 (w64 (at_6 - 1)) fun (a4 : Addr) =>
  load1 .sl a4 w fun (ξ5 : Sl) =>
  idxK 1 ξ5 0 fun (a6 : Addr) =>
  load1 (.int .i64) a6 w fun (ξ7 : Int) =>
  drewAll w fun ω8 =>
  bif decide (ξ3 < ξ7) then (
  k (emb2 rule_0 next_1 (w64 (at_6 - 1))) ω8)
  else (
  Q (.exit 0) (x0 rule_0 next_1 at_6) ω8))
  else (
  drewAll w fun ω9 =>
  Q (.exit 0) (x0 rule_0 next_1 at_6) ω9)) := B2_eq std rule_0 next_1 at_6 w k Q
theorem L2_rule (rule_0 : Sl) (next_1 : Sl) (at_6 : Int) (w : World) (Q : Exit → Env → World → Prop) (I : Int → World → Prop) (μ : Int → World → Nat) (h0 : I at_6 w)
    (h : ∀ (at_6 : Int) (w' : World), I at_6 w' → B2 std rule_0 next_1 at_6 w' (fun e2 w2 => ∃ at_6_n, e2 = emb2 rule_0 next_1 at_6_n ∧ I at_6_n w2 ∧ μ at_6_n w2 < μ at_6 w') Q) :
    L2 std rule_0 next_1 at_6 w Q := by
  unfold L2
  refine LoopE.intro (σ := Int) (step := S2 std Q) (fun s => emb2 rule_0 next_1 s) (fun s w => I s w) (fun s w => μ s w) at_6 rfl h0 ?_
  intro s w' hI
  have h1 := h s w' hI
  unfold B2 at h1
  exact h1
theorem A2_0_eq (pr : Prims) (rule_0 : Sl) (next_1 : Sl) (at_6 : Int) (w : World) (R : Ending → World → Prop) : (q1 pr R) (.exit 0) (x0 rule_0 next_1 at_6) w = (
  bif decide (at_6 > 0) then (
  pr.idxK 1 rule_0 (w64 (at_6 - 1)) fun (a10 : Addr) =>
  pr.load1 .sl a10 w fun (ξ11 : Sl) =>
  pr.idxK 1 ξ11 0 fun (a12 : Addr) =>
  pr.load1 (.int .i64) a12 w fun (ξ13 : Int) =>
  pr.idxK 1 next_1 0 fun (a14 : Addr) =>
  pr.load1 (.int .i64) a14 w fun (ξ15 : Int) =>
  pr.drewAll w fun ω16 =>
  bif ξ13 == ξ15 then (
  pr.idxK 1 rule_0 (w64 (at_6 - 1)) fun (a17 : Addr) =>
  pr.load1 .sl a17 ω16 fun (ξ18 : Sl) =>
  pr.call1 .bool PP F.spec_l2Same #[Sl.v ξ18, Sl.v next_1] ω16 fun (ρ19 : Bool) ω20 =>
  R (.returned (.tuple #[Sl.v rule_0, .bool ρ19])) ω20)
  else (
  pr.sem1 .sl PP (Instr.buildSlice T_SSint 0 #[]) ω16 fun (ρ21 : Sl) ω22 =>
  pr.cutK 1 rule_0 (some at_6) none fun (s23 : Sl) =>
  pr.sem1 .sl PP (Builtin.append_ #[T_SSint, T_SSint] T_SSint #[Sl.v ρ21, Sl.v s23]) ω22 fun (ρ24 : Sl) ω25 =>
  pr.cutK 1 rule_0 none (some at_6) fun (s26 : Sl) =>
  pr.sem1 .sl PP (Instr.buildSlice T_SSint 1 #[(0, Sl.v next_1)]) ω25 fun (ρ27 : Sl) ω28 =>
  pr.sem1 .sl PP (Builtin.append_ #[T_SSint, T_SSint] T_SSint #[Sl.v s26, Sl.v ρ27]) ω28 fun (ρ29 : Sl) ω30 =>
  pr.sem1 .sl PP (Builtin.append_ #[T_SSint, T_SSint] T_SSint #[Sl.v ρ29, Sl.v ρ24]) ω30 fun (ρ31 : Sl) ω32 =>
  R (.returned (.tuple #[Sl.v ρ31, .bool true])) ω32))
  else (
  pr.drewAll w fun ω33 =>
  pr.sem1 .sl PP (Instr.buildSlice T_SSint 0 #[]) ω33 fun (ρ34 : Sl) ω35 =>
  pr.cutK 1 rule_0 (some at_6) none fun (s36 : Sl) =>
  pr.sem1 .sl PP (Builtin.append_ #[T_SSint, T_SSint] T_SSint #[Sl.v ρ34, Sl.v s36]) ω35 fun (ρ37 : Sl) ω38 =>
  pr.cutK 1 rule_0 none (some at_6) fun (s39 : Sl) =>
  pr.sem1 .sl PP (Instr.buildSlice T_SSint 1 #[(0, Sl.v next_1)]) ω38 fun (ρ40 : Sl) ω41 =>
  pr.sem1 .sl PP (Builtin.append_ #[T_SSint, T_SSint] T_SSint #[Sl.v s39, Sl.v ρ40]) ω41 fun (ρ42 : Sl) ω43 =>
  pr.sem1 .sl PP (Builtin.append_ #[T_SSint, T_SSint] T_SSint #[Sl.v ρ42, Sl.v ρ37]) ω43 fun (ρ44 : Sl) ω45 =>
  R (.returned (.tuple #[Sl.v ρ44, .bool true])) ω45)) := by kernel_rfl
theorem A2_0_s (rule_0 : Sl) (next_1 : Sl) (at_6 : Int) (w : World) (R : Ending → World → Prop) : (q1 std R) (.exit 0) (x0 rule_0 next_1 at_6) w = (
  bif decide (at_6 > 0) then (
  idxK 1 rule_0 (w64 (at_6 - 1)) fun (a10 : Addr) =>
  load1 .sl a10 w fun (ξ11 : Sl) =>
  idxK 1 ξ11 0 fun (a12 : Addr) =>
  load1 (.int .i64) a12 w fun (ξ13 : Int) =>
  idxK 1 next_1 0 fun (a14 : Addr) =>
  load1 (.int .i64) a14 w fun (ξ15 : Int) =>
  drewAll w fun ω16 =>
  bif ξ13 == ξ15 then (
  idxK 1 rule_0 (w64 (at_6 - 1)) fun (a17 : Addr) =>
  load1 .sl a17 ω16 fun (ξ18 : Sl) =>
  call1 .bool PP F.spec_l2Same #[Sl.v ξ18, Sl.v next_1] ω16 fun (ρ19 : Bool) ω20 =>
  R (.returned (.tuple #[Sl.v rule_0, .bool ρ19])) ω20)
  else (
  sem1 .sl PP (Instr.buildSlice T_SSint 0 #[]) ω16 fun (ρ21 : Sl) ω22 =>
  cutK 1 rule_0 (some at_6) none fun (s23 : Sl) =>
  sem1 .sl PP (Builtin.append_ #[T_SSint, T_SSint] T_SSint #[Sl.v ρ21, Sl.v s23]) ω22 fun (ρ24 : Sl) ω25 =>
  cutK 1 rule_0 none (some at_6) fun (s26 : Sl) =>
  sem1 .sl PP (Instr.buildSlice T_SSint 1 #[(0, Sl.v next_1)]) ω25 fun (ρ27 : Sl) ω28 =>
  sem1 .sl PP (Builtin.append_ #[T_SSint, T_SSint] T_SSint #[Sl.v s26, Sl.v ρ27]) ω28 fun (ρ29 : Sl) ω30 =>
  sem1 .sl PP (Builtin.append_ #[T_SSint, T_SSint] T_SSint #[Sl.v ρ29, Sl.v ρ24]) ω30 fun (ρ31 : Sl) ω32 =>
  R (.returned (.tuple #[Sl.v ρ31, .bool true])) ω32))
  else (
  drewAll w fun ω33 =>
  sem1 .sl PP (Instr.buildSlice T_SSint 0 #[]) ω33 fun (ρ34 : Sl) ω35 =>
  cutK 1 rule_0 (some at_6) none fun (s36 : Sl) =>
  sem1 .sl PP (Builtin.append_ #[T_SSint, T_SSint] T_SSint #[Sl.v ρ34, Sl.v s36]) ω35 fun (ρ37 : Sl) ω38 =>
  cutK 1 rule_0 none (some at_6) fun (s39 : Sl) =>
  sem1 .sl PP (Instr.buildSlice T_SSint 1 #[(0, Sl.v next_1)]) ω38 fun (ρ40 : Sl) ω41 =>
  sem1 .sl PP (Builtin.append_ #[T_SSint, T_SSint] T_SSint #[Sl.v s39, Sl.v ρ40]) ω41 fun (ρ42 : Sl) ω43 =>
  sem1 .sl PP (Builtin.append_ #[T_SSint, T_SSint] T_SSint #[Sl.v ρ42, Sl.v ρ37]) ω43 fun (ρ44 : Sl) ω45 =>
  R (.returned (.tuple #[Sl.v ρ44, .bool true])) ω45)) := A2_0_eq std rule_0 next_1 at_6 w R
theorem E_eq (pr : Prims) (rule_0 : Sl) (next_1 : Sl) (w : World) (R : Ending → World → Prop) : E pr rule_0 next_1 w R = (
  L2 pr rule_0 next_1 (rule_0.n : Int) w (q1 pr R)) := by kernel_rfl
theorem E_s (rule_0 : Sl) (next_1 : Sl) (w : World) (R : Ending → World → Prop) : E std rule_0 next_1 w R = (
  L2 std rule_0 next_1 (rule_0.n : Int) w (q1 std R)) := E_eq std rule_0 next_1 w R
theorem drawsOk : drawsOk PP cfg okD (codeOf Try.f49) = true := by kernel_rfl
theorem calls (rule_0 : Sl) (next_1 : Sl) {w : World} {R : Ending → World → Prop} (h : E std rule_0 next_1 w R) : Calls PP F.spec_l15Add #[Sl.v rule_0, Sl.v next_1] w R :=
  calls_of noCount mixed drawOk Try.func49 rfl (c := cfg) (args := [Sl.v rule_0, Sl.v next_1]) rfl (Nat.le_of_ble_eq_true (by kernel_rfl)) drawsOk h
end spec_l15Add

namespace laws_FnExactRuleUpTo
@[reducible] def cfg : Cfg := ⟨101, [], [], [], [4], [], [62, 10, 22, 58, 24, 44, 18, 70, 43, 85, 25, 71, 59, 37, 63], [82, 113, 102, 38, 103, 26, 60]⟩
def E (pr : Prims) (aList_0 : Sl) (aN_1 : Int) (w : World) (R : Ending → World → Prop) : Prop :=
  wpC pr PP cfg (DD pr) (codeOf Try.f6) (retQ Try.f6.results.toList R) (argE 0 [Sl.v aList_0, vI aN_1]) w
theorem E_eq (pr : Prims) (aList_0 : Sl) (aN_1 : Int) (w : World) (R : Ending → World → Prop) : E pr aList_0 aN_1 w R = (
  pr.call1 (.int .i64) PP F.laws_szIntSS #[Sl.v aList_0, vI 1048576] w fun (ρ0 : Int) ω1 =>
  bif decide (ρ0 < 0) then (
  R (.returned (.bool true)) ω1)
  else (
  pr.call1 .sl PP F.laws_toIntSS #[Sl.v aList_0] ω1 fun (ρ2 : Sl) ω3 =>
  pr.call2 .sl .bool PP F.spec_RuleUpTo #[Sl.v ρ2, vI aN_1] ω3 fun (ρ4 : Sl) (ρ5 : Bool) ω6 =>
  pr.call1 .sl PP F.laws_toIntSS #[Sl.v aList_0] ω6 fun (ρ7 : Sl) ω8 =>
  pr.call2 .sl .bool PP F.impl_RuleUpTo #[Sl.v ρ7, vI aN_1] ω8 fun (ρ9 : Sl) (ρ10 : Bool) ω11 =>
  pr.call1 .bool PP F.laws_eqIntSS #[Sl.v ρ9, Sl.v ρ4] ω11 fun (ρ12 : Bool) ω13 =>
  bif !ρ12 then (
  R (.returned (.bool false)) ω13)
  else (
  bif !(ρ10 == ρ5) then (
  R (.returned (.bool false)) ω13)
  else (
  pr.call1 .sl PP F.laws_toIntSS #[Sl.v aList_0] ω13 fun (ρ14 : Sl) ω15 =>
  pr.call1 .bool PP F.laws_eqIntSS #[Sl.v ρ7, Sl.v ρ14] ω15 fun (ρ16 : Bool) ω17 =>
  bif !ρ16 then (
  R (.returned (.bool false)) ω17)
  else (
  pr.call1 (.int .i64) PP F.laws_markIntSS #[Sl.v ρ7, vI 1] ω17 fun (ρ18 : Int) ω19 =>
  bif decide (ρ18 < 0) then (
  R (.returned (.bool false)) ω19)
  else (
  pr.call1 .bool PP F.laws_eqIntSS #[Sl.v ρ9, Sl.v ρ4] ω19 fun (ρ20 : Bool) ω21 =>
  bif !ρ20 then (
  R (.returned (.bool false)) ω21)
  else (
  bif !(ρ10 == ρ5) then (
  R (.returned (.bool false)) ω21)
  else (
  pr.call1 (.int .i64) PP F.laws_markIntSS #[Sl.v ρ9, vI 1] ω21 fun (ρ22 : Int) ω23 =>
  pr.call1 (.int .i64) PP F.laws_heldIntSS #[Sl.v ρ9, vI 1] ω23 fun (ρ24 : Int) ω25 =>
  bif decide (ρ24 < 0) then (
  R (.returned (.bool false)) ω25)
  else (
  bif ρ24 != ρ22 then (
  R (.returned (.bool false)) ω25)
  else (
  pr.call1 .sl PP F.laws_toIntSS #[Sl.v aList_0] ω25 fun (ρ26 : Sl) ω27 =>
  pr.call2 .sl .bool PP F.impl_RuleUpTo #[Sl.v ρ26, vI aN_1] ω27 fun (ρ28 : Sl) (ρ29 : Bool) ω30 =>
  pr.call1 .bool PP F.laws_eqIntSS #[Sl.v ρ28, Sl.v ρ4] ω30 fun (ρ31 : Bool) ω32 =>
  bif !ρ31 then (
  R (.returned (.bool false)) ω32)
  else (
  bif !(ρ29 == ρ5) then (
  R (.returned (.bool false)) ω32)
  else (
  pr.call1 (.int .i64) PP F.laws_heldIntSS #[Sl.v ρ9, vI 1] ω32 fun (ρ33 : Int) ω34 =>
  bif decide (ρ33 < 0) then (
  R (.returned (.bool false)) ω34)
  else (
  bif ρ33 != ρ22 then (
  R (.returned (.bool false)) ω34)
  else (
  R (.returned (.bool true)) ω34)))))))))))))) := by kernel_rfl
theorem E_s (aList_0 : Sl) (aN_1 : Int) (w : World) (R : Ending → World → Prop) : E std aList_0 aN_1 w R = (
  call1 (.int .i64) PP F.laws_szIntSS #[Sl.v aList_0, vI 1048576] w fun (ρ0 : Int) ω1 =>
  bif decide (ρ0 < 0) then (
  R (.returned (.bool true)) ω1)
  else (
  call1 .sl PP F.laws_toIntSS #[Sl.v aList_0] ω1 fun (ρ2 : Sl) ω3 =>
  call2 .sl .bool PP F.spec_RuleUpTo #[Sl.v ρ2, vI aN_1] ω3 fun (ρ4 : Sl) (ρ5 : Bool) ω6 =>
  call1 .sl PP F.laws_toIntSS #[Sl.v aList_0] ω6 fun (ρ7 : Sl) ω8 =>
  call2 .sl .bool PP F.impl_RuleUpTo #[Sl.v ρ7, vI aN_1] ω8 fun (ρ9 : Sl) (ρ10 : Bool) ω11 =>
  call1 .bool PP F.laws_eqIntSS #[Sl.v ρ9, Sl.v ρ4] ω11 fun (ρ12 : Bool) ω13 =>
  bif !ρ12 then (
  R (.returned (.bool false)) ω13)
  else (
  bif !(ρ10 == ρ5) then (
  R (.returned (.bool false)) ω13)
  else (
  call1 .sl PP F.laws_toIntSS #[Sl.v aList_0] ω13 fun (ρ14 : Sl) ω15 =>
  call1 .bool PP F.laws_eqIntSS #[Sl.v ρ7, Sl.v ρ14] ω15 fun (ρ16 : Bool) ω17 =>
  bif !ρ16 then (
  R (.returned (.bool false)) ω17)
  else (
  call1 (.int .i64) PP F.laws_markIntSS #[Sl.v ρ7, vI 1] ω17 fun (ρ18 : Int) ω19 =>
  bif decide (ρ18 < 0) then (
  R (.returned (.bool false)) ω19)
  else (
  call1 .bool PP F.laws_eqIntSS #[Sl.v ρ9, Sl.v ρ4] ω19 fun (ρ20 : Bool) ω21 =>
  bif !ρ20 then (
  R (.returned (.bool false)) ω21)
  else (
  bif !(ρ10 == ρ5) then (
  R (.returned (.bool false)) ω21)
  else (
  call1 (.int .i64) PP F.laws_markIntSS #[Sl.v ρ9, vI 1] ω21 fun (ρ22 : Int) ω23 =>
  call1 (.int .i64) PP F.laws_heldIntSS #[Sl.v ρ9, vI 1] ω23 fun (ρ24 : Int) ω25 =>
  bif decide (ρ24 < 0) then (
  R (.returned (.bool false)) ω25)
  else (
  bif ρ24 != ρ22 then (
  R (.returned (.bool false)) ω25)
  else (
  call1 .sl PP F.laws_toIntSS #[Sl.v aList_0] ω25 fun (ρ26 : Sl) ω27 =>
  call2 .sl .bool PP F.impl_RuleUpTo #[Sl.v ρ26, vI aN_1] ω27 fun (ρ28 : Sl) (ρ29 : Bool) ω30 =>
  call1 .bool PP F.laws_eqIntSS #[Sl.v ρ28, Sl.v ρ4] ω30 fun (ρ31 : Bool) ω32 =>
  bif !ρ31 then (
  R (.returned (.bool false)) ω32)
  else (
  bif !(ρ29 == ρ5) then (
  R (.returned (.bool false)) ω32)
  else (
  call1 (.int .i64) PP F.laws_heldIntSS #[Sl.v ρ9, vI 1] ω32 fun (ρ33 : Int) ω34 =>
  bif decide (ρ33 < 0) then (
  R (.returned (.bool false)) ω34)
  else (
  bif ρ33 != ρ22 then (
  R (.returned (.bool false)) ω34)
  else (
  R (.returned (.bool true)) ω34)))))))))))))) := E_eq std aList_0 aN_1 w R
theorem drawsOk : drawsOk PP cfg okD (codeOf Try.f6) = true := by kernel_rfl
theorem calls (aList_0 : Sl) (aN_1 : Int) {w : World} {R : Ending → World → Prop} (h : E std aList_0 aN_1 w R) : Calls PP F.laws_FnExactRuleUpTo #[Sl.v aList_0, vI aN_1] w R :=
  calls_of noCount mixed drawOk Try.func6 rfl (c := cfg) (args := [Sl.v aList_0, vI aN_1]) rfl (Nat.le_of_ble_eq_true (by kernel_rfl)) drawsOk h
end laws_FnExactRuleUpTo

end Go.Proofs.Ytmhgjfahgemblaa
