/- What each function does, step by step, written by a program (Gen.lean); each equation is checked by the kernel. -/
import Derived.Test.YtmhgjfahgemblaaHead
namespace Go.Proofs.Ytmhgjfahgemblaa
open Go
set_option linter.unusedVariables false
set_option maxRecDepth 100000
namespace spec_UpUnion
@[reducible] def cfg : Cfg := ⟨59, [(9, [0, 1, 5, 6, 7, 8]), (5, [0, 1, 5, 6])], [(3, [0, 1, 5, 6, 7, 8]), (2, [0, 1, 5, 6, 7]), (1, [0, 1, 5, 6]), (0, [5])], [], [4], [], [62, 10, 22, 58, 24, 44, 18, 70, 43, 85, 25, 71, 59, 37, 63], [82, 113, 102, 38, 103, 26, 60]⟩
def q3 (pr : Prims) (R : Ending → World → Prop) : Exit → Env → World → Prop := fun ex e w => normQ ex (fun e w => contE pr cfg (sub (codeOf Try.f7) [1, 1, 1, 1]) (fun e w => wpC pr PP cfg (DD pr) (sub (codeOf Try.f7) [1, 1, 1, 1]) (retQ Try.f7.results.toList R) e w) e w) (retQ Try.f7.results.toList R) e w
def q4 (pr : Prims) (R : Ending → World → Prop) : Exit → Env → World → Prop := fun ex e w => blockQ ex 0 (q3 pr R) e w
def q5 (pr : Prims) (k : Env → World → Prop) (Q : Exit → Env → World → Prop) : Exit → Env → World → Prop := fun ex e w => normQ ex (fun e w => contE pr cfg (sub (codeOf Try.f7) [1, 1, 1, 0, 1, 0, 0, 1, 1]) (fun e w => wpC pr PP cfg (DD pr) (sub (codeOf Try.f7) [1, 1, 1, 0, 1, 0, 0, 1, 1]) (fun ex e w => normQ ex (fun e' w' => k (Env.restr e' (lookN cfg.loops (keyOf (sub (codeOf Try.f7) [1, 1, 1, 0, 1, 0, 0])))) w') Q e w) e w) e w) (fun ex e w => normQ ex (fun e' w' => k (Env.restr e' (lookN cfg.loops (keyOf (sub (codeOf Try.f7) [1, 1, 1, 0, 1, 0, 0])))) w') Q e w) e w
def q6 (pr : Prims) (k : Env → World → Prop) (Q : Exit → Env → World → Prop) : Exit → Env → World → Prop := fun ex e w => blockQ ex 1 (q5 pr k Q) e w
def q9 (pr : Prims) (k : Env → World → Prop) (Q : Exit → Env → World → Prop) : Exit → Env → World → Prop := fun ex e w => normQ ex (fun e w => contE pr cfg (sub (codeOf Try.f7) [1, 1, 1, 0, 1, 0, 0, 1, 0, 0, 1, 1]) (fun e w => wpC pr PP cfg (DD pr) (sub (codeOf Try.f7) [1, 1, 1, 0, 1, 0, 0, 1, 0, 0, 1, 1]) (q6 pr k Q) e w) e w) (q6 pr k Q) e w
def q10 (pr : Prims) (k : Env → World → Prop) (Q : Exit → Env → World → Prop) : Exit → Env → World → Prop := fun ex e w => blockQ ex 2 (q9 pr k Q) e w
def emb5 (p_0 : Sl) (k_1 : Int) (best_5 : Int) (s_6 : Int) : Env := [(0, Sl.v p_0), (1, vI k_1), (5, vI best_5), (6, vI s_6)]
def emb9 (p_0 : Sl) (k_1 : Int) (best_5 : Int) (s_6 : Int) (part_7 : Sl) (i_8 : Int) : Env := [(0, Sl.v p_0), (1, vI k_1), (5, vI best_5), (6, vI s_6), (7, Sl.v part_7), (8, vI i_8)]
def x2 (p_0 : Sl) (k_1 : Int) (best_5 : Int) (s_6 : Int) (part_7 : Sl) : Env := [(0, Sl.v p_0), (1, vI k_1), (5, vI best_5), (6, vI s_6), (7, Sl.v part_7)]
def x0 (best_5 : Int) : Env := [(5, vI best_5)]
def S9 (pr : Prims) (Q : Exit → Env → World → Prop) : (Env → World → Prop) → Env → World → Prop := fun k e w => wpC pr PP cfg (DD pr) (sub (codeOf Try.f7) [1, 1, 1, 0, 1, 0, 0, 1, 0, 0, 1, 0, 1, 0, 0]) (fun ex e w => normQ ex (fun e' w' => k (Env.restr e' (lookN cfg.loops (keyOf (sub (codeOf Try.f7) [1, 1, 1, 0, 1, 0, 0, 1, 0, 0, 1, 0, 1, 0, 0])))) w') Q e w) e w
def S5 (pr : Prims) (Q : Exit → Env → World → Prop) : (Env → World → Prop) → Env → World → Prop := fun k e w => wpC pr PP cfg (DD pr) (sub (codeOf Try.f7) [1, 1, 1, 0, 1, 0, 0]) (fun ex e w => normQ ex (fun e' w' => k (Env.restr e' (lookN cfg.loops (keyOf (sub (codeOf Try.f7) [1, 1, 1, 0, 1, 0, 0])))) w') Q e w) e w
def B9 (pr : Prims) (p_0 : Sl) (k_1 : Int) (best_5 : Int) (s_6 : Int) (part_7 : Sl) (i_8 : Int) (w : World) (k : Env → World → Prop) (Q : Exit → Env → World → Prop) : Prop :=
  S9 pr Q k (emb9 p_0 k_1 best_5 s_6 part_7 i_8) w
def L9 (pr : Prims) (p_0 : Sl) (k_1 : Int) (best_5 : Int) (s_6 : Int) (part_7 : Sl) (i_8 : Int) (w : World) (Q : Exit → Env → World → Prop) : Prop :=
  pr.loop (S9 pr Q) (emb9 p_0 k_1 best_5 s_6 part_7 i_8) w
def B5 (pr : Prims) (p_0 : Sl) (k_1 : Int) (best_5 : Int) (s_6 : Int) (w : World) (k : Env → World → Prop) (Q : Exit → Env → World → Prop) : Prop :=
  S5 pr Q k (emb5 p_0 k_1 best_5 s_6) w
def L5 (pr : Prims) (p_0 : Sl) (k_1 : Int) (best_5 : Int) (s_6 : Int) (w : World) (Q : Exit → Env → World → Prop) : Prop :=
  pr.loop (S5 pr Q) (emb5 p_0 k_1 best_5 s_6) w
def E (pr : Prims) (p_0 : Sl) (k_1 : Int) (w : World) (R : Ending → World → Prop) : Prop :=
  wpC pr PP cfg (DD pr) (codeOf Try.f7) (retQ Try.f7.results.toList R) (argE 0 [Sl.v p_0, vI k_1]) w
theorem B9_eq (pr : Prims) (p_0 : Sl) (k_1 : Int) (best_5 : Int) (s_6 : Int) (part_7 : Sl) (i_8 : Int) (w : World) (k : Env → World → Prop) (Q : Exit → Env → World → Prop) : B9 pr p_0 k_1 best_5 s_6 part_7 i_8 w k Q = (
  bif decide (i_8 < (p_0.n : Int)) then (
  (0 : Int) ≤ (IntKind.u64.wrap (i_8)) ∧
  bif (bAnd .i64 (sShr .i64 s_6 (IntKind.u64.wrap (i_8))) 1) == 1 then (
  pr.idxK 1 p_0 i_8 fun (a11 : Addr) =>
  pr.load1 (.int .i64) a11 w fun (ξ12 : Int) =>
  pr.sem1 .sl PP (Instr.buildSlice T_Sint 1 #[(0, vI ξ12)]) w fun (ρ13 : Sl) ω14 =>
  pr.sem1 .sl PP (Builtin.append_ #[T_Sint, T_Sint] T_Sint #[Sl.v part_7, Sl.v ρ13]) ω14 fun (ρ15 : Sl) ω16 =>
  k (emb9 p_0 k_1 best_5 s_6 ρ15 (w64 (i_8 + 1))) ω16)
  else (
  k (emb9 p_0 k_1 best_5 s_6 part_7 (w64 (i_8 + 1))) w))
  else (
  Q (.exit 2) (x2 p_0 k_1 best_5 s_6 part_7) w)) := by kernel_rfl
theorem B9_s (p_0 : Sl) (k_1 : Int) (best_5 : Int) (s_6 : Int) (part_7 : Sl) (i_8 : Int) (w : World) (k : Env → World → Prop) (Q : Exit → Env → World → Prop) : B9 std p_0 k_1 best_5 s_6 part_7 i_8 w k Q = (
  bif decide (i_8 < (p_0.n : Int)) then (
  (0 : Int) ≤ (IntKind.u64.wrap (i_8)) ∧
  bif (bAnd .i64 (sShr .i64 s_6 (IntKind.u64.wrap (i_8))) 1) == 1 then (
  idxK 1 p_0 i_8 fun (a11 : Addr) =>
  load1 (.int .i64) a11 w fun (ξ12 : Int) =>
  sem1 .sl PP (Instr.buildSlice T_Sint 1 #[(0, vI ξ12)]) w fun (ρ13 : Sl) ω14 =>
  sem1 .sl PP (Builtin.append_ #[T_Sint, T_Sint] T_Sint #[Sl.v part_7, Sl.v ρ13]) ω14 fun (ρ15 : Sl) ω16 =>
  k (emb9 p_0 k_1 best_5 s_6 ρ15 (w64 (i_8 + 1))) ω16)
  else (
  k (emb9 p_0 k_1 best_5 s_6 part_7 (w64 (i_8 + 1))) w))
  else (
  Q (.exit 2) (x2 p_0 k_1 best_5 s_6 part_7) w)) := B9_eq std p_0 k_1 best_5 s_6 part_7 i_8 w k Q
theorem L9_rule (p_0 : Sl) (k_1 : Int) (best_5 : Int) (s_6 : Int) (part_7 : Sl) (i_8 : Int) (w : World) (Q : Exit → Env → World → Prop) (I : Sl → Int → World → Prop) (μ : Sl → Int → World → Nat) (h0 : I part_7 i_8 w)
    (h : ∀ (part_7 : Sl) (i_8 : Int) (w' : World), I part_7 i_8 w' → B9 std p_0 k_1 best_5 s_6 part_7 i_8 w' (fun e2 w2 => ∃ part_7_n i_8_n, e2 = emb9 p_0 k_1 best_5 s_6 part_7_n i_8_n ∧ I part_7_n i_8_n w2 ∧ μ part_7_n i_8_n w2 < μ part_7 i_8 w') Q) :
    L9 std p_0 k_1 best_5 s_6 part_7 i_8 w Q := by
  unfold L9
  refine LoopE.intro (σ := Sl × Int) (step := S9 std Q) (fun s => emb9 p_0 k_1 best_5 s_6 s.1 s.2) (fun s w => I s.1 s.2 w) (fun s w => μ s.1 s.2 w) (part_7, i_8) rfl h0 ?_
  intro s w' hI
  have h1 := h s.1 s.2 w' hI
  unfold B9 at h1
  simp only [Prod.exists]
  exact h1
theorem A9_2_eq (pr : Prims) (p_0 : Sl) (k_1 : Int) (best_5 : Int) (s_6 : Int) (part_7 : Sl) (w : World) (k : Env → World → Prop) (Q : Exit → Env → World → Prop) : (q10 pr k Q) (.exit 2) (x2 p_0 k_1 best_5 s_6 part_7) w = (
  bif decide ((part_7.n : Int) > best_5) then (
  pr.call1 .sl PP F.spec_l3Reverse #[Sl.v part_7] w fun (ρ17 : Sl) ω18 =>
  pr.call1 (.int .i64) PP F.spec_l20Up #[Sl.v ρ17] ω18 fun (ρ19 : Int) ω20 =>
  bif decide (ρ19 ≤ k_1) then (
  k (emb5 p_0 k_1 (part_7.n : Int) (w64 (s_6 + 1))) ω20)
  else (
  k (emb5 p_0 k_1 best_5 (w64 (s_6 + 1))) ω20))
  else (
  k (emb5 p_0 k_1 best_5 (w64 (s_6 + 1))) w)) := by kernel_rfl
theorem A9_2_s (p_0 : Sl) (k_1 : Int) (best_5 : Int) (s_6 : Int) (part_7 : Sl) (w : World) (k : Env → World → Prop) (Q : Exit → Env → World → Prop) : (q10 std k Q) (.exit 2) (x2 p_0 k_1 best_5 s_6 part_7) w = (
  bif decide ((part_7.n : Int) > best_5) then (
  call1 .sl PP F.spec_l3Reverse #[Sl.v part_7] w fun (ρ17 : Sl) ω18 =>
  call1 (.int .i64) PP F.spec_l20Up #[Sl.v ρ17] ω18 fun (ρ19 : Int) ω20 =>
  bif decide (ρ19 ≤ k_1) then (
  k (emb5 p_0 k_1 (part_7.n : Int) (w64 (s_6 + 1))) ω20)
  else (
  k (emb5 p_0 k_1 best_5 (w64 (s_6 + 1))) ω20))
  else (
  k (emb5 p_0 k_1 best_5 (w64 (s_6 + 1))) w)) := A9_2_eq std p_0 k_1 best_5 s_6 part_7 w k Q
theorem B5_eq (pr : Prims) (p_0 : Sl) (k_1 : Int) (best_5 : Int) (s_6 : Int) (w : World) (k : Env → World → Prop) (Q : Exit → Env → World → Prop) : B5 pr p_0 k_1 best_5 s_6 w k Q = (
  (0 : Int) ≤ (IntKind.u64.wrap ((p_0.n : Int))) ∧
  bif decide (s_6 < (sShl .i64 1 (IntKind.u64.wrap ((p_0.n : Int))))) then (
  pr.sem1 .sl PP (Instr.buildSlice T_Sint 0 #[]) w fun (ρ7 : Sl) ω8 =>
  L9 pr p_0 k_1 best_5 s_6 ρ7 0 ω8 (q10 pr k Q))
  else (
  Q (.exit 0) (x0 best_5) w)) := by kernel_rfl
theorem B5_s (p_0 : Sl) (k_1 : Int) (best_5 : Int) (s_6 : Int) (w : World) (k : Env → World → Prop) (Q : Exit → Env → World → Prop) : B5 std p_0 k_1 best_5 s_6 w k Q = (
  (0 : Int) ≤ (IntKind.u64.wrap ((p_0.n : Int))) ∧
  bif decide (s_6 < (sShl .i64 1 (IntKind.u64.wrap ((p_0.n : Int))))) then (
  sem1 .sl PP (Instr.buildSlice T_Sint 0 #[]) w fun (ρ7 : Sl) ω8 =>
  L9 std p_0 k_1 best_5 s_6 ρ7 0 ω8 (q10 std k Q))
  else (
  Q (.exit 0) (x0 best_5) w)) := B5_eq std p_0 k_1 best_5 s_6 w k Q
theorem L5_rule (p_0 : Sl) (k_1 : Int) (best_5 : Int) (s_6 : Int) (w : World) (Q : Exit → Env → World → Prop) (I : Int → Int → World → Prop) (μ : Int → Int → World → Nat) (h0 : I best_5 s_6 w)
    (h : ∀ (best_5 : Int) (s_6 : Int) (w' : World), I best_5 s_6 w' → B5 std p_0 k_1 best_5 s_6 w' (fun e2 w2 => ∃ best_5_n s_6_n, e2 = emb5 p_0 k_1 best_5_n s_6_n ∧ I best_5_n s_6_n w2 ∧ μ best_5_n s_6_n w2 < μ best_5 s_6 w') Q) :
    L5 std p_0 k_1 best_5 s_6 w Q := by
  unfold L5
  refine LoopE.intro (σ := Int × Int) (step := S5 std Q) (fun s => emb5 p_0 k_1 s.1 s.2) (fun s w => I s.1 s.2 w) (fun s w => μ s.1 s.2 w) (best_5, s_6) rfl h0 ?_
  intro s w' hI
  have h1 := h s.1 s.2 w' hI
  unfold B5 at h1
  simp only [Prod.exists]
  exact h1
theorem A5_0_eq (pr : Prims) (best_5 : Int) (w : World) (R : Ending → World → Prop) : (q4 pr R) (.exit 0) (x0 best_5) w = (
  R (.returned (vI best_5)) w) := by kernel_rfl
theorem A5_0_s (best_5 : Int) (w : World) (R : Ending → World → Prop) : (q4 std R) (.exit 0) (x0 best_5) w = (
  R (.returned (vI best_5)) w) := A5_0_eq std best_5 w R
theorem E_eq (pr : Prims) (p_0 : Sl) (k_1 : Int) (w : World) (R : Ending → World → Prop) : E pr p_0 k_1 w R = (
  pr.call1 .bool PP F.spec_IsPerm #[Sl.v p_0] w fun (ρ0 : Bool) ω1 =>
  bif !ρ0 then (
  R (.returned (vI (-1))) ω1)
  else (
  pr.pcall1 .bool PP F.spec_l1In #[vI k_1, vI 0, vI 8] fun (ρ2 : Bool) =>
  bif !ρ2 then (
  R (.returned (vI (-1))) ω1)
  else (
  L5 pr p_0 k_1 0 0 ω1 (q4 pr R)))) := by kernel_rfl
theorem E_s (p_0 : Sl) (k_1 : Int) (w : World) (R : Ending → World → Prop) : E std p_0 k_1 w R = (
  call1 .bool PP F.spec_IsPerm #[Sl.v p_0] w fun (ρ0 : Bool) ω1 =>
  bif !ρ0 then (
  R (.returned (vI (-1))) ω1)
  else (
  pcall1 .bool PP F.spec_l1In #[vI k_1, vI 0, vI 8] fun (ρ2 : Bool) =>
  bif !ρ2 then (
  R (.returned (vI (-1))) ω1)
  else (
  L5 std p_0 k_1 0 0 ω1 (q4 std R)))) := E_eq std p_0 k_1 w R
theorem drawsOk : drawsOk PP cfg okD (codeOf Try.f7) = true := by kernel_rfl
theorem calls (p_0 : Sl) (k_1 : Int) {w : World} {R : Ending → World → Prop} (h : E std p_0 k_1 w R) : Calls PP F.spec_UpUnion #[Sl.v p_0, vI k_1] w R :=
  calls_of noCount mixed drawOk Try.func7 rfl (c := cfg) (args := [Sl.v p_0, vI k_1]) rfl (Nat.le_of_ble_eq_true (by kernel_rfl)) drawsOk h
end spec_UpUnion

namespace impl_UpUnion
@[reducible] def cfg : Cfg := ⟨43, [(6, [1, 8, 27, 28, 29])], [(1, [1, 8, 27, 28, 29]), (0, [8])], [], [4], [], [62, 10, 22, 58, 24, 44, 18, 70, 43, 85, 25, 71, 59, 37, 63], [82, 113, 102, 38, 103, 26, 60]⟩
def q4 (pr : Prims) (R : Ending → World → Prop) : Exit → Env → World → Prop := fun ex e w => normQ ex (fun e w => contE pr cfg (sub (codeOf Try.f9) [1, 1, 1, 1, 1]) (fun e w => wpC pr PP cfg (DD pr) (sub (codeOf Try.f9) [1, 1, 1, 1, 1]) (retQ Try.f9.results.toList R) e w) e w) (retQ Try.f9.results.toList R) e w
def q5 (pr : Prims) (R : Ending → World → Prop) : Exit → Env → World → Prop := fun ex e w => blockQ ex 0 (q4 pr R) e w
def emb6 (k_1 : Int) (sum_8 : Int) (t27 : Sl) (t28 : Int) (t29 : Int) : Env := [(1, vI k_1), (8, vI sum_8), (27, Sl.v t27), (28, vI t28), (29, vI t29)]
def x0 (sum_8 : Int) : Env := [(8, vI sum_8)]
def S6 (pr : Prims) (Q : Exit → Env → World → Prop) : (Env → World → Prop) → Env → World → Prop := fun k e w => wpC pr PP cfg (DD pr) (sub (codeOf Try.f9) [1, 1, 1, 1, 0, 1, 0, 0]) (fun ex e w => normQ ex (fun e' w' => k (Env.restr e' (lookN cfg.loops (keyOf (sub (codeOf Try.f9) [1, 1, 1, 1, 0, 1, 0, 0])))) w') Q e w) e w
def B6 (pr : Prims) (k_1 : Int) (sum_8 : Int) (t27 : Sl) (t28 : Int) (t29 : Int) (w : World) (k : Env → World → Prop) (Q : Exit → Env → World → Prop) : Prop :=
  S6 pr Q k (emb6 k_1 sum_8 t27 t28 t29) w
def L6 (pr : Prims) (k_1 : Int) (sum_8 : Int) (t27 : Sl) (t28 : Int) (t29 : Int) (w : World) (Q : Exit → Env → World → Prop) : Prop :=
  pr.loop (S6 pr Q) (emb6 k_1 sum_8 t27 t28 t29) w
def E (pr : Prims) (p_0 : Sl) (k_1 : Int) (w : World) (R : Ending → World → Prop) : Prop :=
  wpC pr PP cfg (DD pr) (codeOf Try.f9) (retQ Try.f9.results.toList R) (argE 0 [Sl.v p_0, vI k_1]) w
theorem B6_eq (pr : Prims) (k_1 : Int) (sum_8 : Int) (t27 : Sl) (t28 : Int) (t29 : Int) (w : World) (k : Env → World → Prop) (Q : Exit → Env → World → Prop) : B6 pr k_1 sum_8 t27 t28 t29 w k Q = (
  bif decide (t29 < t28) then (
  pr.idxK 1 t27 t29 fun (a6 : Addr) =>
  pr.load1 .sl a6 w fun (ξ7 : Sl) =>
  bif decide (t29 < k_1) then (
  k (emb6 k_1 (w64 (sum_8 + (ξ7.n : Int))) t27 t28 (w64 (t29 + 1))) w)
  else (
  k (emb6 k_1 sum_8 t27 t28 (w64 (t29 + 1))) w))
  else (
  Q (.exit 0) (x0 sum_8) w)) := by kernel_rfl
theorem B6_s (k_1 : Int) (sum_8 : Int) (t27 : Sl) (t28 : Int) (t29 : Int) (w : World) (k : Env → World → Prop) (Q : Exit → Env → World → Prop) : B6 std k_1 sum_8 t27 t28 t29 w k Q = (
  bif decide (t29 < t28) then (
  idxK 1 t27 t29 fun (a6 : Addr) =>
  load1 .sl a6 w fun (ξ7 : Sl) =>
  bif decide (t29 < k_1) then (
  k (emb6 k_1 (w64 (sum_8 + (ξ7.n : Int))) t27 t28 (w64 (t29 + 1))) w)
  else (
  k (emb6 k_1 sum_8 t27 t28 (w64 (t29 + 1))) w))
  else (
  Q (.exit 0) (x0 sum_8) w)) := B6_eq std k_1 sum_8 t27 t28 t29 w k Q
theorem L6_rule (k_1 : Int) (sum_8 : Int) (t27 : Sl) (t28 : Int) (t29 : Int) (w : World) (Q : Exit → Env → World → Prop) (I : Int → Int → World → Prop) (μ : Int → Int → World → Nat) (h0 : I sum_8 t29 w)
    (h : ∀ (sum_8 : Int) (t29 : Int) (w' : World), I sum_8 t29 w' → B6 std k_1 sum_8 t27 t28 t29 w' (fun e2 w2 => ∃ sum_8_n t29_n, e2 = emb6 k_1 sum_8_n t27 t28 t29_n ∧ I sum_8_n t29_n w2 ∧ μ sum_8_n t29_n w2 < μ sum_8 t29 w') Q) :
    L6 std k_1 sum_8 t27 t28 t29 w Q := by
  unfold L6
  refine LoopE.intro (σ := Int × Int) (step := S6 std Q) (fun s => emb6 k_1 s.1 t27 t28 s.2) (fun s w => I s.1 s.2 w) (fun s w => μ s.1 s.2 w) (sum_8, t29) rfl h0 ?_
  intro s w' hI
  have h1 := h s.1 s.2 w' hI
  unfold B6 at h1
  simp only [Prod.exists]
  exact h1
theorem A6_0_eq (pr : Prims) (sum_8 : Int) (w : World) (R : Ending → World → Prop) : (q5 pr R) (.exit 0) (x0 sum_8) w = (
  R (.returned (vI sum_8)) w) := by kernel_rfl
theorem A6_0_s (sum_8 : Int) (w : World) (R : Ending → World → Prop) : (q5 std R) (.exit 0) (x0 sum_8) w = (
  R (.returned (vI sum_8)) w) := A6_0_eq std sum_8 w R
theorem E_eq (pr : Prims) (p_0 : Sl) (k_1 : Int) (w : World) (R : Ending → World → Prop) : E pr p_0 k_1 w R = (
  pr.call3 .sl .sl .bool PP F.impl_InsertPerm #[Sl.v p_0] w fun (ρ0 : Sl) (ρ1 : Sl) (ρ2 : Bool) ω3 =>
  bif !ρ2 then (
  R (.returned (vI (-1))) ω3)
  else (
  bif decide (k_1 < 0) then (
  R (.returned (vI (-1))) ω3)
  else (
  bif decide (k_1 > 8) then (
  R (.returned (vI (-1))) ω3)
  else (
  L6 pr k_1 0 ρ0 (ρ0.n : Int) 0 ω3 (q5 pr R))))) := by kernel_rfl
theorem E_s (p_0 : Sl) (k_1 : Int) (w : World) (R : Ending → World → Prop) : E std p_0 k_1 w R = (
  call3 .sl .sl .bool PP F.impl_InsertPerm #[Sl.v p_0] w fun (ρ0 : Sl) (ρ1 : Sl) (ρ2 : Bool) ω3 =>
  bif !ρ2 then (
  R (.returned (vI (-1))) ω3)
  else (
  bif decide (k_1 < 0) then (
  R (.returned (vI (-1))) ω3)
  else (
  bif decide (k_1 > 8) then (
  R (.returned (vI (-1))) ω3)
  else (
  L6 std k_1 0 ρ0 (ρ0.n : Int) 0 ω3 (q5 std R))))) := E_eq std p_0 k_1 w R
theorem drawsOk : drawsOk PP cfg okD (codeOf Try.f9) = true := by kernel_rfl
theorem calls (p_0 : Sl) (k_1 : Int) {w : World} {R : Ending → World → Prop} (h : E std p_0 k_1 w R) : Calls PP F.impl_UpUnion #[Sl.v p_0, vI k_1] w R :=
  calls_of noCount mixed drawOk Try.func9 rfl (c := cfg) (args := [Sl.v p_0, vI k_1]) rfl (Nat.le_of_ble_eq_true (by kernel_rfl)) drawsOk h
end impl_UpUnion

namespace laws_FnExactUpUnion
@[reducible] def cfg : Cfg := ⟨28, [], [], [], [4], [], [62, 10, 22, 58, 24, 44, 18, 70, 43, 85, 25, 71, 59, 37, 63], [82, 113, 102, 38, 103, 26, 60]⟩
def E (pr : Prims) (aP_0 : Sl) (aK_1 : Int) (w : World) (R : Ending → World → Prop) : Prop :=
  wpC pr PP cfg (DD pr) (codeOf Try.f3) (retQ Try.f3.results.toList R) (argE 0 [Sl.v aP_0, vI aK_1]) w
theorem E_eq (pr : Prims) (aP_0 : Sl) (aK_1 : Int) (w : World) (R : Ending → World → Prop) : E pr aP_0 aK_1 w R = (
  bif decide ((aP_0.n : Int) > 1048576) then (
  R (.returned (.bool true)) w)
  else (
  pr.call1 .sl PP F.laws_toIntS #[Sl.v aP_0] w fun (ρ0 : Sl) ω1 =>
  pr.call1 (.int .i64) PP F.spec_UpUnion #[Sl.v ρ0, vI aK_1] ω1 fun (ρ2 : Int) ω3 =>
  pr.call1 .sl PP F.laws_toIntS #[Sl.v aP_0] ω3 fun (ρ4 : Sl) ω5 =>
  pr.call1 (.int .i64) PP F.impl_UpUnion #[Sl.v ρ4, vI aK_1] ω5 fun (ρ6 : Int) ω7 =>
  bif ρ6 != ρ2 then (
  R (.returned (.bool false)) ω7)
  else (
  pr.call1 .sl PP F.laws_toIntS #[Sl.v aP_0] ω7 fun (ρ8 : Sl) ω9 =>
  pr.call1 .bool PP F.laws_eqIntS #[Sl.v ρ4, Sl.v ρ8] ω9 fun (ρ10 : Bool) ω11 =>
  bif !ρ10 then (
  R (.returned (.bool false)) ω11)
  else (
  R (.returned (.bool true)) ω11)))) := by kernel_rfl
theorem E_s (aP_0 : Sl) (aK_1 : Int) (w : World) (R : Ending → World → Prop) : E std aP_0 aK_1 w R = (
  bif decide ((aP_0.n : Int) > 1048576) then (
  R (.returned (.bool true)) w)
  else (
  call1 .sl PP F.laws_toIntS #[Sl.v aP_0] w fun (ρ0 : Sl) ω1 =>
  call1 (.int .i64) PP F.spec_UpUnion #[Sl.v ρ0, vI aK_1] ω1 fun (ρ2 : Int) ω3 =>
  call1 .sl PP F.laws_toIntS #[Sl.v aP_0] ω3 fun (ρ4 : Sl) ω5 =>
  call1 (.int .i64) PP F.impl_UpUnion #[Sl.v ρ4, vI aK_1] ω5 fun (ρ6 : Int) ω7 =>
  bif ρ6 != ρ2 then (
  R (.returned (.bool false)) ω7)
  else (
  call1 .sl PP F.laws_toIntS #[Sl.v aP_0] ω7 fun (ρ8 : Sl) ω9 =>
  call1 .bool PP F.laws_eqIntS #[Sl.v ρ4, Sl.v ρ8] ω9 fun (ρ10 : Bool) ω11 =>
  bif !ρ10 then (
  R (.returned (.bool false)) ω11)
  else (
  R (.returned (.bool true)) ω11)))) := E_eq std aP_0 aK_1 w R
theorem drawsOk : drawsOk PP cfg okD (codeOf Try.f3) = true := by kernel_rfl
theorem calls (aP_0 : Sl) (aK_1 : Int) {w : World} {R : Ending → World → Prop} (h : E std aP_0 aK_1 w R) : Calls PP F.laws_FnExactUpUnion #[Sl.v aP_0, vI aK_1] w R :=
  calls_of noCount mixed drawOk Try.func3 rfl (c := cfg) (args := [Sl.v aP_0, vI aK_1]) rfl (Nat.le_of_ble_eq_true (by kernel_rfl)) drawsOk h
end laws_FnExactUpUnion

end Go.Proofs.Ytmhgjfahgemblaa
