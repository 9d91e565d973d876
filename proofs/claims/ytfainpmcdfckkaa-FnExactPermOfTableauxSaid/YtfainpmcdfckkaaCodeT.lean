/- What each function does, step by step, written by a program (Gen.lean); each equation is checked by the kernel. -/
import Derived.Test.YtfainpmcdfckkaaHead
namespace Go.Proofs.Ytfainpmcdfckkaa
open Go
set_option linter.unusedVariables false
set_option maxRecDepth 100000
namespace impl_form
@[reducible] def cfg : Cfg := ⟨20, [(3, [3, 7, 8, 9])], [(1, [3, 7, 8, 9]), (0, [3])], [], [2], [], [91, 60, 17, 21, 24, 26, 65, 27, 82, 64, 85, 108, 78, 53, 51], [86, 52, 88]⟩
def q2 (pr : Prims) (R : Ending → World → Prop) : Exit → Env → World → Prop := fun ex e w => normQ ex (fun e w => contE pr cfg (sub (codeOf Try.f67) [1, 1, 1]) (fun e w => wpC pr PP cfg (DD pr) (sub (codeOf Try.f67) [1, 1, 1]) (retQ Try.f67.results.toList R) e w) e w) (retQ Try.f67.results.toList R) e w
def q3 (pr : Prims) (R : Ending → World → Prop) : Exit → Env → World → Prop := fun ex e w => blockQ ex 0 (q2 pr R) e w
def emb3 (out_3 : Sl) (t7 : Sl) (t8 : Int) (t9 : Int) : Env := [(3, Sl.v out_3), (7, Sl.v t7), (8, vI t8), (9, vI t9)]
def x0 (out_3 : Sl) : Env := [(3, Sl.v out_3)]
def S3 (pr : Prims) (Q : Exit → Env → World → Prop) : (Env → World → Prop) → Env → World → Prop := fun k e w => wpC pr PP cfg (DD pr) (sub (codeOf Try.f67) [1, 1, 0, 1, 0, 0]) (fun ex e w => normQ ex (fun e' w' => k (Env.restr e' (lookN cfg.loops (keyOf (sub (codeOf Try.f67) [1, 1, 0, 1, 0, 0])))) w') Q e w) e w
def B3 (pr : Prims) (out_3 : Sl) (t7 : Sl) (t8 : Int) (t9 : Int) (w : World) (k : Env → World → Prop) (Q : Exit → Env → World → Prop) : Prop :=
  S3 pr Q k (emb3 out_3 t7 t8 t9) w
def L3 (pr : Prims) (out_3 : Sl) (t7 : Sl) (t8 : Int) (t9 : Int) (w : World) (Q : Exit → Env → World → Prop) : Prop :=
  pr.loop (S3 pr Q) (emb3 out_3 t7 t8 t9) w
def E (pr : Prims) (t_0 : Sl) (w : World) (R : Ending → World → Prop) : Prop :=
  wpC pr PP cfg (DD pr) (codeOf Try.f67) (retQ Try.f67.results.toList R) (argE 0 [Sl.v t_0]) w
theorem B3_eq (pr : Prims) (out_3 : Sl) (t7 : Sl) (t8 : Int) (t9 : Int) (w : World) (k : Env → World → Prop) (Q : Exit → Env → World → Prop) : B3 pr out_3 t7 t8 t9 w k Q = (
  bif decide (t9 < t8) then (
  pr.idxK 1 t7 t9 fun (a4 : Addr) =>
  pr.load1 .sl a4 w fun (ξ5 : Sl) =>
  pr.sem1 .sl PP (Instr.buildSlice T_Sint 1 #[(0, vI (ξ5.n : Int))]) w fun (ρ6 : Sl) ω7 =>
  pr.sem1 .sl PP (Builtin.append_ #[T_Sint, T_Sint] T_Sint #[Sl.v out_3, Sl.v ρ6]) ω7 fun (ρ8 : Sl) ω9 =>
  k (emb3 ρ8 t7 t8 (w64 (t9 + 1))) ω9)
  else (
  Q (.exit 0) (x0 out_3) w)) := by kernel_rfl
theorem B3_s (out_3 : Sl) (t7 : Sl) (t8 : Int) (t9 : Int) (w : World) (k : Env → World → Prop) (Q : Exit → Env → World → Prop) : B3 std out_3 t7 t8 t9 w k Q = (
  bif decide (t9 < t8) then (
  idxK 1 t7 t9 fun (a4 : Addr) =>
  load1 .sl a4 w fun (ξ5 : Sl) =>
  sem1 .sl PP (Instr.buildSlice T_Sint 1 #[(0, vI (ξ5.n : Int))]) w fun (ρ6 : Sl) ω7 =>
  sem1 .sl PP (Builtin.append_ #[T_Sint, T_Sint] T_Sint #[Sl.v out_3, Sl.v ρ6]) ω7 fun (ρ8 : Sl) ω9 =>
  k (emb3 ρ8 t7 t8 (w64 (t9 + 1))) ω9)
  else (
  Q (.exit 0) (x0 out_3) w)) := B3_eq std out_3 t7 t8 t9 w k Q
theorem L3_rule (out_3 : Sl) (t7 : Sl) (t8 : Int) (t9 : Int) (w : World) (Q : Exit → Env → World → Prop) (I : Sl → Int → World → Prop) (μ : Sl → Int → World → Nat) (h0 : I out_3 t9 w)
    (h : ∀ (out_3 : Sl) (t9 : Int) (w' : World), I out_3 t9 w' → B3 std out_3 t7 t8 t9 w' (fun e2 w2 => ∃ out_3_n t9_n, e2 = emb3 out_3_n t7 t8 t9_n ∧ I out_3_n t9_n w2 ∧ μ out_3_n t9_n w2 < μ out_3 t9 w') Q) :
    L3 std out_3 t7 t8 t9 w Q := by
  unfold L3
  refine LoopE.intro (σ := Sl × Int) (step := S3 std Q) (fun s => emb3 s.1 t7 t8 s.2) (fun s w => I s.1 s.2 w) (fun s w => μ s.1 s.2 w) (out_3, t9) rfl h0 ?_
  intro s w' hI
  have h1 := h s.1 s.2 w' hI
  unfold B3 at h1
  simp only [Prod.exists]
  exact h1
theorem A3_0_eq (pr : Prims) (out_3 : Sl) (w : World) (R : Ending → World → Prop) : (q3 pr R) (.exit 0) (x0 out_3) w = (
  R (.returned (Sl.v out_3)) w) := by kernel_rfl
theorem A3_0_s (out_3 : Sl) (w : World) (R : Ending → World → Prop) : (q3 std R) (.exit 0) (x0 out_3) w = (
  R (.returned (Sl.v out_3)) w) := A3_0_eq std out_3 w R
theorem E_eq (pr : Prims) (t_0 : Sl) (w : World) (R : Ending → World → Prop) : E pr t_0 w R = (
  pr.sem1 .sl PP (Instr.buildSlice T_Sint 0 #[]) w fun (ρ0 : Sl) ω1 =>
  L3 pr ρ0 t_0 (t_0.n : Int) 0 ω1 (q3 pr R)) := by kernel_rfl
theorem E_s (t_0 : Sl) (w : World) (R : Ending → World → Prop) : E std t_0 w R = (
  sem1 .sl PP (Instr.buildSlice T_Sint 0 #[]) w fun (ρ0 : Sl) ω1 =>
  L3 std ρ0 t_0 (t_0.n : Int) 0 ω1 (q3 std R)) := E_eq std t_0 w R
theorem drawsOk : drawsOk PP cfg okD (codeOf Try.f67) = true := by kernel_rfl
theorem calls (t_0 : Sl) {w : World} {R : Ending → World → Prop} (h : E std t_0 w R) : Calls PP F.impl_form #[Sl.v t_0] w R :=
  calls_of noCount mixed drawOk Try.func67 rfl (c := cfg) (args := [Sl.v t_0]) rfl (Nat.le_of_ble_eq_true (by kernel_rfl)) drawsOk h
end impl_form

namespace spec_l19Lengths
@[reducible] def cfg : Cfg := ⟨21, [(3, [0, 3, 4])], [(1, [0, 3, 4]), (0, [3])], [], [2], [], [91, 60, 17, 21, 24, 26, 65, 27, 82, 64, 85, 108, 78, 53, 51], [86, 52, 88]⟩
def q2 (pr : Prims) (R : Ending → World → Prop) : Exit → Env → World → Prop := fun ex e w => normQ ex (fun e w => contE pr cfg (sub (codeOf Try.f66) [1, 1, 1]) (fun e w => wpC pr PP cfg (DD pr) (sub (codeOf Try.f66) [1, 1, 1]) (retQ Try.f66.results.toList R) e w) e w) (retQ Try.f66.results.toList R) e w
def q3 (pr : Prims) (R : Ending → World → Prop) : Exit → Env → World → Prop := fun ex e w => blockQ ex 0 (q2 pr R) e w
def emb3 (t_0 : Sl) (out_3 : Sl) (k_4 : Int) : Env := [(0, Sl.v t_0), (3, Sl.v out_3), (4, vI k_4)]
def x0 (out_3 : Sl) : Env := [(3, Sl.v out_3)]
def S3 (pr : Prims) (Q : Exit → Env → World → Prop) : (Env → World → Prop) → Env → World → Prop := fun k e w => wpC pr PP cfg (DD pr) (sub (codeOf Try.f66) [1, 1, 0, 1, 0, 0]) (fun ex e w => normQ ex (fun e' w' => k (Env.restr e' (lookN cfg.loops (keyOf (sub (codeOf Try.f66) [1, 1, 0, 1, 0, 0])))) w') Q e w) e w
def B3 (pr : Prims) (t_0 : Sl) (out_3 : Sl) (k_4 : Int) (w : World) (k : Env → World → Prop) (Q : Exit → Env → World → Prop) : Prop :=
  S3 pr Q k (emb3 t_0 out_3 k_4) w
def L3 (pr : Prims) (t_0 : Sl) (out_3 : Sl) (k_4 : Int) (w : World) (Q : Exit → Env → World → Prop) : Prop :=
  pr.loop (S3 pr Q) (emb3 t_0 out_3 k_4) w
def E (pr : Prims) (t_0 : Sl) (w : World) (R : Ending → World → Prop) : Prop :=
  wpC pr PP cfg (DD pr) (codeOf Try.f66) (retQ Try.f66.results.toList R) (argE 0 [Sl.v t_0]) w
theorem B3_eq (pr : Prims) (t_0 : Sl) (out_3 : Sl) (k_4 : Int) (w : World) (k : Env → World → Prop) (Q : Exit → Env → World → Prop) : B3 pr t_0 out_3 k_4 w k Q = (
  bif decide (k_4 < (t_0.n : Int)) then (
  pr.idxK 1 t_0 k_4 fun (a4 : Addr) =>
  pr.load1 .sl a4 w fun (ξ5 : Sl) =>
  pr.sem1 .sl PP (Instr.buildSlice T_Sint 1 #[(0, vI (ξ5.n : Int))]) w fun (ρ6 : Sl) ω7 =>
  pr.sem1 .sl PP (Builtin.append_ #[T_Sint, T_Sint] T_Sint #[Sl.v out_3, Sl.v ρ6]) ω7 fun (ρ8 : Sl) ω9 =>
  k (emb3 t_0 ρ8 (w64 (k_4 + 1))) ω9)
  else (
  Q (.exit 0) (x0 out_3) w)) := by kernel_rfl
theorem B3_s (t_0 : Sl) (out_3 : Sl) (k_4 : Int) (w : World) (k : Env → World → Prop) (Q : Exit → Env → World → Prop) : B3 std t_0 out_3 k_4 w k Q = (
  bif decide (k_4 < (t_0.n : Int)) then (
  idxK 1 t_0 k_4 fun (a4 : Addr) =>
  load1 .sl a4 w fun (ξ5 : Sl) =>
  sem1 .sl PP (Instr.buildSlice T_Sint 1 #[(0, vI (ξ5.n : Int))]) w fun (ρ6 : Sl) ω7 =>
  sem1 .sl PP (Builtin.append_ #[T_Sint, T_Sint] T_Sint #[Sl.v out_3, Sl.v ρ6]) ω7 fun (ρ8 : Sl) ω9 =>
  k (emb3 t_0 ρ8 (w64 (k_4 + 1))) ω9)
  else (
  Q (.exit 0) (x0 out_3) w)) := B3_eq std t_0 out_3 k_4 w k Q
theorem L3_rule (t_0 : Sl) (out_3 : Sl) (k_4 : Int) (w : World) (Q : Exit → Env → World → Prop) (I : Sl → Int → World → Prop) (μ : Sl → Int → World → Nat) (h0 : I out_3 k_4 w)
    (h : ∀ (out_3 : Sl) (k_4 : Int) (w' : World), I out_3 k_4 w' → B3 std t_0 out_3 k_4 w' (fun e2 w2 => ∃ out_3_n k_4_n, e2 = emb3 t_0 out_3_n k_4_n ∧ I out_3_n k_4_n w2 ∧ μ out_3_n k_4_n w2 < μ out_3 k_4 w') Q) :
    L3 std t_0 out_3 k_4 w Q := by
  unfold L3
  refine LoopE.intro (σ := Sl × Int) (step := S3 std Q) (fun s => emb3 t_0 s.1 s.2) (fun s w => I s.1 s.2 w) (fun s w => μ s.1 s.2 w) (out_3, k_4) rfl h0 ?_
  intro s w' hI
  have h1 := h s.1 s.2 w' hI
  unfold B3 at h1
  simp only [Prod.exists]
  exact h1
theorem A3_0_eq (pr : Prims) (out_3 : Sl) (w : World) (R : Ending → World → Prop) : (q3 pr R) (.exit 0) (x0 out_3) w = (
  R (.returned (Sl.v out_3)) w) := by kernel_rfl
theorem A3_0_s (out_3 : Sl) (w : World) (R : Ending → World → Prop) : (q3 std R) (.exit 0) (x0 out_3) w = (
  R (.returned (Sl.v out_3)) w) := A3_0_eq std out_3 w R
theorem E_eq (pr : Prims) (t_0 : Sl) (w : World) (R : Ending → World → Prop) : E pr t_0 w R = (
  pr.sem1 .sl PP (Instr.buildSlice T_Sint 0 #[]) w fun (ρ0 : Sl) ω1 =>
  L3 pr t_0 ρ0 0 ω1 (q3 pr R)) := by kernel_rfl
theorem E_s (t_0 : Sl) (w : World) (R : Ending → World → Prop) : E std t_0 w R = (
  sem1 .sl PP (Instr.buildSlice T_Sint 0 #[]) w fun (ρ0 : Sl) ω1 =>
  L3 std t_0 ρ0 0 ω1 (q3 std R)) := E_eq std t_0 w R
theorem drawsOk : drawsOk PP cfg okD (codeOf Try.f66) = true := by kernel_rfl
theorem calls (t_0 : Sl) {w : World} {R : Ending → World → Prop} (h : E std t_0 w R) : Calls PP F.spec_l19Lengths #[Sl.v t_0] w R :=
  calls_of noCount mixed drawOk Try.func66 rfl (c := cfg) (args := [Sl.v t_0]) rfl (Nat.le_of_ble_eq_true (by kernel_rfl)) drawsOk h
end spec_l19Lengths

namespace impl_IsTableau
@[reducible] def cfg : Cfg := ⟨60, [(7, [0, 3, 4, 17, 18, 19, 24, 25, 26]), (4, [0, 17, 18, 19])], [(3, [0, 3, 4, 17, 18, 19, 24, 25, 26]), (2, [0, 17, 18, 19]), (1, [0, 17, 18, 19]), (0, [])], [], [2], [], [91, 60, 17, 21, 24, 26, 65, 27, 82, 64, 85, 108, 78, 53, 51], [86, 52, 88]⟩
def q8 (pr : Prims) (R : Ending → World → Prop) : Exit → Env → World → Prop := fun ex e w => normQ ex (fun e w => contE pr cfg (sub (codeOf Try.f30) [1, 1, 1]) (fun e w => wpC pr PP cfg (DD pr) (sub (codeOf Try.f30) [1, 1, 1]) (retQ Try.f30.results.toList R) e w) e w) (retQ Try.f30.results.toList R) e w
def q9 (pr : Prims) (R : Ending → World → Prop) : Exit → Env → World → Prop := fun ex e w => blockQ ex 0 (q8 pr R) e w
def q10 (pr : Prims) (k : Env → World → Prop) (Q : Exit → Env → World → Prop) : Exit → Env → World → Prop := fun ex e w => normQ ex (fun e w => contE pr cfg (sub (codeOf Try.f30) [1, 1, 0, 1, 0, 0, 1, 1, 1]) (fun e w => wpC pr PP cfg (DD pr) (sub (codeOf Try.f30) [1, 1, 0, 1, 0, 0, 1, 1, 1]) (fun ex e w => normQ ex (fun e' w' => k (Env.restr e' (lookN cfg.loops (keyOf (sub (codeOf Try.f30) [1, 1, 0, 1, 0, 0])))) w') Q e w) e w) e w) (fun ex e w => normQ ex (fun e' w' => k (Env.restr e' (lookN cfg.loops (keyOf (sub (codeOf Try.f30) [1, 1, 0, 1, 0, 0])))) w') Q e w) e w
def q11 (pr : Prims) (k : Env → World → Prop) (Q : Exit → Env → World → Prop) : Exit → Env → World → Prop := fun ex e w => blockQ ex 1 (q10 pr k Q) e w
def q14 (pr : Prims) (k : Env → World → Prop) (Q : Exit → Env → World → Prop) : Exit → Env → World → Prop := fun ex e w => blockQ ex 2 (q11 pr k Q) e w
def emb4 (t_0 : Sl) (t17 : Sl) (t18 : Int) (t19 : Int) : Env := [(0, Sl.v t_0), (17, Sl.v t17), (18, vI t18), (19, vI t19)]
def emb7 (t_0 : Sl) (i_3 : Int) (row_4 : Sl) (t17 : Sl) (t18 : Int) (t19 : Int) (t24 : Sl) (t25 : Int) (t26 : Int) : Env := [(0, Sl.v t_0), (3, vI i_3), (4, Sl.v row_4), (17, Sl.v t17), (18, vI t18), (19, vI t19), (24, Sl.v t24), (25, vI t25), (26, vI t26)]
def x2 (t_0 : Sl) (t17 : Sl) (t18 : Int) (t19 : Int) : Env := [(0, Sl.v t_0), (17, Sl.v t17), (18, vI t18), (19, vI t19)]
def x0 : Env := []
def S7 (pr : Prims) (Q : Exit → Env → World → Prop) : (Env → World → Prop) → Env → World → Prop := fun k e w => wpC pr PP cfg (DD pr) (sub (codeOf Try.f30) [1, 1, 0, 1, 0, 0, 1, 1, 0, 0, 1, 1, 0, 0]) (fun ex e w => normQ ex (fun e' w' => k (Env.restr e' (lookN cfg.loops (keyOf (sub (codeOf Try.f30) [1, 1, 0, 1, 0, 0, 1, 1, 0, 0, 1, 1, 0, 0])))) w') Q e w) e w
def S4 (pr : Prims) (Q : Exit → Env → World → Prop) : (Env → World → Prop) → Env → World → Prop := fun k e w => wpC pr PP cfg (DD pr) (sub (codeOf Try.f30) [1, 1, 0, 1, 0, 0]) (fun ex e w => normQ ex (fun e' w' => k (Env.restr e' (lookN cfg.loops (keyOf (sub (codeOf Try.f30) [1, 1, 0, 1, 0, 0])))) w') Q e w) e w
def B7 (pr : Prims) (t_0 : Sl) (i_3 : Int) (row_4 : Sl) (t17 : Sl) (t18 : Int) (t19 : Int) (t24 : Sl) (t25 : Int) (t26 : Int) (w : World) (k : Env → World → Prop) (Q : Exit → Env → World → Prop) : Prop :=
  S7 pr Q k (emb7 t_0 i_3 row_4 t17 t18 t19 t24 t25 t26) w
def L7 (pr : Prims) (t_0 : Sl) (i_3 : Int) (row_4 : Sl) (t17 : Sl) (t18 : Int) (t19 : Int) (t24 : Sl) (t25 : Int) (t26 : Int) (w : World) (Q : Exit → Env → World → Prop) : Prop :=
  pr.loop (S7 pr Q) (emb7 t_0 i_3 row_4 t17 t18 t19 t24 t25 t26) w
def B4 (pr : Prims) (t_0 : Sl) (t17 : Sl) (t18 : Int) (t19 : Int) (w : World) (k : Env → World → Prop) (Q : Exit → Env → World → Prop) : Prop :=
  S4 pr Q k (emb4 t_0 t17 t18 t19) w
def L4 (pr : Prims) (t_0 : Sl) (t17 : Sl) (t18 : Int) (t19 : Int) (w : World) (Q : Exit → Env → World → Prop) : Prop :=
  pr.loop (S4 pr Q) (emb4 t_0 t17 t18 t19) w
def E (pr : Prims) (t_0 : Sl) (w : World) (R : Ending → World → Prop) : Prop :=
  wpC pr PP cfg (DD pr) (codeOf Try.f30) (retQ Try.f30.results.toList R) (argE 0 [Sl.v t_0]) w
theorem B7_eq (pr : Prims) (t_0 : Sl) (i_3 : Int) (row_4 : Sl) (t17 : Sl) (t18 : Int) (t19 : Int) (t24 : Sl) (t25 : Int) (t26 : Int) (w : World) (k : Env → World → Prop) (Q : Exit → Env → World → Prop) : B7 pr t_0 i_3 row_4 t17 t18 t19 t24 t25 t26 w k Q = (
  bif decide (t26 < t25) then (
  pr.idxK 1 t24 t26 fun (a15 : Addr) =>
  pr.load1 (.int .i64) a15 w fun (ξ16 : Int) =>
  bif decide (t26 > 0) then (
  pr.idxK 1 row_4 (w64 (t26 - 1)) fun (a17 : Addr) =>
  pr.load1 (.int .i64) a17 w fun (ξ18 : Int) =>
  bif decide (ξ18 > ξ16) then (
  Q .ret [(2, .bool false)] w)
  else (
  bif decide (i_3 > 0) then (
  pr.idxK 1 t_0 (w64 (i_3 - 1)) fun (a19 : Addr) =>
  pr.load1 .sl a19 w fun (ξ20 : Sl) =>
  pr.idxK 1 ξ20 t26 fun (a21 : Addr) =>
  pr.load1 (.int .i64) a21 w fun (ξ22 : Int) =>
  bif decide (ξ22 > ξ16) then (
  Q .ret [(2, .bool false)] w)
  else (
  k (emb7 t_0 i_3 row_4 t17 t18 t19 t24 t25 (w64 (t26 + 1))) w))
  else (
  k (emb7 t_0 i_3 row_4 t17 t18 t19 t24 t25 (w64 (t26 + 1))) w)))
  else (
  bif decide (i_3 > 0) then (
  pr.idxK 1 t_0 (w64 (i_3 - 1)) fun (a23 : Addr) =>
  pr.load1 .sl a23 w fun (ξ24 : Sl) =>
  pr.idxK 1 ξ24 t26 fun (a25 : Addr) =>
  pr.load1 (.int .i64) a25 w fun (ξ26 : Int) =>
  bif decide (ξ26 > ξ16) then (
  Q .ret [(2, .bool false)] w)
  else (
  k (emb7 t_0 i_3 row_4 t17 t18 t19 t24 t25 (w64 (t26 + 1))) w))
  else (
  k (emb7 t_0 i_3 row_4 t17 t18 t19 t24 t25 (w64 (t26 + 1))) w)))
  else (
  Q (.exit 2) (x2 t_0 t17 t18 t19) w)) := by kernel_rfl
theorem B7_s (t_0 : Sl) (i_3 : Int) (row_4 : Sl) (t17 : Sl) (t18 : Int) (t19 : Int) (t24 : Sl) (t25 : Int) (t26 : Int) (w : World) (k : Env → World → Prop) (Q : Exit → Env → World → Prop) : B7 std t_0 i_3 row_4 t17 t18 t19 t24 t25 t26 w k Q = (
  bif decide (t26 < t25) then (
  idxK 1 t24 t26 fun (a15 : Addr) =>
  load1 (.int .i64) a15 w fun (ξ16 : Int) =>
  bif decide (t26 > 0) then (
  idxK 1 row_4 (w64 (t26 - 1)) fun (a17 : Addr) =>
  load1 (.int .i64) a17 w fun (ξ18 : Int) =>
  bif decide (ξ18 > ξ16) then (
  Q .ret [(2, .bool false)] w)
  else (
  bif decide (i_3 > 0) then (
  idxK 1 t_0 (w64 (i_3 - 1)) fun (a19 : Addr) =>
  load1 .sl a19 w fun (ξ20 : Sl) =>
  idxK 1 ξ20 t26 fun (a21 : Addr) =>
  load1 (.int .i64) a21 w fun (ξ22 : Int) =>
  bif decide (ξ22 > ξ16) then (
  Q .ret [(2, .bool false)] w)
  else (
  k (emb7 t_0 i_3 row_4 t17 t18 t19 t24 t25 (w64 (t26 + 1))) w))
  else (
  k (emb7 t_0 i_3 row_4 t17 t18 t19 t24 t25 (w64 (t26 + 1))) w)))
  else (
  bif decide (i_3 > 0) then (
  idxK 1 t_0 (w64 (i_3 - 1)) fun (a23 : Addr) =>
  load1 .sl a23 w fun (ξ24 : Sl) =>
  idxK 1 ξ24 t26 fun (a25 : Addr) =>
  load1 (.int .i64) a25 w fun (ξ26 : Int) =>
  bif decide (ξ26 > ξ16) then (
  Q .ret [(2, .bool false)] w)
  else (
  k (emb7 t_0 i_3 row_4 t17 t18 t19 t24 t25 (w64 (t26 + 1))) w))
  else (
  k (emb7 t_0 i_3 row_4 t17 t18 t19 t24 t25 (w64 (t26 + 1))) w)))
  else (
  Q (.exit 2) (x2 t_0 t17 t18 t19) w)) := B7_eq std t_0 i_3 row_4 t17 t18 t19 t24 t25 t26 w k Q
theorem L7_rule (t_0 : Sl) (i_3 : Int) (row_4 : Sl) (t17 : Sl) (t18 : Int) (t19 : Int) (t24 : Sl) (t25 : Int) (t26 : Int) (w : World) (Q : Exit → Env → World → Prop) (I : Int → World → Prop) (μ : Int → World → Nat) (h0 : I t26 w)
    (h : ∀ (t26 : Int) (w' : World), I t26 w' → B7 std t_0 i_3 row_4 t17 t18 t19 t24 t25 t26 w' (fun e2 w2 => ∃ t26_n, e2 = emb7 t_0 i_3 row_4 t17 t18 t19 t24 t25 t26_n ∧ I t26_n w2 ∧ μ t26_n w2 < μ t26 w') Q) :
    L7 std t_0 i_3 row_4 t17 t18 t19 t24 t25 t26 w Q := by
  unfold L7
  refine LoopE.intro (σ := Int) (step := S7 std Q) (fun s => emb7 t_0 i_3 row_4 t17 t18 t19 t24 t25 s) (fun s w => I s w) (fun s w => μ s w) t26 rfl h0 ?_
  intro s w' hI
  have h1 := h s w' hI
  unfold B7 at h1
  exact h1
theorem A7_2_eq (pr : Prims) (t_0 : Sl) (t17 : Sl) (t18 : Int) (t19 : Int) (w : World) (k : Env → World → Prop) (Q : Exit → Env → World → Prop) : (q14 pr k Q) (.exit 2) (x2 t_0 t17 t18 t19) w = (
  k (emb4 t_0 t17 t18 (w64 (t19 + 1))) w) := by kernel_rfl
theorem A7_2_s (t_0 : Sl) (t17 : Sl) (t18 : Int) (t19 : Int) (w : World) (k : Env → World → Prop) (Q : Exit → Env → World → Prop) : (q14 std k Q) (.exit 2) (x2 t_0 t17 t18 t19) w = (
  k (emb4 t_0 t17 t18 (w64 (t19 + 1))) w) := A7_2_eq std t_0 t17 t18 t19 w k Q
theorem R7_eq (pr : Prims) (v2 : Value) (w : World) (k : Env → World → Prop) (Q : Exit → Env → World → Prop) : (q14 pr k Q) .ret [(2, v2)] w = (
  Q .ret [(2, v2)] w) := by kernel_rfl
theorem R7_s (v2 : Value) (w : World) (k : Env → World → Prop) (Q : Exit → Env → World → Prop) : (q14 std k Q) .ret [(2, v2)] w = (
  Q .ret [(2, v2)] w) := R7_eq std v2 w k Q
theorem B4_eq (pr : Prims) (t_0 : Sl) (t17 : Sl) (t18 : Int) (t19 : Int) (w : World) (k : Env → World → Prop) (Q : Exit → Env → World → Prop) : B4 pr t_0 t17 t18 t19 w k Q = (
  bif decide (t19 < t18) then (
  pr.idxK 1 t17 t19 fun (a12 : Addr) =>
  pr.load1 .sl a12 w fun (ξ13 : Sl) =>
  L7 pr t_0 t19 ξ13 t17 t18 t19 ξ13 (ξ13.n : Int) 0 w (q14 pr k Q))
  else (
  Q (.exit 0) (x0) w)) := by kernel_rfl
theorem B4_s (t_0 : Sl) (t17 : Sl) (t18 : Int) (t19 : Int) (w : World) (k : Env → World → Prop) (Q : Exit → Env → World → Prop) : B4 std t_0 t17 t18 t19 w k Q = (
  bif decide (t19 < t18) then (
  idxK 1 t17 t19 fun (a12 : Addr) =>
  load1 .sl a12 w fun (ξ13 : Sl) =>
  L7 std t_0 t19 ξ13 t17 t18 t19 ξ13 (ξ13.n : Int) 0 w (q14 std k Q))
  else (
  Q (.exit 0) (x0) w)) := B4_eq std t_0 t17 t18 t19 w k Q
theorem L4_rule (t_0 : Sl) (t17 : Sl) (t18 : Int) (t19 : Int) (w : World) (Q : Exit → Env → World → Prop) (I : Int → World → Prop) (μ : Int → World → Nat) (h0 : I t19 w)
    (h : ∀ (t19 : Int) (w' : World), I t19 w' → B4 std t_0 t17 t18 t19 w' (fun e2 w2 => ∃ t19_n, e2 = emb4 t_0 t17 t18 t19_n ∧ I t19_n w2 ∧ μ t19_n w2 < μ t19 w') Q) :
    L4 std t_0 t17 t18 t19 w Q := by
  unfold L4
  refine LoopE.intro (σ := Int) (step := S4 std Q) (fun s => emb4 t_0 t17 t18 s) (fun s w => I s w) (fun s w => μ s w) t19 rfl h0 ?_
  intro s w' hI
  have h1 := h s w' hI
  unfold B4 at h1
  exact h1
theorem A4_0_eq (pr : Prims) (w : World) (R : Ending → World → Prop) : (q9 pr R) (.exit 0) (x0) w = (
  R (.returned (.bool true)) w) := by kernel_rfl
theorem A4_0_s (w : World) (R : Ending → World → Prop) : (q9 std R) (.exit 0) (x0) w = (
  R (.returned (.bool true)) w) := A4_0_eq std w R
theorem R4_eq (pr : Prims) (v2 : Value) (w : World) (R : Ending → World → Prop) : (q9 pr R) .ret [(2, v2)] w = (
  R (.returned (v2)) w) := by kernel_rfl
theorem R4_s (v2 : Value) (w : World) (R : Ending → World → Prop) : (q9 std R) .ret [(2, v2)] w = (
  R (.returned (v2)) w) := R4_eq std v2 w R
theorem E_eq (pr : Prims) (t_0 : Sl) (w : World) (R : Ending → World → Prop) : E pr t_0 w R = (
  pr.call1 .sl PP F.impl_form #[Sl.v t_0] w fun (ρ0 : Sl) ω1 =>
  pr.call1 .bool PP F.impl_isForm #[Sl.v ρ0, vI 8] ω1 fun (ρ2 : Bool) ω3 =>
  bif !ρ2 then (
  R (.returned (.bool false)) ω3)
  else (
  pr.call1 .sl PP F.slices_Concat___int_int_ #[Sl.v t_0] ω3 fun (ρ4 : Sl) ω5 =>
  pr.call1 .bool PP F.impl_isPerm #[Sl.v ρ4] ω5 fun (ρ6 : Bool) ω7 =>
  bif !ρ6 then (
  R (.returned (.bool false)) ω7)
  else (
  L4 pr t_0 t_0 (t_0.n : Int) 0 ω7 (q9 pr R)))) := by kernel_rfl
theorem E_s (t_0 : Sl) (w : World) (R : Ending → World → Prop) : E std t_0 w R = (
  call1 .sl PP F.impl_form #[Sl.v t_0] w fun (ρ0 : Sl) ω1 =>
  call1 .bool PP F.impl_isForm #[Sl.v ρ0, vI 8] ω1 fun (ρ2 : Bool) ω3 =>
  bif !ρ2 then (
  R (.returned (.bool false)) ω3)
  else (
  call1 .sl PP F.slices_Concat___int_int_ #[Sl.v t_0] ω3 fun (ρ4 : Sl) ω5 =>
  call1 .bool PP F.impl_isPerm #[Sl.v ρ4] ω5 fun (ρ6 : Bool) ω7 =>
  bif !ρ6 then (
  R (.returned (.bool false)) ω7)
  else (
  L4 std t_0 t_0 (t_0.n : Int) 0 ω7 (q9 std R)))) := E_eq std t_0 w R
theorem drawsOk : drawsOk PP cfg okD (codeOf Try.f30) = true := by kernel_rfl
theorem calls (t_0 : Sl) {w : World} {R : Ending → World → Prop} (h : E std t_0 w R) : Calls PP F.impl_IsTableau #[Sl.v t_0] w R :=
  calls_of noCount mixed drawOk Try.func30 rfl (c := cfg) (args := [Sl.v t_0]) rfl (Nat.le_of_ble_eq_true (by kernel_rfl)) drawsOk h
end impl_IsTableau

namespace spec_IsTableau
@[reducible] def cfg : Cfg := ⟨80, [(8, [0, 3, 4, 5]), (5, [0, 3, 4])], [(3, [0, 3, 4, 5]), (2, [0, 3, 4]), (1, [0, 3, 4]), (0, [3])], [], [2], [10], [91, 60, 17, 21, 24, 26, 65, 27, 82, 64, 85, 108, 78, 53, 51], [86, 52, 88]⟩
def q6 (pr : Prims) (R : Ending → World → Prop) : Exit → Env → World → Prop := fun ex e w => normQ ex (fun e w => contE pr cfg (sub (codeOf Try.f28) [1, 1, 1, 1]) (fun e w => wpC pr PP cfg (DD pr) (sub (codeOf Try.f28) [1, 1, 1, 1]) (retQ Try.f28.results.toList R) e w) e w) (retQ Try.f28.results.toList R) e w
def q7 (pr : Prims) (R : Ending → World → Prop) : Exit → Env → World → Prop := fun ex e w => blockQ ex 0 (q6 pr R) e w
def q8 (pr : Prims) (k : Env → World → Prop) (Q : Exit → Env → World → Prop) : Exit → Env → World → Prop := fun ex e w => normQ ex (fun e w => contE pr cfg (sub (codeOf Try.f28) [1, 1, 1, 0, 1, 0, 0, 1, 1]) (fun e w => wpC pr PP cfg (DD pr) (sub (codeOf Try.f28) [1, 1, 1, 0, 1, 0, 0, 1, 1]) (fun ex e w => normQ ex (fun e' w' => k (Env.restr e' (lookN cfg.loops (keyOf (sub (codeOf Try.f28) [1, 1, 1, 0, 1, 0, 0])))) w') Q e w) e w) e w) (fun ex e w => normQ ex (fun e' w' => k (Env.restr e' (lookN cfg.loops (keyOf (sub (codeOf Try.f28) [1, 1, 1, 0, 1, 0, 0])))) w') Q e w) e w
def q9 (pr : Prims) (k : Env → World → Prop) (Q : Exit → Env → World → Prop) : Exit → Env → World → Prop := fun ex e w => blockQ ex 1 (q8 pr k Q) e w
def q10 (pr : Prims) (k : Env → World → Prop) (Q : Exit → Env → World → Prop) : Exit → Env → World → Prop := fun ex e w => blockQ ex 2 (q9 pr k Q) e w
def emb5 (t_0 : Sl) (all_3 : Sl) (r_4 : Int) : Env := [(0, Sl.v t_0), (3, Sl.v all_3), (4, vI r_4)]
def emb8 (t_0 : Sl) (all_3 : Sl) (r_4 : Int) (c_5 : Int) : Env := [(0, Sl.v t_0), (3, Sl.v all_3), (4, vI r_4), (5, vI c_5)]
def x2 (t_0 : Sl) (all_3 : Sl) (r_4 : Int) : Env := [(0, Sl.v t_0), (3, Sl.v all_3), (4, vI r_4)]
def x0 (all_3 : Sl) : Env := [(3, Sl.v all_3)]
def S8 (pr : Prims) (Q : Exit → Env → World → Prop) : (Env → World → Prop) → Env → World → Prop := fun k e w => wpC pr PP cfg (DD pr) (sub (codeOf Try.f28) [1, 1, 1, 0, 1, 0, 0, 1, 0, 0, 1, 0, 0]) (fun ex e w => normQ ex (fun e' w' => k (Env.restr e' (lookN cfg.loops (keyOf (sub (codeOf Try.f28) [1, 1, 1, 0, 1, 0, 0, 1, 0, 0, 1, 0, 0])))) w') Q e w) e w
def S5 (pr : Prims) (Q : Exit → Env → World → Prop) : (Env → World → Prop) → Env → World → Prop := fun k e w => wpC pr PP cfg (DD pr) (sub (codeOf Try.f28) [1, 1, 1, 0, 1, 0, 0]) (fun ex e w => normQ ex (fun e' w' => k (Env.restr e' (lookN cfg.loops (keyOf (sub (codeOf Try.f28) [1, 1, 1, 0, 1, 0, 0])))) w') Q e w) e w
def B8 (pr : Prims) (t_0 : Sl) (all_3 : Sl) (r_4 : Int) (c_5 : Int) (w : World) (k : Env → World → Prop) (Q : Exit → Env → World → Prop) : Prop :=
  S8 pr Q k (emb8 t_0 all_3 r_4 c_5) w
def L8 (pr : Prims) (t_0 : Sl) (all_3 : Sl) (r_4 : Int) (c_5 : Int) (w : World) (Q : Exit → Env → World → Prop) : Prop :=
  pr.loop (S8 pr Q) (emb8 t_0 all_3 r_4 c_5) w
def B5 (pr : Prims) (t_0 : Sl) (all_3 : Sl) (r_4 : Int) (w : World) (k : Env → World → Prop) (Q : Exit → Env → World → Prop) : Prop :=
  S5 pr Q k (emb5 t_0 all_3 r_4) w
def L5 (pr : Prims) (t_0 : Sl) (all_3 : Sl) (r_4 : Int) (w : World) (Q : Exit → Env → World → Prop) : Prop :=
  pr.loop (S5 pr Q) (emb5 t_0 all_3 r_4) w
def E (pr : Prims) (t_0 : Sl) (w : World) (R : Ending → World → Prop) : Prop :=
  wpC pr PP cfg (DD pr) (codeOf Try.f28) (retQ Try.f28.results.toList R) (argE 0 [Sl.v t_0]) w
theorem B8_eq (pr : Prims) (t_0 : Sl) (all_3 : Sl) (r_4 : Int) (c_5 : Int) (w : World) (k : Env → World → Prop) (Q : Exit → Env → World → Prop) : B8 pr t_0 all_3 r_4 c_5 w k Q = (
  pr.idxK 1 t_0 r_4 fun (a11 : Addr) =>
  pr.load1 .sl a11 w fun (ξ12 : Sl) =>
  bif decide (c_5 < (ξ12.n : Int)) then (
  bif decide (c_5 > 0) then (
  pr.idxK 1 t_0 r_4 fun (a13 : Addr) =>
  pr.load1 .sl a13 w fun (ξ14 : Sl) =>
  pr.idxK 1 ξ14 c_5 fun (a15 : Addr) =>
  pr.load1 (.int .i64) a15 w fun (ξ16 : Int) =>
  pr.idxK 1 t_0 r_4 fun (a17 : Addr) =>
  pr.load1 .sl a17 w fun (ξ18 : Sl) =>
  pr.idxK 1 ξ18 (w64 (c_5 - 1)) fun (a19 : Addr) =>
  pr.load1 (.int .i64) a19 w fun (ξ20 : Int) =>
  bif decide (ξ16 ≤ ξ20) then (
  pr.drewAll w fun ω21 =>
  Q .ret [(2, .bool false)] ω21)
  else (
  bif decide (r_4 > 0) then (
  pr.idxK 1 t_0 r_4 fun (a22 : Addr) =>
  pr.load1 .sl a22 w fun (ξ23 : Sl) =>
  pr.idxK 1 ξ23 c_5 fun (a24 : Addr) =>
  pr.load1 (.int .i64) a24 w fun (ξ25 : Int) =>
  pr.idxK 1 t_0 (w64 (r_4 - 1)) fun (a26 : Addr) =>
  pr.load1 .sl a26 w fun (ξ27 : Sl) =>
  pr.idxK 1 ξ27 c_5 fun (a28 : Addr) =>
  pr.load1 (.int .i64) a28 w fun (ξ29 : Int) =>
  pr.drewAll w fun ω30 =>
  bif decide (ξ25 ≤ ξ29) then (
  Q .ret [(2, .bool false)] ω30)
  else (
  pr.idxK 1 t_0 r_4 fun (a31 : Addr) =>
  pr.load1 .sl a31 ω30 fun (ξ32 : Sl) =>
  pr.idxK 1 ξ32 c_5 fun (a33 : Addr) =>
  pr.load1 (.int .i64) a33 ω30 fun (ξ34 : Int) =>
  pr.sem1 .sl PP (Instr.buildSlice T_Sint 1 #[(0, vI ξ34)]) ω30 fun (ρ35 : Sl) ω36 =>
  pr.sem1 .sl PP (Builtin.append_ #[T_Sint, T_Sint] T_Sint #[Sl.v all_3, Sl.v ρ35]) ω36 fun (ρ37 : Sl) ω38 =>
  k (emb8 t_0 ρ37 r_4 (w64 (c_5 + 1))) ω38))
  else (
  pr.drewAll w fun ω39 =>
  pr.idxK 1 t_0 r_4 fun (a40 : Addr) =>
  pr.load1 .sl a40 ω39 fun (ξ41 : Sl) =>
  pr.idxK 1 ξ41 c_5 fun (a42 : Addr) =>
  pr.load1 (.int .i64) a42 ω39 fun (ξ43 : Int) =>
  pr.sem1 .sl PP (Instr.buildSlice T_Sint 1 #[(0, vI ξ43)]) ω39 fun (ρ44 : Sl) ω45 =>
  pr.sem1 .sl PP (Builtin.append_ #[T_Sint, T_Sint] T_Sint #[Sl.v all_3, Sl.v ρ44]) ω45 fun (ρ46 : Sl) ω47 =>
  k (emb8 t_0 ρ46 r_4 (w64 (c_5 + 1))) ω47)))
  else (
  bif decide (r_4 > 0) then (
  pr.idxK 1 t_0 r_4 fun (a48 : Addr) =>
  pr.load1 .sl a48 w fun (ξ49 : Sl) =>
  pr.idxK 1 ξ49 c_5 fun (a50 : Addr) =>
  pr.load1 (.int .i64) a50 w fun (ξ51 : Int) =>
  pr.idxK 1 t_0 (w64 (r_4 - 1)) fun (a52 : Addr) =>
  pr.load1 .sl a52 w fun (ξ53 : Sl) =>
  pr.idxK 1 ξ53 c_5 fun (a54 : Addr) =>
  pr.load1 (.int .i64) a54 w fun (ξ55 : Int) =>
  pr.drewAll w fun ω56 =>
  bif decide (ξ51 ≤ ξ55) then (
  Q .ret [(2, .bool false)] ω56)
  else (
  pr.idxK 1 t_0 r_4 fun (a57 : Addr) =>
  pr.load1 .sl a57 ω56 fun (ξ58 : Sl) =>
  pr.idxK 1 ξ58 c_5 fun (a59 : Addr) =>
  pr.load1 (.int .i64) a59 ω56 fun (ξ60 : Int) =>
  pr.sem1 .sl PP (Instr.buildSlice T_Sint 1 #[(0, vI ξ60)]) ω56 fun (ρ61 : Sl) ω62 =>
  pr.sem1 .sl PP (Builtin.append_ #[T_Sint, T_Sint] T_Sint #[Sl.v all_3, Sl.v ρ61]) ω62 fun (ρ63 : Sl) ω64 =>
  k (emb8 t_0 ρ63 r_4 (w64 (c_5 + 1))) ω64))
  else (
  pr.drewAll w fun ω65 =>
  pr.idxK 1 t_0 r_4 fun (a66 : Addr) =>
  pr.load1 .sl a66 ω65 fun (ξ67 : Sl) =>
  pr.idxK 1 ξ67 c_5 fun (a68 : Addr) =>
  pr.load1 (.int .i64) a68 ω65 fun (ξ69 : Int) =>
  pr.sem1 .sl PP (Instr.buildSlice T_Sint 1 #[(0, vI ξ69)]) ω65 fun (ρ70 : Sl) ω71 =>
  pr.sem1 .sl PP (Builtin.append_ #[T_Sint, T_Sint] T_Sint #[Sl.v all_3, Sl.v ρ70]) ω71 fun (ρ72 : Sl) ω73 =>
  k (emb8 t_0 ρ72 r_4 (w64 (c_5 + 1))) ω73)))
  else (
  Q (.exit 2) (x2 t_0 all_3 r_4) w)) := by kernel_rfl
theorem B8_s (t_0 : Sl) (all_3 : Sl) (r_4 : Int) (c_5 : Int) (w : World) (k : Env → World → Prop) (Q : Exit → Env → World → Prop) : B8 std t_0 all_3 r_4 c_5 w k Q = (
  idxK 1 t_0 r_4 fun (a11 : Addr) =>
  load1 .sl a11 w fun (ξ12 : Sl) =>
  bif decide (c_5 < (ξ12.n : Int)) then (
  bif decide (c_5 > 0) then (
  idxK 1 t_0 r_4 fun (a13 : Addr) =>
  load1 .sl a13 w fun (ξ14 : Sl) =>
  idxK 1 ξ14 c_5 fun (a15 : Addr) =>
  load1 (.int .i64) a15 w fun (ξ16 : Int) =>
  idxK 1 t_0 r_4 fun (a17 : Addr) =>
  load1 .sl a17 w fun (ξ18 : Sl) =>
  idxK 1 ξ18 (w64 (c_5 - 1)) fun (a19 : Addr) =>
  load1 (.int .i64) a19 w fun (ξ20 : Int) =>
  bif decide (ξ16 ≤ ξ20) then (
  drewAll w fun ω21 =>
  Q .ret [(2, .bool false)] ω21)
  else (
  bif decide (r_4 > 0) then (
  idxK 1 t_0 r_4 fun (a22 : Addr) =>
  load1 .sl a22 w fun (ξ23 : Sl) =>
  idxK 1 ξ23 c_5 fun (a24 : Addr) =>
  load1 (.int .i64) a24 w fun (ξ25 : Int) =>
  idxK 1 t_0 (w64 (r_4 - 1)) fun (a26 : Addr) =>
  load1 .sl a26 w fun (ξ27 : Sl) =>
  idxK 1 ξ27 c_5 fun (a28 : Addr) =>
  load1 (.int .i64) a28 w fun (ξ29 : Int) =>
  drewAll w fun ω30 =>
  bif decide (ξ25 ≤ ξ29) then (
  Q .ret [(2, .bool false)] ω30)
  else (
  idxK 1 t_0 r_4 fun (a31 : Addr) =>
  load1 .sl a31 ω30 fun (ξ32 : Sl) =>
  idxK 1 ξ32 c_5 fun (a33 : Addr) =>
  load1 (.int .i64) a33 ω30 fun (ξ34 : Int) =>
  sem1 .sl PP (Instr.buildSlice T_Sint 1 #[(0, vI ξ34)]) ω30 fun (ρ35 : Sl) ω36 =>
  sem1 .sl PP (Builtin.append_ #[T_Sint, T_Sint] T_Sint #[Sl.v all_3, Sl.v ρ35]) ω36 fun (ρ37 : Sl) ω38 =>
  k (emb8 t_0 ρ37 r_4 (w64 (c_5 + 1))) ω38))
  else (
  drewAll w fun ω39 =>
  idxK 1 t_0 r_4 fun (a40 : Addr) =>
  load1 .sl a40 ω39 fun (ξ41 : Sl) =>
  idxK 1 ξ41 c_5 fun (a42 : Addr) =>
  load1 (.int .i64) a42 ω39 fun (ξ43 : Int) =>
  sem1 .sl PP (Instr.buildSlice T_Sint 1 #[(0, vI ξ43)]) ω39 fun (ρ44 : Sl) ω45 =>
  sem1 .sl PP (Builtin.append_ #[T_Sint, T_Sint] T_Sint #[Sl.v all_3, Sl.v ρ44]) ω45 fun (ρ46 : Sl) ω47 =>
  k (emb8 t_0 ρ46 r_4 (w64 (c_5 + 1))) ω47)))
  else (
  bif decide (r_4 > 0) then (
  idxK 1 t_0 r_4 fun (a48 : Addr) =>
  load1 .sl a48 w fun (ξ49 : Sl) =>
  idxK 1 ξ49 c_5 fun (a50 : Addr) =>
  load1 (.int .i64) a50 w fun (ξ51 : Int) =>
  idxK 1 t_0 (w64 (r_4 - 1)) fun (a52 : Addr) =>
  load1 .sl a52 w fun (ξ53 : Sl) =>
  idxK 1 ξ53 c_5 fun (a54 : Addr) =>
  load1 (.int .i64) a54 w fun (ξ55 : Int) =>
  drewAll w fun ω56 =>
  bif decide (ξ51 ≤ ξ55) then (
  Q .ret [(2, .bool false)] ω56)
  else (
  idxK 1 t_0 r_4 fun (a57 : Addr) =>
  load1 .sl a57 ω56 fun (ξ58 : Sl) =>
  idxK 1 ξ58 c_5 fun (a59 : Addr) =>
  load1 (.int .i64) a59 ω56 fun (ξ60 : Int) =>
  sem1 .sl PP (Instr.buildSlice T_Sint 1 #[(0, vI ξ60)]) ω56 fun (ρ61 : Sl) ω62 =>
  sem1 .sl PP (Builtin.append_ #[T_Sint, T_Sint] T_Sint #[Sl.v all_3, Sl.v ρ61]) ω62 fun (ρ63 : Sl) ω64 =>
  k (emb8 t_0 ρ63 r_4 (w64 (c_5 + 1))) ω64))
  else (
  drewAll w fun ω65 =>
  idxK 1 t_0 r_4 fun (a66 : Addr) =>
  load1 .sl a66 ω65 fun (ξ67 : Sl) =>
  idxK 1 ξ67 c_5 fun (a68 : Addr) =>
  load1 (.int .i64) a68 ω65 fun (ξ69 : Int) =>
  sem1 .sl PP (Instr.buildSlice T_Sint 1 #[(0, vI ξ69)]) ω65 fun (ρ70 : Sl) ω71 =>
  sem1 .sl PP (Builtin.append_ #[T_Sint, T_Sint] T_Sint #[Sl.v all_3, Sl.v ρ70]) ω71 fun (ρ72 : Sl) ω73 =>
  k (emb8 t_0 ρ72 r_4 (w64 (c_5 + 1))) ω73)))
  else (
  Q (.exit 2) (x2 t_0 all_3 r_4) w)) := B8_eq std t_0 all_3 r_4 c_5 w k Q
theorem L8_rule (t_0 : Sl) (all_3 : Sl) (r_4 : Int) (c_5 : Int) (w : World) (Q : Exit → Env → World → Prop) (I : Sl → Int → World → Prop) (μ : Sl → Int → World → Nat) (h0 : I all_3 c_5 w)
    (h : ∀ (all_3 : Sl) (c_5 : Int) (w' : World), I all_3 c_5 w' → B8 std t_0 all_3 r_4 c_5 w' (fun e2 w2 => ∃ all_3_n c_5_n, e2 = emb8 t_0 all_3_n r_4 c_5_n ∧ I all_3_n c_5_n w2 ∧ μ all_3_n c_5_n w2 < μ all_3 c_5 w') Q) :
    L8 std t_0 all_3 r_4 c_5 w Q := by
  unfold L8
  refine LoopE.intro (σ := Sl × Int) (step := S8 std Q) (fun s => emb8 t_0 s.1 r_4 s.2) (fun s w => I s.1 s.2 w) (fun s w => μ s.1 s.2 w) (all_3, c_5) rfl h0 ?_
  intro s w' hI
  have h1 := h s.1 s.2 w' hI
  unfold B8 at h1
  simp only [Prod.exists]
  exact h1
theorem A8_2_eq (pr : Prims) (t_0 : Sl) (all_3 : Sl) (r_4 : Int) (w : World) (k : Env → World → Prop) (Q : Exit → Env → World → Prop) : (q10 pr k Q) (.exit 2) (x2 t_0 all_3 r_4) w = (
  k (emb5 t_0 all_3 (w64 (r_4 + 1))) w) := by kernel_rfl
theorem A8_2_s (t_0 : Sl) (all_3 : Sl) (r_4 : Int) (w : World) (k : Env → World → Prop) (Q : Exit → Env → World → Prop) : (q10 std k Q) (.exit 2) (x2 t_0 all_3 r_4) w = (
  k (emb5 t_0 all_3 (w64 (r_4 + 1))) w) := A8_2_eq std t_0 all_3 r_4 w k Q
theorem R8_eq (pr : Prims) (v2 : Value) (w : World) (k : Env → World → Prop) (Q : Exit → Env → World → Prop) : (q10 pr k Q) .ret [(2, v2)] w = (
  Q .ret [(2, v2)] w) := by kernel_rfl
theorem R8_s (v2 : Value) (w : World) (k : Env → World → Prop) (Q : Exit → Env → World → Prop) : (q10 std k Q) .ret [(2, v2)] w = (
  Q .ret [(2, v2)] w) := R8_eq std v2 w k Q
theorem B5_eq (pr : Prims) (t_0 : Sl) (all_3 : Sl) (r_4 : Int) (w : World) (k : Env → World → Prop) (Q : Exit → Env → World → Prop) : B5 pr t_0 all_3 r_4 w k Q = (
  bif decide (r_4 < (t_0.n : Int)) then (
  L8 pr t_0 all_3 r_4 0 w (q10 pr k Q))
  else (
  Q (.exit 0) (x0 all_3) w)) := by kernel_rfl
theorem B5_s (t_0 : Sl) (all_3 : Sl) (r_4 : Int) (w : World) (k : Env → World → Prop) (Q : Exit → Env → World → Prop) : B5 std t_0 all_3 r_4 w k Q = (
  bif decide (r_4 < (t_0.n : Int)) then (
  L8 std t_0 all_3 r_4 0 w (q10 std k Q))
  else (
  Q (.exit 0) (x0 all_3) w)) := B5_eq std t_0 all_3 r_4 w k Q
theorem L5_rule (t_0 : Sl) (all_3 : Sl) (r_4 : Int) (w : World) (Q : Exit → Env → World → Prop) (I : Sl → Int → World → Prop) (μ : Sl → Int → World → Nat) (h0 : I all_3 r_4 w)
    (h : ∀ (all_3 : Sl) (r_4 : Int) (w' : World), I all_3 r_4 w' → B5 std t_0 all_3 r_4 w' (fun e2 w2 => ∃ all_3_n r_4_n, e2 = emb5 t_0 all_3_n r_4_n ∧ I all_3_n r_4_n w2 ∧ μ all_3_n r_4_n w2 < μ all_3 r_4 w') Q) :
    L5 std t_0 all_3 r_4 w Q := by
  unfold L5
  refine LoopE.intro (σ := Sl × Int) (step := S5 std Q) (fun s => emb5 t_0 s.1 s.2) (fun s w => I s.1 s.2 w) (fun s w => μ s.1 s.2 w) (all_3, r_4) rfl h0 ?_
  intro s w' hI
  have h1 := h s.1 s.2 w' hI
  unfold B5 at h1
  simp only [Prod.exists]
  exact h1
theorem A5_0_eq (pr : Prims) (all_3 : Sl) (w : World) (R : Ending → World → Prop) : (q7 pr R) (.exit 0) (x0 all_3) w = (
  pr.call1 .bool PP F.spec_IsPerm #[Sl.v all_3] w fun (ρ74 : Bool) ω75 =>
  R (.returned (.bool ρ74)) ω75) := by kernel_rfl
theorem A5_0_s (all_3 : Sl) (w : World) (R : Ending → World → Prop) : (q7 std R) (.exit 0) (x0 all_3) w = (
  call1 .bool PP F.spec_IsPerm #[Sl.v all_3] w fun (ρ74 : Bool) ω75 =>
  R (.returned (.bool ρ74)) ω75) := A5_0_eq std all_3 w R
theorem R5_eq (pr : Prims) (v2 : Value) (w : World) (R : Ending → World → Prop) : (q7 pr R) .ret [(2, v2)] w = (
  R (.returned (v2)) w) := by kernel_rfl
theorem R5_s (v2 : Value) (w : World) (R : Ending → World → Prop) : (q7 std R) .ret [(2, v2)] w = (
  R (.returned (v2)) w) := R5_eq std v2 w R
theorem E_eq (pr : Prims) (t_0 : Sl) (w : World) (R : Ending → World → Prop) : E pr t_0 w R = (
  pr.call1 .sl PP F.spec_l19Lengths #[Sl.v t_0] w fun (ρ0 : Sl) ω1 =>
  pr.call1 .bool PP F.spec_l19Form #[Sl.v ρ0, vI 8] ω1 fun (ρ2 : Bool) ω3 =>
  bif !ρ2 then (
  R (.returned (.bool false)) ω3)
  else (
  pr.sem1 .sl PP (Instr.buildSlice T_Sint 0 #[]) ω3 fun (ρ4 : Sl) ω5 =>
  L5 pr t_0 ρ4 0 ω5 (q7 pr R))) := by kernel_rfl
theorem E_s (t_0 : Sl) (w : World) (R : Ending → World → Prop) : E std t_0 w R = (
  call1 .sl PP F.spec_l19Lengths #[Sl.v t_0] w fun (ρ0 : Sl) ω1 =>
  call1 .bool PP F.spec_l19Form #[Sl.v ρ0, vI 8] ω1 fun (ρ2 : Bool) ω3 =>
  bif !ρ2 then (
  R (.returned (.bool false)) ω3)
  else (
  sem1 .sl PP (Instr.buildSlice T_Sint 0 #[]) ω3 fun (ρ4 : Sl) ω5 =>
  L5 std t_0 ρ4 0 ω5 (q7 std R))) := E_eq std t_0 w R
theorem drawsOk : drawsOk PP cfg okD (codeOf Try.f28) = true := by kernel_rfl
theorem calls (t_0 : Sl) {w : World} {R : Ending → World → Prop} (h : E std t_0 w R) : Calls PP F.spec_IsTableau #[Sl.v t_0] w R :=
  calls_of noCount mixed drawOk Try.func28 rfl (c := cfg) (args := [Sl.v t_0]) rfl (Nat.le_of_ble_eq_true (by kernel_rfl)) drawsOk h
end spec_IsTableau

namespace impl_FormOf
@[reducible] def cfg : Cfg := ⟨8, [], [], [], [2], [], [91, 60, 17, 21, 24, 26, 65, 27, 82, 64, 85, 108, 78, 53, 51], [86, 52, 88]⟩
def E (pr : Prims) (t_0 : Sl) (w : World) (R : Ending → World → Prop) : Prop :=
  wpC pr PP cfg (DD pr) (codeOf Try.f39) (retQ Try.f39.results.toList R) (argE 0 [Sl.v t_0]) w
theorem E_eq (pr : Prims) (t_0 : Sl) (w : World) (R : Ending → World → Prop) : E pr t_0 w R = (
  pr.call1 .bool PP F.impl_IsTableau #[Sl.v t_0] w fun (ρ0 : Bool) ω1 =>
  bif !ρ0 then (
  R (.returned (Sl.v Sl.nil)) ω1)
  else (
  pr.call1 .sl PP F.impl_form #[Sl.v t_0] ω1 fun (ρ2 : Sl) ω3 =>
  R (.returned (Sl.v ρ2)) ω3)) := by kernel_rfl
theorem E_s (t_0 : Sl) (w : World) (R : Ending → World → Prop) : E std t_0 w R = (
  call1 .bool PP F.impl_IsTableau #[Sl.v t_0] w fun (ρ0 : Bool) ω1 =>
  bif !ρ0 then (
  R (.returned (Sl.v Sl.nil)) ω1)
  else (
  call1 .sl PP F.impl_form #[Sl.v t_0] ω1 fun (ρ2 : Sl) ω3 =>
  R (.returned (Sl.v ρ2)) ω3)) := E_eq std t_0 w R
theorem drawsOk : drawsOk PP cfg okD (codeOf Try.f39) = true := by kernel_rfl
theorem calls (t_0 : Sl) {w : World} {R : Ending → World → Prop} (h : E std t_0 w R) : Calls PP F.impl_FormOf #[Sl.v t_0] w R :=
  calls_of noCount mixed drawOk Try.func39 rfl (c := cfg) (args := [Sl.v t_0]) rfl (Nat.le_of_ble_eq_true (by kernel_rfl)) drawsOk h
end impl_FormOf

namespace spec_FormOf
@[reducible] def cfg : Cfg := ⟨9, [], [], [], [2], [], [91, 60, 17, 21, 24, 26, 65, 27, 82, 64, 85, 108, 78, 53, 51], [86, 52, 88]⟩
def E (pr : Prims) (t_0 : Sl) (w : World) (R : Ending → World → Prop) : Prop :=
  wpC pr PP cfg (DD pr) (codeOf Try.f38) (retQ Try.f38.results.toList R) (argE 0 [Sl.v t_0]) w
theorem E_eq (pr : Prims) (t_0 : Sl) (w : World) (R : Ending → World → Prop) : E pr t_0 w R = (
  pr.call1 .bool PP F.spec_IsTableau #[Sl.v t_0] w fun (ρ0 : Bool) ω1 =>
  bif !ρ0 then (
  pr.sem1 .sl PP (Instr.buildSlice T_Sint 0 #[]) ω1 fun (ρ2 : Sl) ω3 =>
  R (.returned (Sl.v ρ2)) ω3)
  else (
  pr.call1 .sl PP F.spec_l19Lengths #[Sl.v t_0] ω1 fun (ρ4 : Sl) ω5 =>
  R (.returned (Sl.v ρ4)) ω5)) := by kernel_rfl
theorem E_s (t_0 : Sl) (w : World) (R : Ending → World → Prop) : E std t_0 w R = (
  call1 .bool PP F.spec_IsTableau #[Sl.v t_0] w fun (ρ0 : Bool) ω1 =>
  bif !ρ0 then (
  sem1 .sl PP (Instr.buildSlice T_Sint 0 #[]) ω1 fun (ρ2 : Sl) ω3 =>
  R (.returned (Sl.v ρ2)) ω3)
  else (
  call1 .sl PP F.spec_l19Lengths #[Sl.v t_0] ω1 fun (ρ4 : Sl) ω5 =>
  R (.returned (Sl.v ρ4)) ω5)) := E_eq std t_0 w R
theorem drawsOk : drawsOk PP cfg okD (codeOf Try.f38) = true := by kernel_rfl
theorem calls (t_0 : Sl) {w : World} {R : Ending → World → Prop} (h : E std t_0 w R) : Calls PP F.spec_FormOf #[Sl.v t_0] w R :=
  calls_of noCount mixed drawOk Try.func38 rfl (c := cfg) (args := [Sl.v t_0]) rfl (Nat.le_of_ble_eq_true (by kernel_rfl)) drawsOk h
end spec_FormOf

namespace impl_TurnTableau
@[reducible] def cfg : Cfg := ⟨46, [(8, [4, 13, 14, 15, 19, 20, 21]), (5, [4, 13, 14, 15])], [(3, [4, 13, 14, 15, 19, 20, 21]), (2, [4, 13, 14, 15]), (1, [4, 13, 14, 15]), (0, [4])], [(12, [4, 7, 8, 13, 14, 15, 19, 20, 21])], [2, 3], [], [91, 60, 17, 21, 24, 26, 65, 27, 82, 64, 85, 108, 78, 53, 51], [86, 52, 88]⟩
def q4 (pr : Prims) (R : Ending → World → Prop) : Exit → Env → World → Prop := fun ex e w => normQ ex (fun e w => contE pr cfg (sub (codeOf Try.f41) [1, 1, 1, 1]) (fun e w => wpC pr PP cfg (DD pr) (sub (codeOf Try.f41) [1, 1, 1, 1]) (retQ Try.f41.results.toList R) e w) e w) (retQ Try.f41.results.toList R) e w
def q5 (pr : Prims) (R : Ending → World → Prop) : Exit → Env → World → Prop := fun ex e w => blockQ ex 0 (q4 pr R) e w
def q6 (pr : Prims) (k : Env → World → Prop) (Q : Exit → Env → World → Prop) : Exit → Env → World → Prop := fun ex e w => normQ ex (fun e w => contE pr cfg (sub (codeOf Try.f41) [1, 1, 1, 0, 1, 0, 0, 1, 1, 1]) (fun e w => wpC pr PP cfg (DD pr) (sub (codeOf Try.f41) [1, 1, 1, 0, 1, 0, 0, 1, 1, 1]) (fun ex e w => normQ ex (fun e' w' => k (Env.restr e' (lookN cfg.loops (keyOf (sub (codeOf Try.f41) [1, 1, 1, 0, 1, 0, 0])))) w') Q e w) e w) e w) (fun ex e w => normQ ex (fun e' w' => k (Env.restr e' (lookN cfg.loops (keyOf (sub (codeOf Try.f41) [1, 1, 1, 0, 1, 0, 0])))) w') Q e w) e w
def q7 (pr : Prims) (k : Env → World → Prop) (Q : Exit → Env → World → Prop) : Exit → Env → World → Prop := fun ex e w => blockQ ex 1 (q6 pr k Q) e w
def q10 (pr : Prims) (k : Env → World → Prop) (Q : Exit → Env → World → Prop) : Exit → Env → World → Prop := fun ex e w => blockQ ex 2 (q7 pr k Q) e w
def q11 (pr : Prims) (k : Env → World → Prop) (Q : Exit → Env → World → Prop) : Exit → Env → World → Prop := fun ex e w => normQ ex (fun e w => contE pr cfg (sub (codeOf Try.f41) [1, 1, 1, 0, 1, 0, 0, 1, 1, 0, 0, 1, 1, 0, 0, 1, 1, 1]) (fun e w => wpC pr PP cfg (DD pr) (sub (codeOf Try.f41) [1, 1, 1, 0, 1, 0, 0, 1, 1, 0, 0, 1, 1, 0, 0, 1, 1, 1]) (fun ex e w => normQ ex (fun e' w' => k (Env.restr e' (lookN cfg.loops (keyOf (sub (codeOf Try.f41) [1, 1, 1, 0, 1, 0, 0, 1, 1, 0, 0, 1, 1, 0, 0])))) w') Q e w) e w) e w) (fun ex e w => normQ ex (fun e' w' => k (Env.restr e' (lookN cfg.loops (keyOf (sub (codeOf Try.f41) [1, 1, 1, 0, 1, 0, 0, 1, 1, 0, 0, 1, 1, 0, 0])))) w') Q e w) e w
def q12 (pr : Prims) (k : Env → World → Prop) (Q : Exit → Env → World → Prop) : Exit → Env → World → Prop := fun ex e w => blockQ ex 3 (q11 pr k Q) e w
def q15 (pr : Prims) (k : Env → World → Prop) (Q : Exit → Env → World → Prop) : Exit → Env → World → Prop := fun ex e w => normQ ex (fun e w => contE pr cfg (sub (codeOf Try.f41) [1, 1, 1, 0, 1, 0, 0, 1, 1, 0, 0, 1, 1, 0, 0, 1, 1, 0, 0, 1, 1]) (fun e w => wpC pr PP cfg (DD pr) (sub (codeOf Try.f41) [1, 1, 1, 0, 1, 0, 0, 1, 1, 0, 0, 1, 1, 0, 0, 1, 1, 0, 0, 1, 1]) (q12 pr k Q) e w) e w) (q12 pr k Q) e w
def emb5 (out_4 : Sl) (t13 : Sl) (t14 : Int) (t15 : Int) : Env := [(4, Sl.v out_4), (13, Sl.v t13), (14, vI t14), (15, vI t15)]
def emb8 (out_4 : Sl) (t13 : Sl) (t14 : Int) (t15 : Int) (t19 : Sl) (t20 : Int) (t21 : Int) : Env := [(4, Sl.v out_4), (13, Sl.v t13), (14, vI t14), (15, vI t15), (19, Sl.v t19), (20, vI t20), (21, vI t21)]
def j12 (out_4 : Sl) (j_7 : Int) (v_8 : Int) (t13 : Sl) (t14 : Int) (t15 : Int) (t19 : Sl) (t20 : Int) (t21 : Int) : Env := [(4, Sl.v out_4), (7, vI j_7), (8, vI v_8), (13, Sl.v t13), (14, vI t14), (15, vI t15), (19, Sl.v t19), (20, vI t20), (21, vI t21)]
def x2 (out_4 : Sl) (t13 : Sl) (t14 : Int) (t15 : Int) : Env := [(4, Sl.v out_4), (13, Sl.v t13), (14, vI t14), (15, vI t15)]
def x0 (out_4 : Sl) : Env := [(4, Sl.v out_4)]
def S8 (pr : Prims) (Q : Exit → Env → World → Prop) : (Env → World → Prop) → Env → World → Prop := fun k e w => wpC pr PP cfg (DD pr) (sub (codeOf Try.f41) [1, 1, 1, 0, 1, 0, 0, 1, 1, 0, 0, 1, 1, 0, 0]) (fun ex e w => normQ ex (fun e' w' => k (Env.restr e' (lookN cfg.loops (keyOf (sub (codeOf Try.f41) [1, 1, 1, 0, 1, 0, 0, 1, 1, 0, 0, 1, 1, 0, 0])))) w') Q e w) e w
def S5 (pr : Prims) (Q : Exit → Env → World → Prop) : (Env → World → Prop) → Env → World → Prop := fun k e w => wpC pr PP cfg (DD pr) (sub (codeOf Try.f41) [1, 1, 1, 0, 1, 0, 0]) (fun ex e w => normQ ex (fun e' w' => k (Env.restr e' (lookN cfg.loops (keyOf (sub (codeOf Try.f41) [1, 1, 1, 0, 1, 0, 0])))) w') Q e w) e w
def J12 (pr : Prims) (out_4 : Sl) (j_7 : Int) (v_8 : Int) (t13 : Sl) (t14 : Int) (t15 : Int) (t19 : Sl) (t20 : Int) (t21 : Int) (w : World) (k : Env → World → Prop) (Q : Exit → Env → World → Prop) : Prop :=
  pr.seg (fun e w => wpC pr PP cfg (DD pr) (sub (codeOf Try.f41) [1, 1, 1, 0, 1, 0, 0, 1, 1, 0, 0, 1, 1, 0, 0, 1, 1, 0, 0, 1, 1]) (q12 pr k Q) e w) (j12 out_4 j_7 v_8 t13 t14 t15 t19 t20 t21) w
def B8 (pr : Prims) (out_4 : Sl) (t13 : Sl) (t14 : Int) (t15 : Int) (t19 : Sl) (t20 : Int) (t21 : Int) (w : World) (k : Env → World → Prop) (Q : Exit → Env → World → Prop) : Prop :=
  S8 pr Q k (emb8 out_4 t13 t14 t15 t19 t20 t21) w
def L8 (pr : Prims) (out_4 : Sl) (t13 : Sl) (t14 : Int) (t15 : Int) (t19 : Sl) (t20 : Int) (t21 : Int) (w : World) (Q : Exit → Env → World → Prop) : Prop :=
  pr.loop (S8 pr Q) (emb8 out_4 t13 t14 t15 t19 t20 t21) w
def B5 (pr : Prims) (out_4 : Sl) (t13 : Sl) (t14 : Int) (t15 : Int) (w : World) (k : Env → World → Prop) (Q : Exit → Env → World → Prop) : Prop :=
  S5 pr Q k (emb5 out_4 t13 t14 t15) w
def L5 (pr : Prims) (out_4 : Sl) (t13 : Sl) (t14 : Int) (t15 : Int) (w : World) (Q : Exit → Env → World → Prop) : Prop :=
  pr.loop (S5 pr Q) (emb5 out_4 t13 t14 t15) w
def E (pr : Prims) (t_0 : Sl) (w : World) (R : Ending → World → Prop) : Prop :=
  wpC pr PP cfg (DD pr) (codeOf Try.f41) (retQ Try.f41.results.toList R) (argE 0 [Sl.v t_0]) w
theorem J12_gen (pr : Prims) (out_4 : Sl) (j_7 : Int) (v_8 : Int) (t13 : Sl) (t14 : Int) (t15 : Int) (t19 : Sl) (t20 : Int) (t21 : Int) (w : World) (k : Env → World → Prop) (Q : Exit → Env → World → Prop) : wpC pr PP cfg (DD pr) (sub (codeOf Try.f41) [1, 1, 1, 0, 1, 0, 0, 1, 1, 0, 0, 1, 1, 0, 0, 1, 1, 0, 0, 1, 1]) (q12 pr k Q) (j12 out_4 j_7 v_8 t13 t14 t15 t19 t20 t21) w = (
  pr.idxK 1 out_4 j_7 fun (a20 : Addr) =>
  pr.load1 .sl a20 w fun (ξ21 : Sl) =>
  pr.sem1 .sl PP (Instr.buildSlice T_Sint 1 #[(0, vI v_8)]) w fun (ρ22 : Sl) ω23 =>
  pr.sem1 .sl PP (Builtin.append_ #[T_Sint, T_Sint] T_Sint #[Sl.v ξ21, Sl.v ρ22]) ω23 fun (ρ24 : Sl) ω25 =>
  pr.idxK 1 out_4 j_7 fun (a26 : Addr) =>
  pr.storeC a26 (Sl.v ρ24) ω25 fun ω27 =>
  k (emb8 out_4 t13 t14 t15 t19 t20 (w64 (t21 + 1))) ω27) := by kernel_rfl
theorem J12_s (out_4 : Sl) (j_7 : Int) (v_8 : Int) (t13 : Sl) (t14 : Int) (t15 : Int) (t19 : Sl) (t20 : Int) (t21 : Int) (w : World) (k : Env → World → Prop) (Q : Exit → Env → World → Prop) : J12 std out_4 j_7 v_8 t13 t14 t15 t19 t20 t21 w k Q = (
  idxK 1 out_4 j_7 fun (a20 : Addr) =>
  load1 .sl a20 w fun (ξ21 : Sl) =>
  sem1 .sl PP (Instr.buildSlice T_Sint 1 #[(0, vI v_8)]) w fun (ρ22 : Sl) ω23 =>
  sem1 .sl PP (Builtin.append_ #[T_Sint, T_Sint] T_Sint #[Sl.v ξ21, Sl.v ρ22]) ω23 fun (ρ24 : Sl) ω25 =>
  idxK 1 out_4 j_7 fun (a26 : Addr) =>
  storeC a26 (Sl.v ρ24) ω25 fun ω27 =>
  k (emb8 out_4 t13 t14 t15 t19 t20 (w64 (t21 + 1))) ω27) := J12_gen std out_4 j_7 v_8 t13 t14 t15 t19 t20 t21 w k Q
theorem B8_eq (pr : Prims) (out_4 : Sl) (t13 : Sl) (t14 : Int) (t15 : Int) (t19 : Sl) (t20 : Int) (t21 : Int) (w : World) (k : Env → World → Prop) (Q : Exit → Env → World → Prop) : B8 pr out_4 t13 t14 t15 t19 t20 t21 w k Q = (
  bif decide (t21 < t20) then (
  pr.idxK 1 t19 t21 fun (a13 : Addr) =>
  pr.load1 (.int .i64) a13 w fun (ξ14 : Int) =>
  bif t21 == (out_4.n : Int) then (
  pr.sem1 .sl PP (Instr.buildSlice T_SSint 1 #[(0, Sl.v Sl.nil)]) w fun (ρ16 : Sl) ω17 =>
  pr.sem1 .sl PP (Builtin.append_ #[T_SSint, T_SSint] T_SSint #[Sl.v out_4, Sl.v ρ16]) ω17 fun (ρ18 : Sl) ω19 =>
  J12 pr ρ18 t21 ξ14 t13 t14 t15 t19 t20 t21 ω19 k Q)
  else (
  J12 pr out_4 t21 ξ14 t13 t14 t15 t19 t20 t21 w k Q))
  else (
  Q (.exit 2) (x2 out_4 t13 t14 t15) w)) := by kernel_rfl
theorem B8_s (out_4 : Sl) (t13 : Sl) (t14 : Int) (t15 : Int) (t19 : Sl) (t20 : Int) (t21 : Int) (w : World) (k : Env → World → Prop) (Q : Exit → Env → World → Prop) : B8 std out_4 t13 t14 t15 t19 t20 t21 w k Q = (
  bif decide (t21 < t20) then (
  idxK 1 t19 t21 fun (a13 : Addr) =>
  load1 (.int .i64) a13 w fun (ξ14 : Int) =>
  bif t21 == (out_4.n : Int) then (
  sem1 .sl PP (Instr.buildSlice T_SSint 1 #[(0, Sl.v Sl.nil)]) w fun (ρ16 : Sl) ω17 =>
  sem1 .sl PP (Builtin.append_ #[T_SSint, T_SSint] T_SSint #[Sl.v out_4, Sl.v ρ16]) ω17 fun (ρ18 : Sl) ω19 =>
  J12 std ρ18 t21 ξ14 t13 t14 t15 t19 t20 t21 ω19 k Q)
  else (
  J12 std out_4 t21 ξ14 t13 t14 t15 t19 t20 t21 w k Q))
  else (
  Q (.exit 2) (x2 out_4 t13 t14 t15) w)) := B8_eq std out_4 t13 t14 t15 t19 t20 t21 w k Q
theorem L8_rule (out_4 : Sl) (t13 : Sl) (t14 : Int) (t15 : Int) (t19 : Sl) (t20 : Int) (t21 : Int) (w : World) (Q : Exit → Env → World → Prop) (I : Sl → Int → World → Prop) (μ : Sl → Int → World → Nat) (h0 : I out_4 t21 w)
    (h : ∀ (out_4 : Sl) (t21 : Int) (w' : World), I out_4 t21 w' → B8 std out_4 t13 t14 t15 t19 t20 t21 w' (fun e2 w2 => ∃ out_4_n t21_n, e2 = emb8 out_4_n t13 t14 t15 t19 t20 t21_n ∧ I out_4_n t21_n w2 ∧ μ out_4_n t21_n w2 < μ out_4 t21 w') Q) :
    L8 std out_4 t13 t14 t15 t19 t20 t21 w Q := by
  unfold L8
  refine LoopE.intro (σ := Sl × Int) (step := S8 std Q) (fun s => emb8 s.1 t13 t14 t15 t19 t20 s.2) (fun s w => I s.1 s.2 w) (fun s w => μ s.1 s.2 w) (out_4, t21) rfl h0 ?_
  intro s w' hI
  have h1 := h s.1 s.2 w' hI
  unfold B8 at h1
  simp only [Prod.exists]
  exact h1
theorem A8_2_eq (pr : Prims) (out_4 : Sl) (t13 : Sl) (t14 : Int) (t15 : Int) (w : World) (k : Env → World → Prop) (Q : Exit → Env → World → Prop) : (q10 pr k Q) (.exit 2) (x2 out_4 t13 t14 t15) w = (
  k (emb5 out_4 t13 t14 (w64 (t15 + 1))) w) := by kernel_rfl
theorem A8_2_s (out_4 : Sl) (t13 : Sl) (t14 : Int) (t15 : Int) (w : World) (k : Env → World → Prop) (Q : Exit → Env → World → Prop) : (q10 std k Q) (.exit 2) (x2 out_4 t13 t14 t15) w = (
  k (emb5 out_4 t13 t14 (w64 (t15 + 1))) w) := A8_2_eq std out_4 t13 t14 t15 w k Q
theorem B5_eq (pr : Prims) (out_4 : Sl) (t13 : Sl) (t14 : Int) (t15 : Int) (w : World) (k : Env → World → Prop) (Q : Exit → Env → World → Prop) : B5 pr out_4 t13 t14 t15 w k Q = (
  bif decide (t15 < t14) then (
  pr.idxK 1 t13 t15 fun (a8 : Addr) =>
  pr.load1 .sl a8 w fun (ξ9 : Sl) =>
  L8 pr out_4 t13 t14 t15 ξ9 (ξ9.n : Int) 0 w (q10 pr k Q))
  else (
  Q (.exit 0) (x0 out_4) w)) := by kernel_rfl
theorem B5_s (out_4 : Sl) (t13 : Sl) (t14 : Int) (t15 : Int) (w : World) (k : Env → World → Prop) (Q : Exit → Env → World → Prop) : B5 std out_4 t13 t14 t15 w k Q = (
  bif decide (t15 < t14) then (
  idxK 1 t13 t15 fun (a8 : Addr) =>
  load1 .sl a8 w fun (ξ9 : Sl) =>
  L8 std out_4 t13 t14 t15 ξ9 (ξ9.n : Int) 0 w (q10 std k Q))
  else (
  Q (.exit 0) (x0 out_4) w)) := B5_eq std out_4 t13 t14 t15 w k Q
theorem L5_rule (out_4 : Sl) (t13 : Sl) (t14 : Int) (t15 : Int) (w : World) (Q : Exit → Env → World → Prop) (I : Sl → Int → World → Prop) (μ : Sl → Int → World → Nat) (h0 : I out_4 t15 w)
    (h : ∀ (out_4 : Sl) (t15 : Int) (w' : World), I out_4 t15 w' → B5 std out_4 t13 t14 t15 w' (fun e2 w2 => ∃ out_4_n t15_n, e2 = emb5 out_4_n t13 t14 t15_n ∧ I out_4_n t15_n w2 ∧ μ out_4_n t15_n w2 < μ out_4 t15 w') Q) :
    L5 std out_4 t13 t14 t15 w Q := by
  unfold L5
  refine LoopE.intro (σ := Sl × Int) (step := S5 std Q) (fun s => emb5 s.1 t13 t14 s.2) (fun s w => I s.1 s.2 w) (fun s w => μ s.1 s.2 w) (out_4, t15) rfl h0 ?_
  intro s w' hI
  have h1 := h s.1 s.2 w' hI
  unfold B5 at h1
  simp only [Prod.exists]
  exact h1
theorem A5_0_eq (pr : Prims) (out_4 : Sl) (w : World) (R : Ending → World → Prop) : (q5 pr R) (.exit 0) (x0 out_4) w = (
  R (.returned (.tuple #[Sl.v out_4, .bool true])) w) := by kernel_rfl
theorem A5_0_s (out_4 : Sl) (w : World) (R : Ending → World → Prop) : (q5 std R) (.exit 0) (x0 out_4) w = (
  R (.returned (.tuple #[Sl.v out_4, .bool true])) w) := A5_0_eq std out_4 w R
theorem E_eq (pr : Prims) (t_0 : Sl) (w : World) (R : Ending → World → Prop) : E pr t_0 w R = (
  pr.call1 .bool PP F.impl_IsTableau #[Sl.v t_0] w fun (ρ0 : Bool) ω1 =>
  bif !ρ0 then (
  R (.returned (.tuple #[Sl.v Sl.nil, .bool false])) ω1)
  else (
  pr.sem1 .sl PP (Instr.buildSlice T_SSint 0 #[]) ω1 fun (ρ2 : Sl) ω3 =>
  L5 pr ρ2 t_0 (t_0.n : Int) 0 ω3 (q5 pr R))) := by kernel_rfl
theorem E_s (t_0 : Sl) (w : World) (R : Ending → World → Prop) : E std t_0 w R = (
  call1 .bool PP F.impl_IsTableau #[Sl.v t_0] w fun (ρ0 : Bool) ω1 =>
  bif !ρ0 then (
  R (.returned (.tuple #[Sl.v Sl.nil, .bool false])) ω1)
  else (
  sem1 .sl PP (Instr.buildSlice T_SSint 0 #[]) ω1 fun (ρ2 : Sl) ω3 =>
  L5 std ρ2 t_0 (t_0.n : Int) 0 ω3 (q5 std R))) := E_eq std t_0 w R
theorem drawsOk : drawsOk PP cfg okD (codeOf Try.f41) = true := by kernel_rfl
theorem calls (t_0 : Sl) {w : World} {R : Ending → World → Prop} (h : E std t_0 w R) : Calls PP F.impl_TurnTableau #[Sl.v t_0] w R :=
  calls_of noCount mixed drawOk Try.func41 rfl (c := cfg) (args := [Sl.v t_0]) rfl (Nat.le_of_ble_eq_true (by kernel_rfl)) drawsOk h
end impl_TurnTableau

namespace spec_TurnTableau
@[reducible] def cfg : Cfg := ⟨57, [(9, [0, 4, 5, 6, 7]), (5, [0, 4, 5])], [(3, [0, 4, 5, 6, 7]), (2, [0, 4, 5, 6]), (1, [0, 4, 5]), (0, [4])], [], [2, 3], [], [91, 60, 17, 21, 24, 26, 65, 27, 82, 64, 85, 108, 78, 53, 51], [86, 52, 88]⟩
def q6 (pr : Prims) (R : Ending → World → Prop) : Exit → Env → World → Prop := fun ex e w => normQ ex (fun e w => contE pr cfg (sub (codeOf Try.f40) [1, 1, 1, 1]) (fun e w => wpC pr PP cfg (DD pr) (sub (codeOf Try.f40) [1, 1, 1, 1]) (retQ Try.f40.results.toList R) e w) e w) (retQ Try.f40.results.toList R) e w
def q7 (pr : Prims) (R : Ending → World → Prop) : Exit → Env → World → Prop := fun ex e w => blockQ ex 0 (q6 pr R) e w
def q10 (pr : Prims) (k : Env → World → Prop) (Q : Exit → Env → World → Prop) : Exit → Env → World → Prop := fun ex e w => normQ ex (fun e w => contE pr cfg (sub (codeOf Try.f40) [1, 1, 1, 0, 1, 0, 0, 1, 1]) (fun e w => wpC pr PP cfg (DD pr) (sub (codeOf Try.f40) [1, 1, 1, 0, 1, 0, 0, 1, 1]) (fun ex e w => normQ ex (fun e' w' => k (Env.restr e' (lookN cfg.loops (keyOf (sub (codeOf Try.f40) [1, 1, 1, 0, 1, 0, 0])))) w') Q e w) e w) e w) (fun ex e w => normQ ex (fun e' w' => k (Env.restr e' (lookN cfg.loops (keyOf (sub (codeOf Try.f40) [1, 1, 1, 0, 1, 0, 0])))) w') Q e w) e w
def q11 (pr : Prims) (k : Env → World → Prop) (Q : Exit → Env → World → Prop) : Exit → Env → World → Prop := fun ex e w => blockQ ex 1 (q10 pr k Q) e w
def q14 (pr : Prims) (k : Env → World → Prop) (Q : Exit → Env → World → Prop) : Exit → Env → World → Prop := fun ex e w => normQ ex (fun e w => contE pr cfg (sub (codeOf Try.f40) [1, 1, 1, 0, 1, 0, 0, 1, 0, 0, 1, 1]) (fun e w => wpC pr PP cfg (DD pr) (sub (codeOf Try.f40) [1, 1, 1, 0, 1, 0, 0, 1, 0, 0, 1, 1]) (q11 pr k Q) e w) e w) (q11 pr k Q) e w
def q15 (pr : Prims) (k : Env → World → Prop) (Q : Exit → Env → World → Prop) : Exit → Env → World → Prop := fun ex e w => blockQ ex 2 (q14 pr k Q) e w
def emb5 (t_0 : Sl) (out_4 : Sl) (c_5 : Int) : Env := [(0, Sl.v t_0), (4, Sl.v out_4), (5, vI c_5)]
def emb9 (t_0 : Sl) (out_4 : Sl) (c_5 : Int) (row_6 : Sl) (r_7 : Int) : Env := [(0, Sl.v t_0), (4, Sl.v out_4), (5, vI c_5), (6, Sl.v row_6), (7, vI r_7)]
def x2 (t_0 : Sl) (out_4 : Sl) (c_5 : Int) (row_6 : Sl) : Env := [(0, Sl.v t_0), (4, Sl.v out_4), (5, vI c_5), (6, Sl.v row_6)]
def x0 (out_4 : Sl) : Env := [(4, Sl.v out_4)]
def S9 (pr : Prims) (Q : Exit → Env → World → Prop) : (Env → World → Prop) → Env → World → Prop := fun k e w => wpC pr PP cfg (DD pr) (sub (codeOf Try.f40) [1, 1, 1, 0, 1, 0, 0, 1, 0, 0, 1, 0, 1, 0, 0]) (fun ex e w => normQ ex (fun e' w' => k (Env.restr e' (lookN cfg.loops (keyOf (sub (codeOf Try.f40) [1, 1, 1, 0, 1, 0, 0, 1, 0, 0, 1, 0, 1, 0, 0])))) w') Q e w) e w
def S5 (pr : Prims) (Q : Exit → Env → World → Prop) : (Env → World → Prop) → Env → World → Prop := fun k e w => wpC pr PP cfg (DD pr) (sub (codeOf Try.f40) [1, 1, 1, 0, 1, 0, 0]) (fun ex e w => normQ ex (fun e' w' => k (Env.restr e' (lookN cfg.loops (keyOf (sub (codeOf Try.f40) [1, 1, 1, 0, 1, 0, 0])))) w') Q e w) e w
def B9 (pr : Prims) (t_0 : Sl) (out_4 : Sl) (c_5 : Int) (row_6 : Sl) (r_7 : Int) (w : World) (k : Env → World → Prop) (Q : Exit → Env → World → Prop) : Prop :=
  S9 pr Q k (emb9 t_0 out_4 c_5 row_6 r_7) w
def L9 (pr : Prims) (t_0 : Sl) (out_4 : Sl) (c_5 : Int) (row_6 : Sl) (r_7 : Int) (w : World) (Q : Exit → Env → World → Prop) : Prop :=
  pr.loop (S9 pr Q) (emb9 t_0 out_4 c_5 row_6 r_7) w
def B5 (pr : Prims) (t_0 : Sl) (out_4 : Sl) (c_5 : Int) (w : World) (k : Env → World → Prop) (Q : Exit → Env → World → Prop) : Prop :=
  S5 pr Q k (emb5 t_0 out_4 c_5) w
def L5 (pr : Prims) (t_0 : Sl) (out_4 : Sl) (c_5 : Int) (w : World) (Q : Exit → Env → World → Prop) : Prop :=
  pr.loop (S5 pr Q) (emb5 t_0 out_4 c_5) w
def E (pr : Prims) (t_0 : Sl) (w : World) (R : Ending → World → Prop) : Prop :=
  wpC pr PP cfg (DD pr) (codeOf Try.f40) (retQ Try.f40.results.toList R) (argE 0 [Sl.v t_0]) w
theorem B9_eq (pr : Prims) (t_0 : Sl) (out_4 : Sl) (c_5 : Int) (row_6 : Sl) (r_7 : Int) (w : World) (k : Env → World → Prop) (Q : Exit → Env → World → Prop) : B9 pr t_0 out_4 c_5 row_6 r_7 w k Q = (
  bif decide (r_7 < (t_0.n : Int)) then (
  pr.idxK 1 t_0 r_7 fun (a16 : Addr) =>
  pr.load1 .sl a16 w fun (ξ17 : Sl) =>
  bif decide (c_5 < (ξ17.n : Int)) then (
  pr.idxK 1 t_0 r_7 fun (a18 : Addr) =>
  pr.load1 .sl a18 w fun (ξ19 : Sl) =>
  pr.idxK 1 ξ19 c_5 fun (a20 : Addr) =>
  pr.load1 (.int .i64) a20 w fun (ξ21 : Int) =>
  pr.sem1 .sl PP (Instr.buildSlice T_Sint 1 #[(0, vI ξ21)]) w fun (ρ22 : Sl) ω23 =>
  pr.sem1 .sl PP (Builtin.append_ #[T_Sint, T_Sint] T_Sint #[Sl.v row_6, Sl.v ρ22]) ω23 fun (ρ24 : Sl) ω25 =>
  k (emb9 t_0 out_4 c_5 ρ24 (w64 (r_7 + 1))) ω25)
  else (
  Q (.exit 2) (x2 t_0 out_4 c_5 row_6) w))
  else (
  Q (.exit 2) (x2 t_0 out_4 c_5 row_6) w)) := by kernel_rfl
theorem B9_s (t_0 : Sl) (out_4 : Sl) (c_5 : Int) (row_6 : Sl) (r_7 : Int) (w : World) (k : Env → World → Prop) (Q : Exit → Env → World → Prop) : B9 std t_0 out_4 c_5 row_6 r_7 w k Q = (
  bif decide (r_7 < (t_0.n : Int)) then (
  idxK 1 t_0 r_7 fun (a16 : Addr) =>
  load1 .sl a16 w fun (ξ17 : Sl) =>
  bif decide (c_5 < (ξ17.n : Int)) then (
  idxK 1 t_0 r_7 fun (a18 : Addr) =>
  load1 .sl a18 w fun (ξ19 : Sl) =>
  idxK 1 ξ19 c_5 fun (a20 : Addr) =>
  load1 (.int .i64) a20 w fun (ξ21 : Int) =>
  sem1 .sl PP (Instr.buildSlice T_Sint 1 #[(0, vI ξ21)]) w fun (ρ22 : Sl) ω23 =>
  sem1 .sl PP (Builtin.append_ #[T_Sint, T_Sint] T_Sint #[Sl.v row_6, Sl.v ρ22]) ω23 fun (ρ24 : Sl) ω25 =>
  k (emb9 t_0 out_4 c_5 ρ24 (w64 (r_7 + 1))) ω25)
  else (
  Q (.exit 2) (x2 t_0 out_4 c_5 row_6) w))
  else (
  Q (.exit 2) (x2 t_0 out_4 c_5 row_6) w)) := B9_eq std t_0 out_4 c_5 row_6 r_7 w k Q
theorem L9_rule (t_0 : Sl) (out_4 : Sl) (c_5 : Int) (row_6 : Sl) (r_7 : Int) (w : World) (Q : Exit → Env → World → Prop) (I : Sl → Int → World → Prop) (μ : Sl → Int → World → Nat) (h0 : I row_6 r_7 w)
    (h : ∀ (row_6 : Sl) (r_7 : Int) (w' : World), I row_6 r_7 w' → B9 std t_0 out_4 c_5 row_6 r_7 w' (fun e2 w2 => ∃ row_6_n r_7_n, e2 = emb9 t_0 out_4 c_5 row_6_n r_7_n ∧ I row_6_n r_7_n w2 ∧ μ row_6_n r_7_n w2 < μ row_6 r_7 w') Q) :
    L9 std t_0 out_4 c_5 row_6 r_7 w Q := by
  unfold L9
  refine LoopE.intro (σ := Sl × Int) (step := S9 std Q) (fun s => emb9 t_0 out_4 c_5 s.1 s.2) (fun s w => I s.1 s.2 w) (fun s w => μ s.1 s.2 w) (row_6, r_7) rfl h0 ?_
  intro s w' hI
  have h1 := h s.1 s.2 w' hI
  unfold B9 at h1
  simp only [Prod.exists]
  exact h1
theorem A9_2_eq (pr : Prims) (t_0 : Sl) (out_4 : Sl) (c_5 : Int) (row_6 : Sl) (w : World) (k : Env → World → Prop) (Q : Exit → Env → World → Prop) : (q15 pr k Q) (.exit 2) (x2 t_0 out_4 c_5 row_6) w = (
  pr.sem1 .sl PP (Instr.buildSlice T_SSint 1 #[(0, Sl.v row_6)]) w fun (ρ26 : Sl) ω27 =>
  pr.sem1 .sl PP (Builtin.append_ #[T_SSint, T_SSint] T_SSint #[Sl.v out_4, Sl.v ρ26]) ω27 fun (ρ28 : Sl) ω29 =>
  k (emb5 t_0 ρ28 (w64 (c_5 + 1))) ω29) := by kernel_rfl
theorem A9_2_s (t_0 : Sl) (out_4 : Sl) (c_5 : Int) (row_6 : Sl) (w : World) (k : Env → World → Prop) (Q : Exit → Env → World → Prop) : (q15 std k Q) (.exit 2) (x2 t_0 out_4 c_5 row_6) w = (
  sem1 .sl PP (Instr.buildSlice T_SSint 1 #[(0, Sl.v row_6)]) w fun (ρ26 : Sl) ω27 =>
  sem1 .sl PP (Builtin.append_ #[T_SSint, T_SSint] T_SSint #[Sl.v out_4, Sl.v ρ26]) ω27 fun (ρ28 : Sl) ω29 =>
  k (emb5 t_0 ρ28 (w64 (c_5 + 1))) ω29) := A9_2_eq std t_0 out_4 c_5 row_6 w k Q
theorem B5_eq (pr : Prims) (t_0 : Sl) (out_4 : Sl) (c_5 : Int) (w : World) (k : Env → World → Prop) (Q : Exit → Env → World → Prop) : B5 pr t_0 out_4 c_5 w k Q = (
  bif decide ((t_0.n : Int) > 0) then (
  pr.idxK 1 t_0 0 fun (a8 : Addr) =>
  pr.load1 .sl a8 w fun (ξ9 : Sl) =>
  bif decide (c_5 < (ξ9.n : Int)) then (
  pr.sem1 .sl PP (Instr.buildSlice T_Sint 0 #[]) w fun (ρ12 : Sl) ω13 =>
  L9 pr t_0 out_4 c_5 ρ12 0 ω13 (q15 pr k Q))
  else (
  Q (.exit 0) (x0 out_4) w))
  else (
  Q (.exit 0) (x0 out_4) w)) := by kernel_rfl
theorem B5_s (t_0 : Sl) (out_4 : Sl) (c_5 : Int) (w : World) (k : Env → World → Prop) (Q : Exit → Env → World → Prop) : B5 std t_0 out_4 c_5 w k Q = (
  bif decide ((t_0.n : Int) > 0) then (
  idxK 1 t_0 0 fun (a8 : Addr) =>
  load1 .sl a8 w fun (ξ9 : Sl) =>
  bif decide (c_5 < (ξ9.n : Int)) then (
  sem1 .sl PP (Instr.buildSlice T_Sint 0 #[]) w fun (ρ12 : Sl) ω13 =>
  L9 std t_0 out_4 c_5 ρ12 0 ω13 (q15 std k Q))
  else (
  Q (.exit 0) (x0 out_4) w))
  else (
  Q (.exit 0) (x0 out_4) w)) := B5_eq std t_0 out_4 c_5 w k Q
theorem L5_rule (t_0 : Sl) (out_4 : Sl) (c_5 : Int) (w : World) (Q : Exit → Env → World → Prop) (I : Sl → Int → World → Prop) (μ : Sl → Int → World → Nat) (h0 : I out_4 c_5 w)
    (h : ∀ (out_4 : Sl) (c_5 : Int) (w' : World), I out_4 c_5 w' → B5 std t_0 out_4 c_5 w' (fun e2 w2 => ∃ out_4_n c_5_n, e2 = emb5 t_0 out_4_n c_5_n ∧ I out_4_n c_5_n w2 ∧ μ out_4_n c_5_n w2 < μ out_4 c_5 w') Q) :
    L5 std t_0 out_4 c_5 w Q := by
  unfold L5
  refine LoopE.intro (σ := Sl × Int) (step := S5 std Q) (fun s => emb5 t_0 s.1 s.2) (fun s w => I s.1 s.2 w) (fun s w => μ s.1 s.2 w) (out_4, c_5) rfl h0 ?_
  intro s w' hI
  have h1 := h s.1 s.2 w' hI
  unfold B5 at h1
  simp only [Prod.exists]
  exact h1
theorem A5_0_eq (pr : Prims) (out_4 : Sl) (w : World) (R : Ending → World → Prop) : (q7 pr R) (.exit 0) (x0 out_4) w = (
  R (.returned (.tuple #[Sl.v out_4, .bool true])) w) := by kernel_rfl
theorem A5_0_s (out_4 : Sl) (w : World) (R : Ending → World → Prop) : (q7 std R) (.exit 0) (x0 out_4) w = (
  R (.returned (.tuple #[Sl.v out_4, .bool true])) w) := A5_0_eq std out_4 w R
theorem E_eq (pr : Prims) (t_0 : Sl) (w : World) (R : Ending → World → Prop) : E pr t_0 w R = (
  pr.call1 .bool PP F.spec_IsTableau #[Sl.v t_0] w fun (ρ0 : Bool) ω1 =>
  bif !ρ0 then (
  pr.sem1 .sl PP (Instr.buildSlice T_SSint 0 #[]) ω1 fun (ρ2 : Sl) ω3 =>
  R (.returned (.tuple #[Sl.v ρ2, .bool false])) ω3)
  else (
  pr.sem1 .sl PP (Instr.buildSlice T_SSint 0 #[]) ω1 fun (ρ4 : Sl) ω5 =>
  L5 pr t_0 ρ4 0 ω5 (q7 pr R))) := by kernel_rfl
theorem E_s (t_0 : Sl) (w : World) (R : Ending → World → Prop) : E std t_0 w R = (
  call1 .bool PP F.spec_IsTableau #[Sl.v t_0] w fun (ρ0 : Bool) ω1 =>
  bif !ρ0 then (
  sem1 .sl PP (Instr.buildSlice T_SSint 0 #[]) ω1 fun (ρ2 : Sl) ω3 =>
  R (.returned (.tuple #[Sl.v ρ2, .bool false])) ω3)
  else (
  sem1 .sl PP (Instr.buildSlice T_SSint 0 #[]) ω1 fun (ρ4 : Sl) ω5 =>
  L5 std t_0 ρ4 0 ω5 (q7 std R))) := E_eq std t_0 w R
theorem drawsOk : drawsOk PP cfg okD (codeOf Try.f40) = true := by kernel_rfl
theorem calls (t_0 : Sl) {w : World} {R : Ending → World → Prop} (h : E std t_0 w R) : Calls PP F.spec_TurnTableau #[Sl.v t_0] w R :=
  calls_of noCount mixed drawOk Try.func40 rfl (c := cfg) (args := [Sl.v t_0]) rfl (Nat.le_of_ble_eq_true (by kernel_rfl)) drawsOk h
end spec_TurnTableau

namespace slices_Concat___int_int_
@[reducible] def cfg : Cfg := ⟨36, [(3, [0, 3, 9, 10, 11]), (11, [6, 25, 26, 27])], [(1, [0, 3, 9, 10, 11]), (0, [0, 3]), (3, [6, 25, 26, 27]), (2, [6])], [], [2], [], [91, 60, 17, 21, 24, 26, 65, 27, 82, 64, 85, 108, 78, 53, 51], [86, 52, 88]⟩
def q0 (pr : Prims) (R : Ending → World → Prop) : Exit → Env → World → Prop := fun ex e w => normQ ex (fun e w => contE pr cfg (sub (codeOf Try.f69) [1, 1, 1]) (fun e w => wpC pr PP cfg (DD pr) (sub (codeOf Try.f69) [1, 1, 1]) (retQ Try.f69.results.toList R) e w) e w) (retQ Try.f69.results.toList R) e w
def q1 (pr : Prims) (R : Ending → World → Prop) : Exit → Env → World → Prop := fun ex e w => blockQ ex 0 (q0 pr R) e w
def q6 (pr : Prims) (R : Ending → World → Prop) : Exit → Env → World → Prop := fun ex e w => normQ ex (fun e w => contE pr cfg (sub (codeOf Try.f69) [1, 1, 1, 1, 1]) (fun e w => wpC pr PP cfg (DD pr) (sub (codeOf Try.f69) [1, 1, 1, 1, 1]) (retQ Try.f69.results.toList R) e w) e w) (retQ Try.f69.results.toList R) e w
def q7 (pr : Prims) (R : Ending → World → Prop) : Exit → Env → World → Prop := fun ex e w => blockQ ex 2 (q6 pr R) e w
def emb3 (slices_0 : Sl) (size_3 : Int) (t9 : Sl) (t10 : Int) (t11 : Int) : Env := [(0, Sl.v slices_0), (3, vI size_3), (9, Sl.v t9), (10, vI t10), (11, vI t11)]
def x0 (slices_0 : Sl) (size_3 : Int) : Env := [(0, Sl.v slices_0), (3, vI size_3)]
def emb11 (newslice_6 : Sl) (t25 : Sl) (t26 : Int) (t27 : Int) : Env := [(6, Sl.v newslice_6), (25, Sl.v t25), (26, vI t26), (27, vI t27)]
def x2 (newslice_6 : Sl) : Env := [(6, Sl.v newslice_6)]
def S3 (pr : Prims) (Q : Exit → Env → World → Prop) : (Env → World → Prop) → Env → World → Prop := fun k e w => wpC pr PP cfg (DD pr) (sub (codeOf Try.f69) [1, 1, 0, 1, 0, 0]) (fun ex e w => normQ ex (fun e' w' => k (Env.restr e' (lookN cfg.loops (keyOf (sub (codeOf Try.f69) [1, 1, 0, 1, 0, 0])))) w') Q e w) e w
def S11 (pr : Prims) (Q : Exit → Env → World → Prop) : (Env → World → Prop) → Env → World → Prop := fun k e w => wpC pr PP cfg (DD pr) (sub (codeOf Try.f69) [1, 1, 1, 1, 0, 1, 0, 0]) (fun ex e w => normQ ex (fun e' w' => k (Env.restr e' (lookN cfg.loops (keyOf (sub (codeOf Try.f69) [1, 1, 1, 1, 0, 1, 0, 0])))) w') Q e w) e w
def B3 (pr : Prims) (slices_0 : Sl) (size_3 : Int) (t9 : Sl) (t10 : Int) (t11 : Int) (w : World) (k : Env → World → Prop) (Q : Exit → Env → World → Prop) : Prop :=
  S3 pr Q k (emb3 slices_0 size_3 t9 t10 t11) w
def L3 (pr : Prims) (slices_0 : Sl) (size_3 : Int) (t9 : Sl) (t10 : Int) (t11 : Int) (w : World) (Q : Exit → Env → World → Prop) : Prop :=
  pr.loop (S3 pr Q) (emb3 slices_0 size_3 t9 t10 t11) w
def B11 (pr : Prims) (newslice_6 : Sl) (t25 : Sl) (t26 : Int) (t27 : Int) (w : World) (k : Env → World → Prop) (Q : Exit → Env → World → Prop) : Prop :=
  S11 pr Q k (emb11 newslice_6 t25 t26 t27) w
def L11 (pr : Prims) (newslice_6 : Sl) (t25 : Sl) (t26 : Int) (t27 : Int) (w : World) (Q : Exit → Env → World → Prop) : Prop :=
  pr.loop (S11 pr Q) (emb11 newslice_6 t25 t26 t27) w
def E (pr : Prims) (slices_0 : Sl) (w : World) (R : Ending → World → Prop) : Prop :=
  wpC pr PP cfg (DD pr) (codeOf Try.f69) (retQ Try.f69.results.toList R) (argE 0 [Sl.v slices_0]) w
theorem B3_eq (pr : Prims) (slices_0 : Sl) (size_3 : Int) (t9 : Sl) (t10 : Int) (t11 : Int) (w : World) (k : Env → World → Prop) (Q : Exit → Env → World → Prop) : B3 pr slices_0 size_3 t9 t10 t11 w k Q = (
  bif decide (t11 < t10) then (
  pr.idxK 1 t9 t11 fun (a2 : Addr) =>
  pr.load1 .sl a2 w fun (ξ3 : Sl) =>
  bif decide ((w64 (size_3 + (ξ3.n : Int))) < 0) then (
  False)
  else (
  k (emb3 slices_0 (w64 (size_3 + (ξ3.n : Int))) t9 t10 (w64 (t11 + 1))) w))
  else (
  Q (.exit 0) (x0 slices_0 size_3) w)) := by kernel_rfl
theorem B3_s (slices_0 : Sl) (size_3 : Int) (t9 : Sl) (t10 : Int) (t11 : Int) (w : World) (k : Env → World → Prop) (Q : Exit → Env → World → Prop) : B3 std slices_0 size_3 t9 t10 t11 w k Q = (
  bif decide (t11 < t10) then (
  idxK 1 t9 t11 fun (a2 : Addr) =>
  load1 .sl a2 w fun (ξ3 : Sl) =>
  bif decide ((w64 (size_3 + (ξ3.n : Int))) < 0) then (
  False)
  else (
  k (emb3 slices_0 (w64 (size_3 + (ξ3.n : Int))) t9 t10 (w64 (t11 + 1))) w))
  else (
  Q (.exit 0) (x0 slices_0 size_3) w)) := B3_eq std slices_0 size_3 t9 t10 t11 w k Q
theorem L3_rule (slices_0 : Sl) (size_3 : Int) (t9 : Sl) (t10 : Int) (t11 : Int) (w : World) (Q : Exit → Env → World → Prop) (I : Int → Int → World → Prop) (μ : Int → Int → World → Nat) (h0 : I size_3 t11 w)
    (h : ∀ (size_3 : Int) (t11 : Int) (w' : World), I size_3 t11 w' → B3 std slices_0 size_3 t9 t10 t11 w' (fun e2 w2 => ∃ size_3_n t11_n, e2 = emb3 slices_0 size_3_n t9 t10 t11_n ∧ I size_3_n t11_n w2 ∧ μ size_3_n t11_n w2 < μ size_3 t11 w') Q) :
    L3 std slices_0 size_3 t9 t10 t11 w Q := by
  unfold L3
  refine LoopE.intro (σ := Int × Int) (step := S3 std Q) (fun s => emb3 slices_0 s.1 t9 t10 s.2) (fun s w => I s.1 s.2 w) (fun s w => μ s.1 s.2 w) (size_3, t11) rfl h0 ?_
  intro s w' hI
  have h1 := h s.1 s.2 w' hI
  unfold B3 at h1
  simp only [Prod.exists]
  exact h1
theorem B11_eq (pr : Prims) (newslice_6 : Sl) (t25 : Sl) (t26 : Int) (t27 : Int) (w : World) (k : Env → World → Prop) (Q : Exit → Env → World → Prop) : B11 pr newslice_6 t25 t26 t27 w k Q = (
  bif decide (t27 < t26) then (
  pr.idxK 1 t25 t27 fun (a8 : Addr) =>
  pr.load1 .sl a8 w fun (ξ9 : Sl) =>
  pr.sem1 .sl PP (Builtin.append_ #[T_Sint, T_Sint] T_Sint #[Sl.v newslice_6, Sl.v ξ9]) w fun (ρ10 : Sl) ω11 =>
  k (emb11 ρ10 t25 t26 (w64 (t27 + 1))) ω11)
  else (
  Q (.exit 2) (x2 newslice_6) w)) := by kernel_rfl
theorem B11_s (newslice_6 : Sl) (t25 : Sl) (t26 : Int) (t27 : Int) (w : World) (k : Env → World → Prop) (Q : Exit → Env → World → Prop) : B11 std newslice_6 t25 t26 t27 w k Q = (
  bif decide (t27 < t26) then (
  idxK 1 t25 t27 fun (a8 : Addr) =>
  load1 .sl a8 w fun (ξ9 : Sl) =>
  sem1 .sl PP (Builtin.append_ #[T_Sint, T_Sint] T_Sint #[Sl.v newslice_6, Sl.v ξ9]) w fun (ρ10 : Sl) ω11 =>
  k (emb11 ρ10 t25 t26 (w64 (t27 + 1))) ω11)
  else (
  Q (.exit 2) (x2 newslice_6) w)) := B11_eq std newslice_6 t25 t26 t27 w k Q
theorem L11_rule (newslice_6 : Sl) (t25 : Sl) (t26 : Int) (t27 : Int) (w : World) (Q : Exit → Env → World → Prop) (I : Sl → Int → World → Prop) (μ : Sl → Int → World → Nat) (h0 : I newslice_6 t27 w)
    (h : ∀ (newslice_6 : Sl) (t27 : Int) (w' : World), I newslice_6 t27 w' → B11 std newslice_6 t25 t26 t27 w' (fun e2 w2 => ∃ newslice_6_n t27_n, e2 = emb11 newslice_6_n t25 t26 t27_n ∧ I newslice_6_n t27_n w2 ∧ μ newslice_6_n t27_n w2 < μ newslice_6 t27 w') Q) :
    L11 std newslice_6 t25 t26 t27 w Q := by
  unfold L11
  refine LoopE.intro (σ := Sl × Int) (step := S11 std Q) (fun s => emb11 s.1 t25 t26 s.2) (fun s w => I s.1 s.2 w) (fun s w => μ s.1 s.2 w) (newslice_6, t27) rfl h0 ?_
  intro s w' hI
  have h1 := h s.1 s.2 w' hI
  unfold B11 at h1
  simp only [Prod.exists]
  exact h1
theorem A11_2_eq (pr : Prims) (newslice_6 : Sl) (w : World) (R : Ending → World → Prop) : (q7 pr R) (.exit 2) (x2 newslice_6) w = (
  R (.returned (Sl.v newslice_6)) w) := by kernel_rfl
theorem A11_2_s (newslice_6 : Sl) (w : World) (R : Ending → World → Prop) : (q7 std R) (.exit 2) (x2 newslice_6) w = (
  R (.returned (Sl.v newslice_6)) w) := A11_2_eq std newslice_6 w R
theorem A3_0_eq (pr : Prims) (slices_0 : Sl) (size_3 : Int) (w : World) (R : Ending → World → Prop) : (q1 pr R) (.exit 0) (x0 slices_0 size_3) w = (
  pr.call1 .sl PP F.slices_Grow___int_int_ #[Sl.v Sl.nil, vI size_3] w fun (ρ4 : Sl) ω5 =>
  L11 pr ρ4 slices_0 (slices_0.n : Int) 0 ω5 (q7 pr R)) := by kernel_rfl
theorem A3_0_s (slices_0 : Sl) (size_3 : Int) (w : World) (R : Ending → World → Prop) : (q1 std R) (.exit 0) (x0 slices_0 size_3) w = (
  call1 .sl PP F.slices_Grow___int_int_ #[Sl.v Sl.nil, vI size_3] w fun (ρ4 : Sl) ω5 =>
  L11 std ρ4 slices_0 (slices_0.n : Int) 0 ω5 (q7 std R)) := A3_0_eq std slices_0 size_3 w R
theorem E_eq (pr : Prims) (slices_0 : Sl) (w : World) (R : Ending → World → Prop) : E pr slices_0 w R = (
  L3 pr slices_0 0 slices_0 (slices_0.n : Int) 0 w (q1 pr R)) := by kernel_rfl
theorem E_s (slices_0 : Sl) (w : World) (R : Ending → World → Prop) : E std slices_0 w R = (
  L3 std slices_0 0 slices_0 (slices_0.n : Int) 0 w (q1 std R)) := E_eq std slices_0 w R
theorem drawsOk : drawsOk PP cfg okD (codeOf Try.f69) = true := by kernel_rfl
theorem calls (slices_0 : Sl) {w : World} {R : Ending → World → Prop} (h : E std slices_0 w R) : Calls PP F.slices_Concat___int_int_ #[Sl.v slices_0] w R :=
  calls_of noCount mixed drawOk Try.func69 rfl (c := cfg) (args := [Sl.v slices_0]) rfl (Nat.le_of_ble_eq_true (by kernel_rfl)) drawsOk h
end slices_Concat___int_int_

namespace slices_Grow___int_int_
@[reducible] def cfg : Cfg := ⟨27, [], [], [(3, [0, 1]), (6, [0])], [4], [], [91, 60, 17, 21, 24, 26, 65, 27, 82, 64, 85, 108, 78, 53, 51], [86, 52, 88]⟩
def q0 (pr : Prims) (R : Ending → World → Prop) : Exit → Env → World → Prop := fun ex e w => normQ ex (fun e w => contE pr cfg (sub (codeOf Try.f93) [1, 1]) (fun e w => wpC pr PP cfg (DD pr) (sub (codeOf Try.f93) [1, 1]) (retQ Try.f93.results.toList R) e w) e w) (retQ Try.f93.results.toList R) e w
def q1 (pr : Prims) (R : Ending → World → Prop) : Exit → Env → World → Prop := fun ex e w => normQ ex (fun e w => contE pr cfg (sub (codeOf Try.f93) [1, 1, 1]) (fun e w => wpC pr PP cfg (DD pr) (sub (codeOf Try.f93) [1, 1, 1]) (retQ Try.f93.results.toList R) e w) e w) (retQ Try.f93.results.toList R) e w
def j3 (s_0 : Sl) (n_1 : Int) : Env := [(0, Sl.v s_0), (1, vI n_1)]
def j6 (s_0 : Sl) : Env := [(0, Sl.v s_0)]
def J6 (pr : Prims) (s_0 : Sl) (w : World) (R : Ending → World → Prop) : Prop :=
  pr.seg (fun e w => wpC pr PP cfg (DD pr) (sub (codeOf Try.f93) [1, 1, 1]) (retQ Try.f93.results.toList R) e w) (j6 s_0) w
def J3 (pr : Prims) (s_0 : Sl) (n_1 : Int) (w : World) (R : Ending → World → Prop) : Prop :=
  pr.seg (fun e w => wpC pr PP cfg (DD pr) (sub (codeOf Try.f93) [1, 1]) (retQ Try.f93.results.toList R) e w) (j3 s_0 n_1) w
def E (pr : Prims) (s_0 : Sl) (n_1 : Int) (w : World) (R : Ending → World → Prop) : Prop :=
  wpC pr PP cfg (DD pr) (codeOf Try.f93) (retQ Try.f93.results.toList R) (argE 0 [Sl.v s_0, vI n_1]) w
theorem J6_gen (pr : Prims) (s_0 : Sl) (w : World) (R : Ending → World → Prop) : wpC pr PP cfg (DD pr) (sub (codeOf Try.f93) [1, 1, 1]) (retQ Try.f93.results.toList R) (j6 s_0) w = (
  R (.returned (Sl.v s_0)) w) := by kernel_rfl
theorem J6_s (s_0 : Sl) (w : World) (R : Ending → World → Prop) : J6 std s_0 w R = (
  R (.returned (Sl.v s_0)) w) := J6_gen std s_0 w R
theorem J3_gen (pr : Prims) (s_0 : Sl) (n_1 : Int) (w : World) (R : Ending → World → Prop) : wpC pr PP cfg (DD pr) (sub (codeOf Try.f93) [1, 1]) (retQ Try.f93.results.toList R) (j3 s_0 n_1) w = (
  bif decide ((w64 (n_1 - (w64 ((s_0.c : Int) - (s_0.n : Int))))) > 0) then (
  pr.cutK 1 s_0 none (some (s_0.c : Int)) fun (s2 : Sl) =>
  pr.sem1 .sl PP (Builtin.append_ #[T_Sint, T_int] T_Sint #[Sl.v s2, vI (w64 (n_1 - (w64 ((s_0.c : Int) - (s_0.n : Int)))))]) w fun (ρ3 : Sl) ω4 =>
  pr.cutK 1 ρ3 none (some (s_0.n : Int)) fun (s5 : Sl) =>
  J6 pr s5 ω4 R)
  else (
  J6 pr s_0 w R)) := by kernel_rfl
theorem J3_s (s_0 : Sl) (n_1 : Int) (w : World) (R : Ending → World → Prop) : J3 std s_0 n_1 w R = (
  bif decide ((w64 (n_1 - (w64 ((s_0.c : Int) - (s_0.n : Int))))) > 0) then (
  cutK 1 s_0 none (some (s_0.c : Int)) fun (s2 : Sl) =>
  sem1 .sl PP (Builtin.append_ #[T_Sint, T_int] T_Sint #[Sl.v s2, vI (w64 (n_1 - (w64 ((s_0.c : Int) - (s_0.n : Int)))))]) w fun (ρ3 : Sl) ω4 =>
  cutK 1 ρ3 none (some (s_0.n : Int)) fun (s5 : Sl) =>
  J6 std s5 ω4 R)
  else (
  J6 std s_0 w R)) := J3_gen std s_0 n_1 w R
theorem E_eq (pr : Prims) (s_0 : Sl) (n_1 : Int) (w : World) (R : Ending → World → Prop) : E pr s_0 n_1 w R = (
  bif decide (n_1 < 0) then (
  False)
  else (
  J3 pr s_0 n_1 w R)) := by kernel_rfl
theorem E_s (s_0 : Sl) (n_1 : Int) (w : World) (R : Ending → World → Prop) : E std s_0 n_1 w R = (
  bif decide (n_1 < 0) then (
  False)
  else (
  J3 std s_0 n_1 w R)) := E_eq std s_0 n_1 w R
theorem drawsOk : drawsOk PP cfg okD (codeOf Try.f93) = true := by kernel_rfl
theorem calls (s_0 : Sl) (n_1 : Int) {w : World} {R : Ending → World → Prop} (h : E std s_0 n_1 w R) : Calls PP F.slices_Grow___int_int_ #[Sl.v s_0, vI n_1] w R :=
  calls_of noCount mixed drawOk Try.func93 rfl (c := cfg) (args := [Sl.v s_0, vI n_1]) rfl (Nat.le_of_ble_eq_true (by kernel_rfl)) drawsOk h
end slices_Grow___int_int_

namespace laws_FnExactIsTableau
@[reducible] def cfg : Cfg := ⟨27, [], [], [], [2], [], [91, 60, 17, 21, 24, 26, 65, 27, 82, 64, 85, 108, 78, 53, 51], [86, 52, 88]⟩
def E (pr : Prims) (aT_0 : Sl) (w : World) (R : Ending → World → Prop) : Prop :=
  wpC pr PP cfg (DD pr) (codeOf Try.f6) (retQ Try.f6.results.toList R) (argE 0 [Sl.v aT_0]) w
theorem E_eq (pr : Prims) (aT_0 : Sl) (w : World) (R : Ending → World → Prop) : E pr aT_0 w R = (
  pr.call1 (.int .i64) PP F.laws_szIntSS #[Sl.v aT_0, vI 1048576] w fun (ρ0 : Int) ω1 =>
  bif decide (ρ0 < 0) then (
  R (.returned (.bool true)) ω1)
  else (
  pr.call1 .sl PP F.laws_toIntSS #[Sl.v aT_0] ω1 fun (ρ2 : Sl) ω3 =>
  pr.call1 .bool PP F.spec_IsTableau #[Sl.v ρ2] ω3 fun (ρ4 : Bool) ω5 =>
  pr.call1 .sl PP F.laws_toIntSS #[Sl.v aT_0] ω5 fun (ρ6 : Sl) ω7 =>
  pr.call1 .bool PP F.impl_IsTableau #[Sl.v ρ6] ω7 fun (ρ8 : Bool) ω9 =>
  bif !(ρ8 == ρ4) then (
  R (.returned (.bool false)) ω9)
  else (
  pr.call1 .sl PP F.laws_toIntSS #[Sl.v aT_0] ω9 fun (ρ10 : Sl) ω11 =>
  pr.call1 .bool PP F.laws_eqIntSS #[Sl.v ρ6, Sl.v ρ10] ω11 fun (ρ12 : Bool) ω13 =>
  bif !ρ12 then (
  R (.returned (.bool false)) ω13)
  else (
  R (.returned (.bool true)) ω13)))) := by kernel_rfl
theorem E_s (aT_0 : Sl) (w : World) (R : Ending → World → Prop) : E std aT_0 w R = (
  call1 (.int .i64) PP F.laws_szIntSS #[Sl.v aT_0, vI 1048576] w fun (ρ0 : Int) ω1 =>
  bif decide (ρ0 < 0) then (
  R (.returned (.bool true)) ω1)
  else (
  call1 .sl PP F.laws_toIntSS #[Sl.v aT_0] ω1 fun (ρ2 : Sl) ω3 =>
  call1 .bool PP F.spec_IsTableau #[Sl.v ρ2] ω3 fun (ρ4 : Bool) ω5 =>
  call1 .sl PP F.laws_toIntSS #[Sl.v aT_0] ω5 fun (ρ6 : Sl) ω7 =>
  call1 .bool PP F.impl_IsTableau #[Sl.v ρ6] ω7 fun (ρ8 : Bool) ω9 =>
  bif !(ρ8 == ρ4) then (
  R (.returned (.bool false)) ω9)
  else (
  call1 .sl PP F.laws_toIntSS #[Sl.v aT_0] ω9 fun (ρ10 : Sl) ω11 =>
  call1 .bool PP F.laws_eqIntSS #[Sl.v ρ6, Sl.v ρ10] ω11 fun (ρ12 : Bool) ω13 =>
  bif !ρ12 then (
  R (.returned (.bool false)) ω13)
  else (
  R (.returned (.bool true)) ω13)))) := E_eq std aT_0 w R
theorem drawsOk : drawsOk PP cfg okD (codeOf Try.f6) = true := by kernel_rfl
theorem calls (aT_0 : Sl) {w : World} {R : Ending → World → Prop} (h : E std aT_0 w R) : Calls PP F.laws_FnExactIsTableau #[Sl.v aT_0] w R :=
  calls_of noCount mixed drawOk Try.func6 rfl (c := cfg) (args := [Sl.v aT_0]) rfl (Nat.le_of_ble_eq_true (by kernel_rfl)) drawsOk h
end laws_FnExactIsTableau

namespace laws_FnExactFormOf
@[reducible] def cfg : Cfg := ⟨69, [], [], [], [2], [], [91, 60, 17, 21, 24, 26, 65, 27, 82, 64, 85, 108, 78, 53, 51], [86, 52, 88]⟩
def E (pr : Prims) (aT_0 : Sl) (w : World) (R : Ending → World → Prop) : Prop :=
  wpC pr PP cfg (DD pr) (codeOf Try.f9) (retQ Try.f9.results.toList R) (argE 0 [Sl.v aT_0]) w
theorem E_eq (pr : Prims) (aT_0 : Sl) (w : World) (R : Ending → World → Prop) : E pr aT_0 w R = (
  pr.call1 (.int .i64) PP F.laws_szIntSS #[Sl.v aT_0, vI 1048576] w fun (ρ0 : Int) ω1 =>
  bif decide (ρ0 < 0) then (
  R (.returned (.bool true)) ω1)
  else (
  pr.call1 .sl PP F.laws_toIntSS #[Sl.v aT_0] ω1 fun (ρ2 : Sl) ω3 =>
  pr.call1 .sl PP F.spec_FormOf #[Sl.v ρ2] ω3 fun (ρ4 : Sl) ω5 =>
  pr.call1 .sl PP F.laws_toIntSS #[Sl.v aT_0] ω5 fun (ρ6 : Sl) ω7 =>
  pr.call1 .sl PP F.impl_FormOf #[Sl.v ρ6] ω7 fun (ρ8 : Sl) ω9 =>
  pr.call1 .bool PP F.laws_eqIntS #[Sl.v ρ8, Sl.v ρ4] ω9 fun (ρ10 : Bool) ω11 =>
  bif !ρ10 then (
  R (.returned (.bool false)) ω11)
  else (
  pr.call1 .sl PP F.laws_toIntSS #[Sl.v aT_0] ω11 fun (ρ12 : Sl) ω13 =>
  pr.call1 .bool PP F.laws_eqIntSS #[Sl.v ρ6, Sl.v ρ12] ω13 fun (ρ14 : Bool) ω15 =>
  bif !ρ14 then (
  R (.returned (.bool false)) ω15)
  else (
  pr.call1 (.int .i64) PP F.laws_markIntSS #[Sl.v ρ6, vI 1] ω15 fun (ρ16 : Int) ω17 =>
  bif decide (ρ16 < 0) then (
  R (.returned (.bool false)) ω17)
  else (
  pr.call1 .bool PP F.laws_eqIntS #[Sl.v ρ8, Sl.v ρ4] ω17 fun (ρ18 : Bool) ω19 =>
  bif !ρ18 then (
  R (.returned (.bool false)) ω19)
  else (
  pr.call1 (.int .i64) PP F.laws_markIntS #[Sl.v ρ8, vI 1] ω19 fun (ρ20 : Int) ω21 =>
  pr.call1 (.int .i64) PP F.laws_heldIntS #[Sl.v ρ8, vI 1] ω21 fun (ρ22 : Int) ω23 =>
  bif decide (ρ22 < 0) then (
  R (.returned (.bool false)) ω23)
  else (
  bif ρ22 != ρ20 then (
  R (.returned (.bool false)) ω23)
  else (
  pr.call1 .sl PP F.laws_toIntSS #[Sl.v aT_0] ω23 fun (ρ24 : Sl) ω25 =>
  pr.call1 .sl PP F.impl_FormOf #[Sl.v ρ24] ω25 fun (ρ26 : Sl) ω27 =>
  pr.call1 .bool PP F.laws_eqIntS #[Sl.v ρ26, Sl.v ρ4] ω27 fun (ρ28 : Bool) ω29 =>
  bif !ρ28 then (
  R (.returned (.bool false)) ω29)
  else (
  pr.call1 (.int .i64) PP F.laws_heldIntS #[Sl.v ρ8, vI 1] ω29 fun (ρ30 : Int) ω31 =>
  bif decide (ρ30 < 0) then (
  R (.returned (.bool false)) ω31)
  else (
  bif ρ30 != ρ20 then (
  R (.returned (.bool false)) ω31)
  else (
  R (.returned (.bool true)) ω31))))))))))) := by kernel_rfl
theorem E_s (aT_0 : Sl) (w : World) (R : Ending → World → Prop) : E std aT_0 w R = (
  call1 (.int .i64) PP F.laws_szIntSS #[Sl.v aT_0, vI 1048576] w fun (ρ0 : Int) ω1 =>
  bif decide (ρ0 < 0) then (
  R (.returned (.bool true)) ω1)
  else (
  call1 .sl PP F.laws_toIntSS #[Sl.v aT_0] ω1 fun (ρ2 : Sl) ω3 =>
  call1 .sl PP F.spec_FormOf #[Sl.v ρ2] ω3 fun (ρ4 : Sl) ω5 =>
  call1 .sl PP F.laws_toIntSS #[Sl.v aT_0] ω5 fun (ρ6 : Sl) ω7 =>
  call1 .sl PP F.impl_FormOf #[Sl.v ρ6] ω7 fun (ρ8 : Sl) ω9 =>
  call1 .bool PP F.laws_eqIntS #[Sl.v ρ8, Sl.v ρ4] ω9 fun (ρ10 : Bool) ω11 =>
  bif !ρ10 then (
  R (.returned (.bool false)) ω11)
  else (
  call1 .sl PP F.laws_toIntSS #[Sl.v aT_0] ω11 fun (ρ12 : Sl) ω13 =>
  call1 .bool PP F.laws_eqIntSS #[Sl.v ρ6, Sl.v ρ12] ω13 fun (ρ14 : Bool) ω15 =>
  bif !ρ14 then (
  R (.returned (.bool false)) ω15)
  else (
  call1 (.int .i64) PP F.laws_markIntSS #[Sl.v ρ6, vI 1] ω15 fun (ρ16 : Int) ω17 =>
  bif decide (ρ16 < 0) then (
  R (.returned (.bool false)) ω17)
  else (
  call1 .bool PP F.laws_eqIntS #[Sl.v ρ8, Sl.v ρ4] ω17 fun (ρ18 : Bool) ω19 =>
  bif !ρ18 then (
  R (.returned (.bool false)) ω19)
  else (
  call1 (.int .i64) PP F.laws_markIntS #[Sl.v ρ8, vI 1] ω19 fun (ρ20 : Int) ω21 =>
  call1 (.int .i64) PP F.laws_heldIntS #[Sl.v ρ8, vI 1] ω21 fun (ρ22 : Int) ω23 =>
  bif decide (ρ22 < 0) then (
  R (.returned (.bool false)) ω23)
  else (
  bif ρ22 != ρ20 then (
  R (.returned (.bool false)) ω23)
  else (
  call1 .sl PP F.laws_toIntSS #[Sl.v aT_0] ω23 fun (ρ24 : Sl) ω25 =>
  call1 .sl PP F.impl_FormOf #[Sl.v ρ24] ω25 fun (ρ26 : Sl) ω27 =>
  call1 .bool PP F.laws_eqIntS #[Sl.v ρ26, Sl.v ρ4] ω27 fun (ρ28 : Bool) ω29 =>
  bif !ρ28 then (
  R (.returned (.bool false)) ω29)
  else (
  call1 (.int .i64) PP F.laws_heldIntS #[Sl.v ρ8, vI 1] ω29 fun (ρ30 : Int) ω31 =>
  bif decide (ρ30 < 0) then (
  R (.returned (.bool false)) ω31)
  else (
  bif ρ30 != ρ20 then (
  R (.returned (.bool false)) ω31)
  else (
  R (.returned (.bool true)) ω31))))))))))) := E_eq std aT_0 w R
theorem drawsOk : drawsOk PP cfg okD (codeOf Try.f9) = true := by kernel_rfl
theorem calls (aT_0 : Sl) {w : World} {R : Ending → World → Prop} (h : E std aT_0 w R) : Calls PP F.laws_FnExactFormOf #[Sl.v aT_0] w R :=
  calls_of noCount mixed drawOk Try.func9 rfl (c := cfg) (args := [Sl.v aT_0]) rfl (Nat.le_of_ble_eq_true (by kernel_rfl)) drawsOk h
end laws_FnExactFormOf

namespace laws_FnExactTurnTableau
@[reducible] def cfg : Cfg := ⟨96, [], [], [], [2], [], [91, 60, 17, 21, 24, 26, 65, 27, 82, 64, 85, 108, 78, 53, 51], [86, 52, 88]⟩
def E (pr : Prims) (aT_0 : Sl) (w : World) (R : Ending → World → Prop) : Prop :=
  wpC pr PP cfg (DD pr) (codeOf Try.f10) (retQ Try.f10.results.toList R) (argE 0 [Sl.v aT_0]) w
theorem E_eq (pr : Prims) (aT_0 : Sl) (w : World) (R : Ending → World → Prop) : E pr aT_0 w R = (
  pr.call1 (.int .i64) PP F.laws_szIntSS #[Sl.v aT_0, vI 1048576] w fun (ρ0 : Int) ω1 =>
  bif decide (ρ0 < 0) then (
  R (.returned (.bool true)) ω1)
  else (
  pr.call1 .sl PP F.laws_toIntSS #[Sl.v aT_0] ω1 fun (ρ2 : Sl) ω3 =>
  pr.call2 .sl .bool PP F.spec_TurnTableau #[Sl.v ρ2] ω3 fun (ρ4 : Sl) (ρ5 : Bool) ω6 =>
  pr.call1 .sl PP F.laws_toIntSS #[Sl.v aT_0] ω6 fun (ρ7 : Sl) ω8 =>
  pr.call2 .sl .bool PP F.impl_TurnTableau #[Sl.v ρ7] ω8 fun (ρ9 : Sl) (ρ10 : Bool) ω11 =>
  pr.call1 .bool PP F.laws_eqIntSS #[Sl.v ρ9, Sl.v ρ4] ω11 fun (ρ12 : Bool) ω13 =>
  bif !ρ12 then (
  R (.returned (.bool false)) ω13)
  else (
  bif !(ρ10 == ρ5) then (
  R (.returned (.bool false)) ω13)
  else (
  pr.call1 .sl PP F.laws_toIntSS #[Sl.v aT_0] ω13 fun (ρ14 : Sl) ω15 =>
  pr.call1 .bool PP F.laws_eqIntSS #[Sl.v ρ7, Sl.v ρ14] ω15 fun (ρ16 : Bool) ω17 =>
  bif !ρ16 then (
  R (.returned (.bool false)) ω17)
  else (
  pr.call1 (.int .i64) PP F.laws_markIntSS #[Sl.v ρ7, vI 1] ω17 fun (ρ18 : Int) ω19 =>
  bif decide (ρ18 < 0) then (
  R (.returned (.bool false)) ω19)
  else (
  pr.call1 .bool PP F.laws_eqIntSS #[Sl.v ρ9, Sl.v ρ4] ω19 fun (ρ20 : Bool) ω21 =>
  bif !ρ20 then (
  R (.returned (.bool false)) ω21)
  else (
  bif !(ρ10 == ρ5) then (
  R (.returned (.bool false)) ω21)
  else (
  pr.call1 (.int .i64) PP F.laws_markIntSS #[Sl.v ρ9, vI 1] ω21 fun (ρ22 : Int) ω23 =>
  pr.call1 (.int .i64) PP F.laws_heldIntSS #[Sl.v ρ9, vI 1] ω23 fun (ρ24 : Int) ω25 =>
  bif decide (ρ24 < 0) then (
  R (.returned (.bool false)) ω25)
  else (
  bif ρ24 != ρ22 then (
  R (.returned (.bool false)) ω25)
  else (
  pr.call1 .sl PP F.laws_toIntSS #[Sl.v aT_0] ω25 fun (ρ26 : Sl) ω27 =>
  pr.call2 .sl .bool PP F.impl_TurnTableau #[Sl.v ρ26] ω27 fun (ρ28 : Sl) (ρ29 : Bool) ω30 =>
  pr.call1 .bool PP F.laws_eqIntSS #[Sl.v ρ28, Sl.v ρ4] ω30 fun (ρ31 : Bool) ω32 =>
  bif !ρ31 then (
  R (.returned (.bool false)) ω32)
  else (
  bif !(ρ29 == ρ5) then (
  R (.returned (.bool false)) ω32)
  else (
  pr.call1 (.int .i64) PP F.laws_heldIntSS #[Sl.v ρ9, vI 1] ω32 fun (ρ33 : Int) ω34 =>
  bif decide (ρ33 < 0) then (
  R (.returned (.bool false)) ω34)
  else (
  bif ρ33 != ρ22 then (
  R (.returned (.bool false)) ω34)
  else (
  R (.returned (.bool true)) ω34)))))))))))))) := by kernel_rfl
theorem E_s (aT_0 : Sl) (w : World) (R : Ending → World → Prop) : E std aT_0 w R = (
  call1 (.int .i64) PP F.laws_szIntSS #[Sl.v aT_0, vI 1048576] w fun (ρ0 : Int) ω1 =>
  bif decide (ρ0 < 0) then (
  R (.returned (.bool true)) ω1)
  else (
  call1 .sl PP F.laws_toIntSS #[Sl.v aT_0] ω1 fun (ρ2 : Sl) ω3 =>
  call2 .sl .bool PP F.spec_TurnTableau #[Sl.v ρ2] ω3 fun (ρ4 : Sl) (ρ5 : Bool) ω6 =>
  call1 .sl PP F.laws_toIntSS #[Sl.v aT_0] ω6 fun (ρ7 : Sl) ω8 =>
  call2 .sl .bool PP F.impl_TurnTableau #[Sl.v ρ7] ω8 fun (ρ9 : Sl) (ρ10 : Bool) ω11 =>
  call1 .bool PP F.laws_eqIntSS #[Sl.v ρ9, Sl.v ρ4] ω11 fun (ρ12 : Bool) ω13 =>
  bif !ρ12 then (
  R (.returned (.bool false)) ω13)
  else (
  bif !(ρ10 == ρ5) then (
  R (.returned (.bool false)) ω13)
  else (
  call1 .sl PP F.laws_toIntSS #[Sl.v aT_0] ω13 fun (ρ14 : Sl) ω15 =>
  call1 .bool PP F.laws_eqIntSS #[Sl.v ρ7, Sl.v ρ14] ω15 fun (ρ16 : Bool) ω17 =>
  bif !ρ16 then (
  R (.returned (.bool false)) ω17)
  else (
  call1 (.int .i64) PP F.laws_markIntSS #[Sl.v ρ7, vI 1] ω17 fun (ρ18 : Int) ω19 =>
  bif decide (ρ18 < 0) then (
  R (.returned (.bool false)) ω19)
  else (
  call1 .bool PP F.laws_eqIntSS #[Sl.v ρ9, Sl.v ρ4] ω19 fun (ρ20 : Bool) ω21 =>
  bif !ρ20 then (
  R (.returned (.bool false)) ω21)
  else (
  bif !(ρ10 == ρ5) then (
  R (.returned (.bool false)) ω21)
  else (
  call1 (.int .i64) PP F.laws_markIntSS #[Sl.v ρ9, vI 1] ω21 fun (ρ22 : Int) ω23 =>
  call1 (.int .i64) PP F.laws_heldIntSS #[Sl.v ρ9, vI 1] ω23 fun (ρ24 : Int) ω25 =>
  bif decide (ρ24 < 0) then (
  R (.returned (.bool false)) ω25)
  else (
  bif ρ24 != ρ22 then (
  R (.returned (.bool false)) ω25)
  else (
  call1 .sl PP F.laws_toIntSS #[Sl.v aT_0] ω25 fun (ρ26 : Sl) ω27 =>
  call2 .sl .bool PP F.impl_TurnTableau #[Sl.v ρ26] ω27 fun (ρ28 : Sl) (ρ29 : Bool) ω30 =>
  call1 .bool PP F.laws_eqIntSS #[Sl.v ρ28, Sl.v ρ4] ω30 fun (ρ31 : Bool) ω32 =>
  bif !ρ31 then (
  R (.returned (.bool false)) ω32)
  else (
  bif !(ρ29 == ρ5) then (
  R (.returned (.bool false)) ω32)
  else (
  call1 (.int .i64) PP F.laws_heldIntSS #[Sl.v ρ9, vI 1] ω32 fun (ρ33 : Int) ω34 =>
  bif decide (ρ33 < 0) then (
  R (.returned (.bool false)) ω34)
  else (
  bif ρ33 != ρ22 then (
  R (.returned (.bool false)) ω34)
  else (
  R (.returned (.bool true)) ω34)))))))))))))) := E_eq std aT_0 w R
theorem drawsOk : drawsOk PP cfg okD (codeOf Try.f10) = true := by kernel_rfl
theorem calls (aT_0 : Sl) {w : World} {R : Ending → World → Prop} (h : E std aT_0 w R) : Calls PP F.laws_FnExactTurnTableau #[Sl.v aT_0] w R :=
  calls_of noCount mixed drawOk Try.func10 rfl (c := cfg) (args := [Sl.v aT_0]) rfl (Nat.le_of_ble_eq_true (by kernel_rfl)) drawsOk h
end laws_FnExactTurnTableau

end Go.Proofs.Ytfainpmcdfckkaa
