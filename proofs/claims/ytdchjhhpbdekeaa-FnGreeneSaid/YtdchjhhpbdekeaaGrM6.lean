/- The texts CodeT, CodeS, CodeB, LawSs, LawSz, Tab, Tab2, InsTab, GrLaw in one (gmerge.py). -/
import Derived.Lib.AppendZeros
import Derived.Test.YtdchjhhpbdekeaaGrM5
/- What each function does, step by step, written by a program (Gen.lean); each equation is checked by the kernel. -/
namespace Go.Proofs.Ytdchjhhpbdekeaa
open Go
set_option linter.unusedVariables false
set_option maxRecDepth 100000
namespace impl_form
@[reducible] def cfg : Cfg := ⟨20, [(3, [3, 7, 8, 9])], [(1, [3, 7, 8, 9]), (0, [3])], [], [2], [], [101, 107, 112, 15, 21, 124, 76, 137, 28, 115, 91, 81, 130], [138, 140, 82, 6, 86, 85, 132]⟩
def q2 (pr : Prims) (R : Ending → World → Prop) : Exit → Env → World → Prop := fun ex e w => normQ ex (fun e w => contE pr cfg (sub (codeOf Try.f104) [1, 1, 1]) (fun e w => wpC pr PP cfg (DD pr) (sub (codeOf Try.f104) [1, 1, 1]) (retQ Try.f104.results.toList R) e w) e w) (retQ Try.f104.results.toList R) e w
def q3 (pr : Prims) (R : Ending → World → Prop) : Exit → Env → World → Prop := fun ex e w => blockQ ex 0 (q2 pr R) e w
def emb3 (out_3 : Sl) (t7 : Sl) (t8 : Int) (t9 : Int) : Env := [(3, Sl.v out_3), (7, Sl.v t7), (8, vI t8), (9, vI t9)]
def x0 (out_3 : Sl) : Env := [(3, Sl.v out_3)]
def S3 (pr : Prims) (Q : Exit → Env → World → Prop) : (Env → World → Prop) → Env → World → Prop := fun k e w => wpC pr PP cfg (DD pr) (sub (codeOf Try.f104) [1, 1, 0, 1, 0, 0]) (fun ex e w => normQ ex (fun e' w' => k (Env.restr e' (lookN cfg.loops (keyOf (sub (codeOf Try.f104) [1, 1, 0, 1, 0, 0])))) w') Q e w) e w
def B3 (pr : Prims) (out_3 : Sl) (t7 : Sl) (t8 : Int) (t9 : Int) (w : World) (k : Env → World → Prop) (Q : Exit → Env → World → Prop) : Prop :=
  S3 pr Q k (emb3 out_3 t7 t8 t9) w
def L3 (pr : Prims) (out_3 : Sl) (t7 : Sl) (t8 : Int) (t9 : Int) (w : World) (Q : Exit → Env → World → Prop) : Prop :=
  pr.loop (S3 pr Q) (emb3 out_3 t7 t8 t9) w
def E (pr : Prims) (t_0 : Sl) (w : World) (R : Ending → World → Prop) : Prop :=
  wpC pr PP cfg (DD pr) (codeOf Try.f104) (retQ Try.f104.results.toList R) (argE 0 [Sl.v t_0]) w
theorem B3_eq (pr : Prims) (out_3 : Sl) (t7 : Sl) (t8 : Int) (t9 : Int) (w : World) (k : Env → World → Prop) (Q : Exit → Env → World → Prop) : B3 pr out_3 t7 t8 t9 w k Q = (
  bif decide (t9 < t8) then (
  pr.idxK 1 t7 t9 fun (a4 : Addr) =>
  pr.load1 .sl a4 w fun (ξ5 : Sl) =>
  pr.sem1 .sl PP (Instr.buildSlice T_Sint 1 #[(0, vI (ξ5.n : Int))]) w fun (ρ6 : Sl) ω7 =>
  pr.sem1 .sl PP (Builtin.append_ #[T_Sint, T_Sint] T_Sint #[Sl.v out_3, Sl.v ρ6]) ω7 fun (ρ8 : Sl) ω9 =>
  k (emb3 ρ8 t7 t8 (w64 (t9 + 1))) ω9)
  else (
  Q (.exit 0) (x0 out_3) w)) := by kernel_rfl
theorem B3_s (out_3 : Sl) (t7 : Sl) (t8 : Int) (t9 : Int) (w : World) (k : Env → World → Prop) (Q : Exit → Env → World → Prop) : B3 std out_3 t7 t8 t9 w k Q = (
  bif decide (t9 < t8) then (
  idxK 1 t7 t9 fun (a4 : Addr) =>
  load1 .sl a4 w fun (ξ5 : Sl) =>
  sem1 .sl PP (Instr.buildSlice T_Sint 1 #[(0, vI (ξ5.n : Int))]) w fun (ρ6 : Sl) ω7 =>
  sem1 .sl PP (Builtin.append_ #[T_Sint, T_Sint] T_Sint #[Sl.v out_3, Sl.v ρ6]) ω7 fun (ρ8 : Sl) ω9 =>
  k (emb3 ρ8 t7 t8 (w64 (t9 + 1))) ω9)
  else (
  Q (.exit 0) (x0 out_3) w)) := B3_eq std out_3 t7 t8 t9 w k Q
theorem L3_rule (out_3 : Sl) (t7 : Sl) (t8 : Int) (t9 : Int) (w : World) (Q : Exit → Env → World → Prop) (I : Sl → Int → World → Prop) (μ : Sl → Int → World → Nat) (h0 : I out_3 t9 w)
    (h : ∀ (out_3 : Sl) (t9 : Int) (w' : World), I out_3 t9 w' → B3 std out_3 t7 t8 t9 w' (fun e2 w2 => ∃ out_3_n t9_n, e2 = emb3 out_3_n t7 t8 t9_n ∧ I out_3_n t9_n w2 ∧ μ out_3_n t9_n w2 < μ out_3 t9 w') Q) :
    L3 std out_3 t7 t8 t9 w Q := by
  unfold L3
  refine LoopE.intro (σ := Sl × Int) (step := S3 std Q) (fun s => emb3 s.1 t7 t8 s.2) (fun s w => I s.1 s.2 w) (fun s w => μ s.1 s.2 w) (out_3, t9) rfl h0 ?_
  intro s w' hI
  have h1 := h s.1 s.2 w' hI
  unfold B3 at h1
  simp only [Prod.exists]
  exact h1
theorem A3_0_eq (pr : Prims) (out_3 : Sl) (w : World) (R : Ending → World → Prop) : (q3 pr R) (.exit 0) (x0 out_3) w = (
  R (.returned (Sl.v out_3)) w) := by kernel_rfl
theorem A3_0_s (out_3 : Sl) (w : World) (R : Ending → World → Prop) : (q3 std R) (.exit 0) (x0 out_3) w = (
  R (.returned (Sl.v out_3)) w) := A3_0_eq std out_3 w R
theorem E_eq (pr : Prims) (t_0 : Sl) (w : World) (R : Ending → World → Prop) : E pr t_0 w R = (
  pr.sem1 .sl PP (Instr.buildSlice T_Sint 0 #[]) w fun (ρ0 : Sl) ω1 =>
  L3 pr ρ0 t_0 (t_0.n : Int) 0 ω1 (q3 pr R)) := by kernel_rfl
theorem E_s (t_0 : Sl) (w : World) (R : Ending → World → Prop) : E std t_0 w R = (
  sem1 .sl PP (Instr.buildSlice T_Sint 0 #[]) w fun (ρ0 : Sl) ω1 =>
  L3 std ρ0 t_0 (t_0.n : Int) 0 ω1 (q3 std R)) := E_eq std t_0 w R
theorem drawsOk : drawsOk PP cfg okD (codeOf Try.f104) = true := by kernel_rfl
theorem calls (t_0 : Sl) {w : World} {R : Ending → World → Prop} (h : E std t_0 w R) : Calls PP F.impl_form #[Sl.v t_0] w R :=
  calls_of noCount mixed drawOk Try.func104 rfl (c := cfg) (args := [Sl.v t_0]) rfl (Nat.le_of_ble_eq_true (by kernel_rfl)) drawsOk h
end impl_form

namespace spec_l19Lengths
@[reducible] def cfg : Cfg := ⟨21, [(3, [0, 3, 4])], [(1, [0, 3, 4]), (0, [3])], [], [2], [], [101, 107, 112, 15, 21, 124, 76, 137, 28, 115, 91, 81, 130], [138, 140, 82, 6, 86, 85, 132]⟩
def q2 (pr : Prims) (R : Ending → World → Prop) : Exit → Env → World → Prop := fun ex e w => normQ ex (fun e w => contE pr cfg (sub (codeOf Try.f99) [1, 1, 1]) (fun e w => wpC pr PP cfg (DD pr) (sub (codeOf Try.f99) [1, 1, 1]) (retQ Try.f99.results.toList R) e w) e w) (retQ Try.f99.results.toList R) e w
def q3 (pr : Prims) (R : Ending → World → Prop) : Exit → Env → World → Prop := fun ex e w => blockQ ex 0 (q2 pr R) e w
def emb3 (t_0 : Sl) (out_3 : Sl) (k_4 : Int) : Env := [(0, Sl.v t_0), (3, Sl.v out_3), (4, vI k_4)]
def x0 (out_3 : Sl) : Env := [(3, Sl.v out_3)]
def S3 (pr : Prims) (Q : Exit → Env → World → Prop) : (Env → World → Prop) → Env → World → Prop := fun k e w => wpC pr PP cfg (DD pr) (sub (codeOf Try.f99) [1, 1, 0, 1, 0, 0]) (fun ex e w => normQ ex (fun e' w' => k (Env.restr e' (lookN cfg.loops (keyOf (sub (codeOf Try.f99) [1, 1, 0, 1, 0, 0])))) w') Q e w) e w
def B3 (pr : Prims) (t_0 : Sl) (out_3 : Sl) (k_4 : Int) (w : World) (k : Env → World → Prop) (Q : Exit → Env → World → Prop) : Prop :=
  S3 pr Q k (emb3 t_0 out_3 k_4) w
def L3 (pr : Prims) (t_0 : Sl) (out_3 : Sl) (k_4 : Int) (w : World) (Q : Exit → Env → World → Prop) : Prop :=
  pr.loop (S3 pr Q) (emb3 t_0 out_3 k_4) w
def E (pr : Prims) (t_0 : Sl) (w : World) (R : Ending → World → Prop) : Prop :=
  wpC pr PP cfg (DD pr) (codeOf Try.f99) (retQ Try.f99.results.toList R) (argE 0 [Sl.v t_0]) w
theorem B3_eq (pr : Prims) (t_0 : Sl) (out_3 : Sl) (k_4 : Int) (w : World) (k : Env → World → Prop) (Q : Exit → Env → World → Prop) : B3 pr t_0 out_3 k_4 w k Q = (
  bif decide (k_4 < (t_0.n : Int)) then (
  pr.idxK 1 t_0 k_4 fun (a4 : Addr) =>
  pr.load1 .sl a4 w fun (ξ5 : Sl) =>
  pr.sem1 .sl PP (Instr.buildSlice T_Sint 1 #[(0, vI (ξ5.n : Int))]) w fun (ρ6 : Sl) ω7 =>
  pr.sem1 .sl PP (Builtin.append_ #[T_Sint, T_Sint] T_Sint #[Sl.v out_3, Sl.v ρ6]) ω7 fun (ρ8 : Sl) ω9 =>
  k (emb3 t_0 ρ8 (w64 (k_4 + 1))) ω9)
  else (
  Q (.exit 0) (x0 out_3) w)) := by kernel_rfl
theorem B3_s (t_0 : Sl) (out_3 : Sl) (k_4 : Int) (w : World) (k : Env → World → Prop) (Q : Exit → Env → World → Prop) : B3 std t_0 out_3 k_4 w k Q = (
  bif decide (k_4 < (t_0.n : Int)) then (
  idxK 1 t_0 k_4 fun (a4 : Addr) =>
  load1 .sl a4 w fun (ξ5 : Sl) =>
  sem1 .sl PP (Instr.buildSlice T_Sint 1 #[(0, vI (ξ5.n : Int))]) w fun (ρ6 : Sl) ω7 =>
  sem1 .sl PP (Builtin.append_ #[T_Sint, T_Sint] T_Sint #[Sl.v out_3, Sl.v ρ6]) ω7 fun (ρ8 : Sl) ω9 =>
  k (emb3 t_0 ρ8 (w64 (k_4 + 1))) ω9)
  else (
  Q (.exit 0) (x0 out_3) w)) := B3_eq std t_0 out_3 k_4 w k Q
theorem L3_rule (t_0 : Sl) (out_3 : Sl) (k_4 : Int) (w : World) (Q : Exit → Env → World → Prop) (I : Sl → Int → World → Prop) (μ : Sl → Int → World → Nat) (h0 : I out_3 k_4 w)
    (h : ∀ (out_3 : Sl) (k_4 : Int) (w' : World), I out_3 k_4 w' → B3 std t_0 out_3 k_4 w' (fun e2 w2 => ∃ out_3_n k_4_n, e2 = emb3 t_0 out_3_n k_4_n ∧ I out_3_n k_4_n w2 ∧ μ out_3_n k_4_n w2 < μ out_3 k_4 w') Q) :
    L3 std t_0 out_3 k_4 w Q := by
  unfold L3
  refine LoopE.intro (σ := Sl × Int) (step := S3 std Q) (fun s => emb3 t_0 s.1 s.2) (fun s w => I s.1 s.2 w) (fun s w => μ s.1 s.2 w) (out_3, k_4) rfl h0 ?_
  intro s w' hI
  have h1 := h s.1 s.2 w' hI
  unfold B3 at h1
  simp only [Prod.exists]
  exact h1
theorem A3_0_eq (pr : Prims) (out_3 : Sl) (w : World) (R : Ending → World → Prop) : (q3 pr R) (.exit 0) (x0 out_3) w = (
  R (.returned (Sl.v out_3)) w) := by kernel_rfl
theorem A3_0_s (out_3 : Sl) (w : World) (R : Ending → World → Prop) : (q3 std R) (.exit 0) (x0 out_3) w = (
  R (.returned (Sl.v out_3)) w) := A3_0_eq std out_3 w R
theorem E_eq (pr : Prims) (t_0 : Sl) (w : World) (R : Ending → World → Prop) : E pr t_0 w R = (
  pr.sem1 .sl PP (Instr.buildSlice T_Sint 0 #[]) w fun (ρ0 : Sl) ω1 =>
  L3 pr t_0 ρ0 0 ω1 (q3 pr R)) := by kernel_rfl
theorem E_s (t_0 : Sl) (w : World) (R : Ending → World → Prop) : E std t_0 w R = (
  sem1 .sl PP (Instr.buildSlice T_Sint 0 #[]) w fun (ρ0 : Sl) ω1 =>
  L3 std t_0 ρ0 0 ω1 (q3 std R)) := E_eq std t_0 w R
theorem drawsOk : drawsOk PP cfg okD (codeOf Try.f99) = true := by kernel_rfl
theorem calls (t_0 : Sl) {w : World} {R : Ending → World → Prop} (h : E std t_0 w R) : Calls PP F.spec_l19Lengths #[Sl.v t_0] w R :=
  calls_of noCount mixed drawOk Try.func99 rfl (c := cfg) (args := [Sl.v t_0]) rfl (Nat.le_of_ble_eq_true (by kernel_rfl)) drawsOk h
end spec_l19Lengths

namespace impl_IsTableau
@[reducible] def cfg : Cfg := ⟨60, [(7, [0, 3, 4, 17, 18, 19, 24, 25, 26]), (4, [0, 17, 18, 19])], [(3, [0, 3, 4, 17, 18, 19, 24, 25, 26]), (2, [0, 17, 18, 19]), (1, [0, 17, 18, 19]), (0, [])], [], [2], [], [101, 107, 112, 15, 21, 124, 76, 137, 28, 115, 91, 81, 130], [138, 140, 82, 6, 86, 85, 132]⟩
def q8 (pr : Prims) (R : Ending → World → Prop) : Exit → Env → World → Prop := fun ex e w => normQ ex (fun e w => contE pr cfg (sub (codeOf Try.f60) [1, 1, 1]) (fun e w => wpC pr PP cfg (DD pr) (sub (codeOf Try.f60) [1, 1, 1]) (retQ Try.f60.results.toList R) e w) e w) (retQ Try.f60.results.toList R) e w
def q9 (pr : Prims) (R : Ending → World → Prop) : Exit → Env → World → Prop := fun ex e w => blockQ ex 0 (q8 pr R) e w
def q10 (pr : Prims) (k : Env → World → Prop) (Q : Exit → Env → World → Prop) : Exit → Env → World → Prop := fun ex e w => normQ ex (fun e w => contE pr cfg (sub (codeOf Try.f60) [1, 1, 0, 1, 0, 0, 1, 1, 1]) (fun e w => wpC pr PP cfg (DD pr) (sub (codeOf Try.f60) [1, 1, 0, 1, 0, 0, 1, 1, 1]) (fun ex e w => normQ ex (fun e' w' => k (Env.restr e' (lookN cfg.loops (keyOf (sub (codeOf Try.f60) [1, 1, 0, 1, 0, 0])))) w') Q e w) e w) e w) (fun ex e w => normQ ex (fun e' w' => k (Env.restr e' (lookN cfg.loops (keyOf (sub (codeOf Try.f60) [1, 1, 0, 1, 0, 0])))) w') Q e w) e w
def q11 (pr : Prims) (k : Env → World → Prop) (Q : Exit → Env → World → Prop) : Exit → Env → World → Prop := fun ex e w => blockQ ex 1 (q10 pr k Q) e w
def q14 (pr : Prims) (k : Env → World → Prop) (Q : Exit → Env → World → Prop) : Exit → Env → World → Prop := fun ex e w => blockQ ex 2 (q11 pr k Q) e w
def emb4 (t_0 : Sl) (t17 : Sl) (t18 : Int) (t19 : Int) : Env := [(0, Sl.v t_0), (17, Sl.v t17), (18, vI t18), (19, vI t19)]
def emb7 (t_0 : Sl) (i_3 : Int) (row_4 : Sl) (t17 : Sl) (t18 : Int) (t19 : Int) (t24 : Sl) (t25 : Int) (t26 : Int) : Env := [(0, Sl.v t_0), (3, vI i_3), (4, Sl.v row_4), (17, Sl.v t17), (18, vI t18), (19, vI t19), (24, Sl.v t24), (25, vI t25), (26, vI t26)]
def x2 (t_0 : Sl) (t17 : Sl) (t18 : Int) (t19 : Int) : Env := [(0, Sl.v t_0), (17, Sl.v t17), (18, vI t18), (19, vI t19)]
def x0 : Env := []
def S7 (pr : Prims) (Q : Exit → Env → World → Prop) : (Env → World → Prop) → Env → World → Prop := fun k e w => wpC pr PP cfg (DD pr) (sub (codeOf Try.f60) [1, 1, 0, 1, 0, 0, 1, 1, 0, 0, 1, 1, 0, 0]) (fun ex e w => normQ ex (fun e' w' => k (Env.restr e' (lookN cfg.loops (keyOf (sub (codeOf Try.f60) [1, 1, 0, 1, 0, 0, 1, 1, 0, 0, 1, 1, 0, 0])))) w') Q e w) e w
def S4 (pr : Prims) (Q : Exit → Env → World → Prop) : (Env → World → Prop) → Env → World → Prop := fun k e w => wpC pr PP cfg (DD pr) (sub (codeOf Try.f60) [1, 1, 0, 1, 0, 0]) (fun ex e w => normQ ex (fun e' w' => k (Env.restr e' (lookN cfg.loops (keyOf (sub (codeOf Try.f60) [1, 1, 0, 1, 0, 0])))) w') Q e w) e w
def B7 (pr : Prims) (t_0 : Sl) (i_3 : Int) (row_4 : Sl) (t17 : Sl) (t18 : Int) (t19 : Int) (t24 : Sl) (t25 : Int) (t26 : Int) (w : World) (k : Env → World → Prop) (Q : Exit → Env → World → Prop) : Prop :=
  S7 pr Q k (emb7 t_0 i_3 row_4 t17 t18 t19 t24 t25 t26) w
def L7 (pr : Prims) (t_0 : Sl) (i_3 : Int) (row_4 : Sl) (t17 : Sl) (t18 : Int) (t19 : Int) (t24 : Sl) (t25 : Int) (t26 : Int) (w : World) (Q : Exit → Env → World → Prop) : Prop :=
  pr.loop (S7 pr Q) (emb7 t_0 i_3 row_4 t17 t18 t19 t24 t25 t26) w
def B4 (pr : Prims) (t_0 : Sl) (t17 : Sl) (t18 : Int) (t19 : Int) (w : World) (k : Env → World → Prop) (Q : Exit → Env → World → Prop) : Prop :=
  S4 pr Q k (emb4 t_0 t17 t18 t19) w
def L4 (pr : Prims) (t_0 : Sl) (t17 : Sl) (t18 : Int) (t19 : Int) (w : World) (Q : Exit → Env → World → Prop) : Prop :=
  pr.loop (S4 pr Q) (emb4 t_0 t17 t18 t19) w
def E (pr : Prims) (t_0 : Sl) (w : World) (R : Ending → World → Prop) : Prop :=
  wpC pr PP cfg (DD pr) (codeOf Try.f60) (retQ Try.f60.results.toList R) (argE 0 [Sl.v t_0]) w
theorem B7_eq (pr : Prims) (t_0 : Sl) (i_3 : Int) (row_4 : Sl) (t17 : Sl) (t18 : Int) (t19 : Int) (t24 : Sl) (t25 : Int) (t26 : Int) (w : World) (k : Env → World → Prop) (Q : Exit → Env → World → Prop) : B7 pr t_0 i_3 row_4 t17 t18 t19 t24 t25 t26 w k Q = (
  bif decide (t26 < t25) then (
  pr.idxK 1 t24 t26 fun (a15 : Addr) =>
  pr.load1 (.int .i64) a15 w fun (ξ16 : Int) =>
  bif decide (t26 > 0) then (
  pr.idxK 1 row_4 (w64 (t26 - 1)) fun (a17 : Addr) =>
  pr.load1 (.int .i64) a17 w fun (ξ18 : Int) =>
  bif decide (ξ18 > ξ16) then (
  Q .ret [(2, .bool false)] w)
  else (
  bif decide (i_3 > 0) then (
  pr.idxK 1 t_0 (w64 (i_3 - 1)) fun (a19 : Addr) =>
  pr.load1 .sl a19 w fun (ξ20 : Sl) =>
  pr.idxK 1 ξ20 t26 fun (a21 : Addr) =>
  pr.load1 (.int .i64) a21 w fun (ξ22 : Int) =>
  bif decide (ξ22 > ξ16) then (
  Q .ret [(2, .bool false)] w)
  else (
  k (emb7 t_0 i_3 row_4 t17 t18 t19 t24 t25 (w64 (t26 + 1))) w))
  else (
  k (emb7 t_0 i_3 row_4 t17 t18 t19 t24 t25 (w64 (t26 + 1))) w)))
  else (
  bif decide (i_3 > 0) then (
  pr.idxK 1 t_0 (w64 (i_3 - 1)) fun (a23 : Addr) =>
  pr.load1 .sl a23 w fun (ξ24 : Sl) =>
  pr.idxK 1 ξ24 t26 fun (a25 : Addr) =>
  pr.load1 (.int .i64) a25 w fun (ξ26 : Int) =>
  bif decide (ξ26 > ξ16) then (
  Q .ret [(2, .bool false)] w)
  else (
  k (emb7 t_0 i_3 row_4 t17 t18 t19 t24 t25 (w64 (t26 + 1))) w))
  else (
  k (emb7 t_0 i_3 row_4 t17 t18 t19 t24 t25 (w64 (t26 + 1))) w)))
  else (
  Q (.exit 2) (x2 t_0 t17 t18 t19) w)) := by kernel_rfl
theorem B7_s (t_0 : Sl) (i_3 : Int) (row_4 : Sl) (t17 : Sl) (t18 : Int) (t19 : Int) (t24 : Sl) (t25 : Int) (t26 : Int) (w : World) (k : Env → World → Prop) (Q : Exit → Env → World → Prop) : B7 std t_0 i_3 row_4 t17 t18 t19 t24 t25 t26 w k Q = (
  bif decide (t26 < t25) then (
  idxK 1 t24 t26 fun (a15 : Addr) =>
  load1 (.int .i64) a15 w fun (ξ16 : Int) =>
  bif decide (t26 > 0) then (
  idxK 1 row_4 (w64 (t26 - 1)) fun (a17 : Addr) =>
  load1 (.int .i64) a17 w fun (ξ18 : Int) =>
  bif decide (ξ18 > ξ16) then (
  Q .ret [(2, .bool false)] w)
  else (
  bif decide (i_3 > 0) then (
  idxK 1 t_0 (w64 (i_3 - 1)) fun (a19 : Addr) =>
  load1 .sl a19 w fun (ξ20 : Sl) =>
  idxK 1 ξ20 t26 fun (a21 : Addr) =>
  load1 (.int .i64) a21 w fun (ξ22 : Int) =>
  bif decide (ξ22 > ξ16) then (
  Q .ret [(2, .bool false)] w)
  else (
  k (emb7 t_0 i_3 row_4 t17 t18 t19 t24 t25 (w64 (t26 + 1))) w))
  else (
  k (emb7 t_0 i_3 row_4 t17 t18 t19 t24 t25 (w64 (t26 + 1))) w)))
  else (
  bif decide (i_3 > 0) then (
  idxK 1 t_0 (w64 (i_3 - 1)) fun (a23 : Addr) =>
  load1 .sl a23 w fun (ξ24 : Sl) =>
  idxK 1 ξ24 t26 fun (a25 : Addr) =>
  load1 (.int .i64) a25 w fun (ξ26 : Int) =>
  bif decide (ξ26 > ξ16) then (
  Q .ret [(2, .bool false)] w)
  else (
  k (emb7 t_0 i_3 row_4 t17 t18 t19 t24 t25 (w64 (t26 + 1))) w))
  else (
  k (emb7 t_0 i_3 row_4 t17 t18 t19 t24 t25 (w64 (t26 + 1))) w)))
  else (
  Q (.exit 2) (x2 t_0 t17 t18 t19) w)) := B7_eq std t_0 i_3 row_4 t17 t18 t19 t24 t25 t26 w k Q
theorem L7_rule (t_0 : Sl) (i_3 : Int) (row_4 : Sl) (t17 : Sl) (t18 : Int) (t19 : Int) (t24 : Sl) (t25 : Int) (t26 : Int) (w : World) (Q : Exit → Env → World → Prop) (I : Int → World → Prop) (μ : Int → World → Nat) (h0 : I t26 w)
    (h : ∀ (t26 : Int) (w' : World), I t26 w' → B7 std t_0 i_3 row_4 t17 t18 t19 t24 t25 t26 w' (fun e2 w2 => ∃ t26_n, e2 = emb7 t_0 i_3 row_4 t17 t18 t19 t24 t25 t26_n ∧ I t26_n w2 ∧ μ t26_n w2 < μ t26 w') Q) :
    L7 std t_0 i_3 row_4 t17 t18 t19 t24 t25 t26 w Q := by
  unfold L7
  refine LoopE.intro (σ := Int) (step := S7 std Q) (fun s => emb7 t_0 i_3 row_4 t17 t18 t19 t24 t25 s) (fun s w => I s w) (fun s w => μ s w) t26 rfl h0 ?_
  intro s w' hI
  have h1 := h s w' hI
  unfold B7 at h1
  exact h1
theorem A7_2_eq (pr : Prims) (t_0 : Sl) (t17 : Sl) (t18 : Int) (t19 : Int) (w : World) (k : Env → World → Prop) (Q : Exit → Env → World → Prop) : (q14 pr k Q) (.exit 2) (x2 t_0 t17 t18 t19) w = (
  k (emb4 t_0 t17 t18 (w64 (t19 + 1))) w) := by kernel_rfl
theorem A7_2_s (t_0 : Sl) (t17 : Sl) (t18 : Int) (t19 : Int) (w : World) (k : Env → World → Prop) (Q : Exit → Env → World → Prop) : (q14 std k Q) (.exit 2) (x2 t_0 t17 t18 t19) w = (
  k (emb4 t_0 t17 t18 (w64 (t19 + 1))) w) := A7_2_eq std t_0 t17 t18 t19 w k Q
theorem R7_eq (pr : Prims) (v2 : Value) (w : World) (k : Env → World → Prop) (Q : Exit → Env → World → Prop) : (q14 pr k Q) .ret [(2, v2)] w = (
  Q .ret [(2, v2)] w) := by kernel_rfl
theorem R7_s (v2 : Value) (w : World) (k : Env → World → Prop) (Q : Exit → Env → World → Prop) : (q14 std k Q) .ret [(2, v2)] w = (
  Q .ret [(2, v2)] w) := R7_eq std v2 w k Q
theorem B4_eq (pr : Prims) (t_0 : Sl) (t17 : Sl) (t18 : Int) (t19 : Int) (w : World) (k : Env → World → Prop) (Q : Exit → Env → World → Prop) : B4 pr t_0 t17 t18 t19 w k Q = (
  bif decide (t19 < t18) then (
  pr.idxK 1 t17 t19 fun (a12 : Addr) =>
  pr.load1 .sl a12 w fun (ξ13 : Sl) =>
  L7 pr t_0 t19 ξ13 t17 t18 t19 ξ13 (ξ13.n : Int) 0 w (q14 pr k Q))
  else (
  Q (.exit 0) (x0) w)) := by kernel_rfl
theorem B4_s (t_0 : Sl) (t17 : Sl) (t18 : Int) (t19 : Int) (w : World) (k : Env → World → Prop) (Q : Exit → Env → World → Prop) : B4 std t_0 t17 t18 t19 w k Q = (
  bif decide (t19 < t18) then (
  idxK 1 t17 t19 fun (a12 : Addr) =>
  load1 .sl a12 w fun (ξ13 : Sl) =>
  L7 std t_0 t19 ξ13 t17 t18 t19 ξ13 (ξ13.n : Int) 0 w (q14 std k Q))
  else (
  Q (.exit 0) (x0) w)) := B4_eq std t_0 t17 t18 t19 w k Q
theorem L4_rule (t_0 : Sl) (t17 : Sl) (t18 : Int) (t19 : Int) (w : World) (Q : Exit → Env → World → Prop) (I : Int → World → Prop) (μ : Int → World → Nat) (h0 : I t19 w)
    (h : ∀ (t19 : Int) (w' : World), I t19 w' → B4 std t_0 t17 t18 t19 w' (fun e2 w2 => ∃ t19_n, e2 = emb4 t_0 t17 t18 t19_n ∧ I t19_n w2 ∧ μ t19_n w2 < μ t19 w') Q) :
    L4 std t_0 t17 t18 t19 w Q := by
  unfold L4
  refine LoopE.intro (σ := Int) (step := S4 std Q) (fun s => emb4 t_0 t17 t18 s) (fun s w => I s w) (fun s w => μ s w) t19 rfl h0 ?_
  intro s w' hI
  have h1 := h s w' hI
  unfold B4 at h1
  exact h1
theorem A4_0_eq (pr : Prims) (w : World) (R : Ending → World → Prop) : (q9 pr R) (.exit 0) (x0) w = (
  R (.returned (.bool true)) w) := by kernel_rfl
theorem A4_0_s (w : World) (R : Ending → World → Prop) : (q9 std R) (.exit 0) (x0) w = (
  R (.returned (.bool true)) w) := A4_0_eq std w R
theorem R4_eq (pr : Prims) (v2 : Value) (w : World) (R : Ending → World → Prop) : (q9 pr R) .ret [(2, v2)] w = (
  R (.returned (v2)) w) := by kernel_rfl
theorem R4_s (v2 : Value) (w : World) (R : Ending → World → Prop) : (q9 std R) .ret [(2, v2)] w = (
  R (.returned (v2)) w) := R4_eq std v2 w R
theorem E_eq (pr : Prims) (t_0 : Sl) (w : World) (R : Ending → World → Prop) : E pr t_0 w R = (
  pr.call1 .sl PP F.impl_form #[Sl.v t_0] w fun (ρ0 : Sl) ω1 =>
  pr.call1 .bool PP F.impl_isForm #[Sl.v ρ0, vI 8] ω1 fun (ρ2 : Bool) ω3 =>
  bif !ρ2 then (
  R (.returned (.bool false)) ω3)
  else (
  pr.call1 .sl PP F.slices_Concat___int_int_ #[Sl.v t_0] ω3 fun (ρ4 : Sl) ω5 =>
  pr.call1 .bool PP F.impl_isPerm #[Sl.v ρ4] ω5 fun (ρ6 : Bool) ω7 =>
  bif !ρ6 then (
  R (.returned (.bool false)) ω7)
  else (
  L4 pr t_0 t_0 (t_0.n : Int) 0 ω7 (q9 pr R)))) := by kernel_rfl
theorem E_s (t_0 : Sl) (w : World) (R : Ending → World → Prop) : E std t_0 w R = (
  call1 .sl PP F.impl_form #[Sl.v t_0] w fun (ρ0 : Sl) ω1 =>
  call1 .bool PP F.impl_isForm #[Sl.v ρ0, vI 8] ω1 fun (ρ2 : Bool) ω3 =>
  bif !ρ2 then (
  R (.returned (.bool false)) ω3)
  else (
  call1 .sl PP F.slices_Concat___int_int_ #[Sl.v t_0] ω3 fun (ρ4 : Sl) ω5 =>
  call1 .bool PP F.impl_isPerm #[Sl.v ρ4] ω5 fun (ρ6 : Bool) ω7 =>
  bif !ρ6 then (
  R (.returned (.bool false)) ω7)
  else (
  L4 std t_0 t_0 (t_0.n : Int) 0 ω7 (q9 std R)))) := E_eq std t_0 w R
theorem drawsOk : drawsOk PP cfg okD (codeOf Try.f60) = true := by kernel_rfl
theorem calls (t_0 : Sl) {w : World} {R : Ending → World → Prop} (h : E std t_0 w R) : Calls PP F.impl_IsTableau #[Sl.v t_0] w R :=
  calls_of noCount mixed drawOk Try.func60 rfl (c := cfg) (args := [Sl.v t_0]) rfl (Nat.le_of_ble_eq_true (by kernel_rfl)) drawsOk h
end impl_IsTableau

namespace spec_IsTableau
@[reducible] def cfg : Cfg := ⟨80, [(8, [0, 3, 4, 5]), (5, [0, 3, 4])], [(3, [0, 3, 4, 5]), (2, [0, 3, 4]), (1, [0, 3, 4]), (0, [3])], [], [2], [10], [101, 107, 112, 15, 21, 124, 76, 137, 28, 115, 91, 81, 130], [138, 140, 82, 6, 86, 85, 132]⟩
def q6 (pr : Prims) (R : Ending → World → Prop) : Exit → Env → World → Prop := fun ex e w => normQ ex (fun e w => contE pr cfg (sub (codeOf Try.f61) [1, 1, 1, 1]) (fun e w => wpC pr PP cfg (DD pr) (sub (codeOf Try.f61) [1, 1, 1, 1]) (retQ Try.f61.results.toList R) e w) e w) (retQ Try.f61.results.toList R) e w
def q7 (pr : Prims) (R : Ending → World → Prop) : Exit → Env → World → Prop := fun ex e w => blockQ ex 0 (q6 pr R) e w
def q8 (pr : Prims) (k : Env → World → Prop) (Q : Exit → Env → World → Prop) : Exit → Env → World → Prop := fun ex e w => normQ ex (fun e w => contE pr cfg (sub (codeOf Try.f61) [1, 1, 1, 0, 1, 0, 0, 1, 1]) (fun e w => wpC pr PP cfg (DD pr) (sub (codeOf Try.f61) [1, 1, 1, 0, 1, 0, 0, 1, 1]) (fun ex e w => normQ ex (fun e' w' => k (Env.restr e' (lookN cfg.loops (keyOf (sub (codeOf Try.f61) [1, 1, 1, 0, 1, 0, 0])))) w') Q e w) e w) e w) (fun ex e w => normQ ex (fun e' w' => k (Env.restr e' (lookN cfg.loops (keyOf (sub (codeOf Try.f61) [1, 1, 1, 0, 1, 0, 0])))) w') Q e w) e w
def q9 (pr : Prims) (k : Env → World → Prop) (Q : Exit → Env → World → Prop) : Exit → Env → World → Prop := fun ex e w => blockQ ex 1 (q8 pr k Q) e w
def q10 (pr : Prims) (k : Env → World → Prop) (Q : Exit → Env → World → Prop) : Exit → Env → World → Prop := fun ex e w => blockQ ex 2 (q9 pr k Q) e w
def emb5 (t_0 : Sl) (all_3 : Sl) (r_4 : Int) : Env := [(0, Sl.v t_0), (3, Sl.v all_3), (4, vI r_4)]
def emb8 (t_0 : Sl) (all_3 : Sl) (r_4 : Int) (c_5 : Int) : Env := [(0, Sl.v t_0), (3, Sl.v all_3), (4, vI r_4), (5, vI c_5)]
def x2 (t_0 : Sl) (all_3 : Sl) (r_4 : Int) : Env := [(0, Sl.v t_0), (3, Sl.v all_3), (4, vI r_4)]
def x0 (all_3 : Sl) : Env := [(3, Sl.v all_3)]
def S8 (pr : Prims) (Q : Exit → Env → World → Prop) : (Env → World → Prop) → Env → World → Prop := fun k e w => wpC pr PP cfg (DD pr) (sub (codeOf Try.f61) [1, 1, 1, 0, 1, 0, 0, 1, 0, 0, 1, 0, 0]) (fun ex e w => normQ ex (fun e' w' => k (Env.restr e' (lookN cfg.loops (keyOf (sub (codeOf Try.f61) [1, 1, 1, 0, 1, 0, 0, 1, 0, 0, 1, 0, 0])))) w') Q e w) e w
def S5 (pr : Prims) (Q : Exit → Env → World → Prop) : (Env → World → Prop) → Env → World → Prop := fun k e w => wpC pr PP cfg (DD pr) (sub (codeOf Try.f61) [1, 1, 1, 0, 1, 0, 0]) (fun ex e w => normQ ex (fun e' w' => k (Env.restr e' (lookN cfg.loops (keyOf (sub (codeOf Try.f61) [1, 1, 1, 0, 1, 0, 0])))) w') Q e w) e w
def B8 (pr : Prims) (t_0 : Sl) (all_3 : Sl) (r_4 : Int) (c_5 : Int) (w : World) (k : Env → World → Prop) (Q : Exit → Env → World → Prop) : Prop :=
  S8 pr Q k (emb8 t_0 all_3 r_4 c_5) w
def L8 (pr : Prims) (t_0 : Sl) (all_3 : Sl) (r_4 : Int) (c_5 : Int) (w : World) (Q : Exit → Env → World → Prop) : Prop :=
  pr.loop (S8 pr Q) (emb8 t_0 all_3 r_4 c_5) w
def B5 (pr : Prims) (t_0 : Sl) (all_3 : Sl) (r_4 : Int) (w : World) (k : Env → World → Prop) (Q : Exit → Env → World → Prop) : Prop :=
  S5 pr Q k (emb5 t_0 all_3 r_4) w
def L5 (pr : Prims) (t_0 : Sl) (all_3 : Sl) (r_4 : Int) (w : World) (Q : Exit → Env → World → Prop) : Prop :=
  pr.loop (S5 pr Q) (emb5 t_0 all_3 r_4) w
def E (pr : Prims) (t_0 : Sl) (w : World) (R : Ending → World → Prop) : Prop :=
  wpC pr PP cfg (DD pr) (codeOf Try.f61) (retQ Try.f61.results.toList R) (argE 0 [Sl.v t_0]) w
theorem B8_eq (pr : Prims) (t_0 : Sl) (all_3 : Sl) (r_4 : Int) (c_5 : Int) (w : World) (k : Env → World → Prop) (Q : Exit → Env → World → Prop) : B8 pr t_0 all_3 r_4 c_5 w k Q = (
  pr.idxK 1 t_0 r_4 fun (a11 : Addr) =>
  pr.load1 .sl a11 w fun (ξ12 : Sl) =>
  bif decide (c_5 < (ξ12.n : Int)) then (
  bif decide (c_5 > 0) then (
  pr.idxK 1 t_0 r_4 fun (a13 : Addr) =>
  pr.load1 .sl a13 w fun (ξ14 : Sl) =>
  pr.idxK 1 ξ14 c_5 fun (a15 : Addr) =>
  pr.load1 (.int .i64) a15 w fun (ξ16 : Int) =>
  pr.idxK 1 t_0 r_4 fun (a17 : Addr) =>
  pr.load1 .sl a17 w fun (ξ18 : Sl) =>
  pr.idxK 1 ξ18 (w64 (c_5 - 1)) fun (a19 : Addr) =>
  pr.load1 (.int .i64) a19 w fun (ξ20 : Int) =>
  bif decide (ξ16 ≤ ξ20) then (
  pr.drewAll w fun ω21 =>
  Q .ret [(2, .bool false)] ω21)
  else (
  bif decide (r_4 > 0) then (
  pr.idxK 1 t_0 r_4 fun (a22 : Addr) =>
  pr.load1 .sl a22 w fun (ξ23 : Sl) =>
  pr.idxK 1 ξ23 c_5 fun (a24 : Addr) =>
  pr.load1 (.int .i64) a24 w fun (ξ25 : Int) =>
  pr.idxK 1 t_0 (w64 (r_4 - 1)) fun (a26 : Addr) =>
  pr.load1 .sl a26 w fun (ξ27 : Sl) =>
  pr.idxK 1 ξ27 c_5 fun (a28 : Addr) =>
  pr.load1 (.int .i64) a28 w fun (ξ29 : Int) =>
  pr.drewAll w fun ω30 =>
  bif decide (ξ25 ≤ ξ29) then (
  Q .ret [(2, .bool false)] ω30)
  else (
  pr.idxK 1 t_0 r_4 fun (a31 : Addr) =>
  pr.load1 .sl a31 ω30 fun (ξ32 : Sl) =>
  pr.idxK 1 ξ32 c_5 fun (a33 : Addr) =>
  pr.load1 (.int .i64) a33 ω30 fun (ξ34 : Int) =>
  pr.sem1 .sl PP (Instr.buildSlice T_Sint 1 #[(0, vI ξ34)]) ω30 fun (ρ35 : Sl) ω36 =>
  pr.sem1 .sl PP (Builtin.append_ #[T_Sint, T_Sint] T_Sint #[Sl.v all_3, Sl.v ρ35]) ω36 fun (ρ37 : Sl) ω38 =>
  k (emb8 t_0 ρ37 r_4 (w64 (c_5 + 1))) ω38))
  else (
  pr.drewAll w fun ω39 =>
  pr.idxK 1 t_0 r_4 fun (a40 : Addr) =>
  pr.load1 .sl a40 ω39 fun (ξ41 : Sl) =>
  pr.idxK 1 ξ41 c_5 fun (a42 : Addr) =>
  pr.load1 (.int .i64) a42 ω39 fun (ξ43 : Int) =>
  pr.sem1 .sl PP (Instr.buildSlice T_Sint 1 #[(0, vI ξ43)]) ω39 fun (ρ44 : Sl) ω45 =>
  pr.sem1 .sl PP (Builtin.append_ #[T_Sint, T_Sint] T_Sint #[Sl.v all_3, Sl.v ρ44]) ω45 fun (ρ46 : Sl) ω47 =>
  k (emb8 t_0 ρ46 r_4 (w64 (c_5 + 1))) ω47)))
  else (
  bif decide (r_4 > 0) then (
  pr.idxK 1 t_0 r_4 fun (a48 : Addr) =>
  pr.load1 .sl a48 w fun (ξ49 : Sl) =>
  pr.idxK 1 ξ49 c_5 fun (a50 : Addr) =>
  pr.load1 (.int .i64) a50 w fun (ξ51 : Int) =>
  pr.idxK 1 t_0 (w64 (r_4 - 1)) fun (a52 : Addr) =>
  pr.load1 .sl a52 w fun (ξ53 : Sl) =>
  pr.idxK 1 ξ53 c_5 fun (a54 : Addr) =>
  pr.load1 (.int .i64) a54 w fun (ξ55 : Int) =>
  pr.drewAll w fun ω56 =>
  bif decide (ξ51 ≤ ξ55) then (
  Q .ret [(2, .bool false)] ω56)
  else (
  pr.idxK 1 t_0 r_4 fun (a57 : Addr) =>
  pr.load1 .sl a57 ω56 fun (ξ58 : Sl) =>
  pr.idxK 1 ξ58 c_5 fun (a59 : Addr) =>
  pr.load1 (.int .i64) a59 ω56 fun (ξ60 : Int) =>
  pr.sem1 .sl PP (Instr.buildSlice T_Sint 1 #[(0, vI ξ60)]) ω56 fun (ρ61 : Sl) ω62 =>
  pr.sem1 .sl PP (Builtin.append_ #[T_Sint, T_Sint] T_Sint #[Sl.v all_3, Sl.v ρ61]) ω62 fun (ρ63 : Sl) ω64 =>
  k (emb8 t_0 ρ63 r_4 (w64 (c_5 + 1))) ω64))
  else (
  pr.drewAll w fun ω65 =>
  pr.idxK 1 t_0 r_4 fun (a66 : Addr) =>
  pr.load1 .sl a66 ω65 fun (ξ67 : Sl) =>
  pr.idxK 1 ξ67 c_5 fun (a68 : Addr) =>
  pr.load1 (.int .i64) a68 ω65 fun (ξ69 : Int) =>
  pr.sem1 .sl PP (Instr.buildSlice T_Sint 1 #[(0, vI ξ69)]) ω65 fun (ρ70 : Sl) ω71 =>
  pr.sem1 .sl PP (Builtin.append_ #[T_Sint, T_Sint] T_Sint #[Sl.v all_3, Sl.v ρ70]) ω71 fun (ρ72 : Sl) ω73 =>
  k (emb8 t_0 ρ72 r_4 (w64 (c_5 + 1))) ω73)))
  else (
  Q (.exit 2) (x2 t_0 all_3 r_4) w)) := by kernel_rfl
theorem B8_s (t_0 : Sl) (all_3 : Sl) (r_4 : Int) (c_5 : Int) (w : World) (k : Env → World → Prop) (Q : Exit → Env → World → Prop) : B8 std t_0 all_3 r_4 c_5 w k Q = (
  idxK 1 t_0 r_4 fun (a11 : Addr) =>
  load1 .sl a11 w fun (ξ12 : Sl) =>
  bif decide (c_5 < (ξ12.n : Int)) then (
  bif decide (c_5 > 0) then (
  idxK 1 t_0 r_4 fun (a13 : Addr) =>
  load1 .sl a13 w fun (ξ14 : Sl) =>
  idxK 1 ξ14 c_5 fun (a15 : Addr) =>
  load1 (.int .i64) a15 w fun (ξ16 : Int) =>
  idxK 1 t_0 r_4 fun (a17 : Addr) =>
  load1 .sl a17 w fun (ξ18 : Sl) =>
  idxK 1 ξ18 (w64 (c_5 - 1)) fun (a19 : Addr) =>
  load1 (.int .i64) a19 w fun (ξ20 : Int) =>
  bif decide (ξ16 ≤ ξ20) then (
  drewAll w fun ω21 =>
  Q .ret [(2, .bool false)] ω21)
  else (
  bif decide (r_4 > 0) then (
  idxK 1 t_0 r_4 fun (a22 : Addr) =>
  load1 .sl a22 w fun (ξ23 : Sl) =>
  idxK 1 ξ23 c_5 fun (a24 : Addr) =>
  load1 (.int .i64) a24 w fun (ξ25 : Int) =>
  idxK 1 t_0 (w64 (r_4 - 1)) fun (a26 : Addr) =>
  load1 .sl a26 w fun (ξ27 : Sl) =>
  idxK 1 ξ27 c_5 fun (a28 : Addr) =>
  load1 (.int .i64) a28 w fun (ξ29 : Int) =>
  drewAll w fun ω30 =>
  bif decide (ξ25 ≤ ξ29) then (
  Q .ret [(2, .bool false)] ω30)
  else (
  idxK 1 t_0 r_4 fun (a31 : Addr) =>
  load1 .sl a31 ω30 fun (ξ32 : Sl) =>
  idxK 1 ξ32 c_5 fun (a33 : Addr) =>
  load1 (.int .i64) a33 ω30 fun (ξ34 : Int) =>
  sem1 .sl PP (Instr.buildSlice T_Sint 1 #[(0, vI ξ34)]) ω30 fun (ρ35 : Sl) ω36 =>
  sem1 .sl PP (Builtin.append_ #[T_Sint, T_Sint] T_Sint #[Sl.v all_3, Sl.v ρ35]) ω36 fun (ρ37 : Sl) ω38 =>
  k (emb8 t_0 ρ37 r_4 (w64 (c_5 + 1))) ω38))
  else (
  drewAll w fun ω39 =>
  idxK 1 t_0 r_4 fun (a40 : Addr) =>
  load1 .sl a40 ω39 fun (ξ41 : Sl) =>
  idxK 1 ξ41 c_5 fun (a42 : Addr) =>
  load1 (.int .i64) a42 ω39 fun (ξ43 : Int) =>
  sem1 .sl PP (Instr.buildSlice T_Sint 1 #[(0, vI ξ43)]) ω39 fun (ρ44 : Sl) ω45 =>
  sem1 .sl PP (Builtin.append_ #[T_Sint, T_Sint] T_Sint #[Sl.v all_3, Sl.v ρ44]) ω45 fun (ρ46 : Sl) ω47 =>
  k (emb8 t_0 ρ46 r_4 (w64 (c_5 + 1))) ω47)))
  else (
  bif decide (r_4 > 0) then (
  idxK 1 t_0 r_4 fun (a48 : Addr) =>
  load1 .sl a48 w fun (ξ49 : Sl) =>
  idxK 1 ξ49 c_5 fun (a50 : Addr) =>
  load1 (.int .i64) a50 w fun (ξ51 : Int) =>
  idxK 1 t_0 (w64 (r_4 - 1)) fun (a52 : Addr) =>
  load1 .sl a52 w fun (ξ53 : Sl) =>
  idxK 1 ξ53 c_5 fun (a54 : Addr) =>
  load1 (.int .i64) a54 w fun (ξ55 : Int) =>
  drewAll w fun ω56 =>
  bif decide (ξ51 ≤ ξ55) then (
  Q .ret [(2, .bool false)] ω56)
  else (
  idxK 1 t_0 r_4 fun (a57 : Addr) =>
  load1 .sl a57 ω56 fun (ξ58 : Sl) =>
  idxK 1 ξ58 c_5 fun (a59 : Addr) =>
  load1 (.int .i64) a59 ω56 fun (ξ60 : Int) =>
  sem1 .sl PP (Instr.buildSlice T_Sint 1 #[(0, vI ξ60)]) ω56 fun (ρ61 : Sl) ω62 =>
  sem1 .sl PP (Builtin.append_ #[T_Sint, T_Sint] T_Sint #[Sl.v all_3, Sl.v ρ61]) ω62 fun (ρ63 : Sl) ω64 =>
  k (emb8 t_0 ρ63 r_4 (w64 (c_5 + 1))) ω64))
  else (
  drewAll w fun ω65 =>
  idxK 1 t_0 r_4 fun (a66 : Addr) =>
  load1 .sl a66 ω65 fun (ξ67 : Sl) =>
  idxK 1 ξ67 c_5 fun (a68 : Addr) =>
  load1 (.int .i64) a68 ω65 fun (ξ69 : Int) =>
  sem1 .sl PP (Instr.buildSlice T_Sint 1 #[(0, vI ξ69)]) ω65 fun (ρ70 : Sl) ω71 =>
  sem1 .sl PP (Builtin.append_ #[T_Sint, T_Sint] T_Sint #[Sl.v all_3, Sl.v ρ70]) ω71 fun (ρ72 : Sl) ω73 =>
  k (emb8 t_0 ρ72 r_4 (w64 (c_5 + 1))) ω73)))
  else (
  Q (.exit 2) (x2 t_0 all_3 r_4) w)) := B8_eq std t_0 all_3 r_4 c_5 w k Q
theorem L8_rule (t_0 : Sl) (all_3 : Sl) (r_4 : Int) (c_5 : Int) (w : World) (Q : Exit → Env → World → Prop) (I : Sl → Int → World → Prop) (μ : Sl → Int → World → Nat) (h0 : I all_3 c_5 w)
    (h : ∀ (all_3 : Sl) (c_5 : Int) (w' : World), I all_3 c_5 w' → B8 std t_0 all_3 r_4 c_5 w' (fun e2 w2 => ∃ all_3_n c_5_n, e2 = emb8 t_0 all_3_n r_4 c_5_n ∧ I all_3_n c_5_n w2 ∧ μ all_3_n c_5_n w2 < μ all_3 c_5 w') Q) :
    L8 std t_0 all_3 r_4 c_5 w Q := by
  unfold L8
  refine LoopE.intro (σ := Sl × Int) (step := S8 std Q) (fun s => emb8 t_0 s.1 r_4 s.2) (fun s w => I s.1 s.2 w) (fun s w => μ s.1 s.2 w) (all_3, c_5) rfl h0 ?_
  intro s w' hI
  have h1 := h s.1 s.2 w' hI
  unfold B8 at h1
  simp only [Prod.exists]
  exact h1
theorem A8_2_eq (pr : Prims) (t_0 : Sl) (all_3 : Sl) (r_4 : Int) (w : World) (k : Env → World → Prop) (Q : Exit → Env → World → Prop) : (q10 pr k Q) (.exit 2) (x2 t_0 all_3 r_4) w = (
  k (emb5 t_0 all_3 (w64 (r_4 + 1))) w) := by kernel_rfl
theorem A8_2_s (t_0 : Sl) (all_3 : Sl) (r_4 : Int) (w : World) (k : Env → World → Prop) (Q : Exit → Env → World → Prop) : (q10 std k Q) (.exit 2) (x2 t_0 all_3 r_4) w = (
  k (emb5 t_0 all_3 (w64 (r_4 + 1))) w) := A8_2_eq std t_0 all_3 r_4 w k Q
theorem R8_eq (pr : Prims) (v2 : Value) (w : World) (k : Env → World → Prop) (Q : Exit → Env → World → Prop) : (q10 pr k Q) .ret [(2, v2)] w = (
  Q .ret [(2, v2)] w) := by kernel_rfl
theorem R8_s (v2 : Value) (w : World) (k : Env → World → Prop) (Q : Exit → Env → World → Prop) : (q10 std k Q) .ret [(2, v2)] w = (
  Q .ret [(2, v2)] w) := R8_eq std v2 w k Q
theorem B5_eq (pr : Prims) (t_0 : Sl) (all_3 : Sl) (r_4 : Int) (w : World) (k : Env → World → Prop) (Q : Exit → Env → World → Prop) : B5 pr t_0 all_3 r_4 w k Q = (
  bif decide (r_4 < (t_0.n : Int)) then (
  L8 pr t_0 all_3 r_4 0 w (q10 pr k Q))
  else (
  Q (.exit 0) (x0 all_3) w)) := by kernel_rfl
theorem B5_s (t_0 : Sl) (all_3 : Sl) (r_4 : Int) (w : World) (k : Env → World → Prop) (Q : Exit → Env → World → Prop) : B5 std t_0 all_3 r_4 w k Q = (
  bif decide (r_4 < (t_0.n : Int)) then (
  L8 std t_0 all_3 r_4 0 w (q10 std k Q))
  else (
  Q (.exit 0) (x0 all_3) w)) := B5_eq std t_0 all_3 r_4 w k Q
theorem L5_rule (t_0 : Sl) (all_3 : Sl) (r_4 : Int) (w : World) (Q : Exit → Env → World → Prop) (I : Sl → Int → World → Prop) (μ : Sl → Int → World → Nat) (h0 : I all_3 r_4 w)
    (h : ∀ (all_3 : Sl) (r_4 : Int) (w' : World), I all_3 r_4 w' → B5 std t_0 all_3 r_4 w' (fun e2 w2 => ∃ all_3_n r_4_n, e2 = emb5 t_0 all_3_n r_4_n ∧ I all_3_n r_4_n w2 ∧ μ all_3_n r_4_n w2 < μ all_3 r_4 w') Q) :
    L5 std t_0 all_3 r_4 w Q := by
  unfold L5
  refine LoopE.intro (σ := Sl × Int) (step := S5 std Q) (fun s => emb5 t_0 s.1 s.2) (fun s w => I s.1 s.2 w) (fun s w => μ s.1 s.2 w) (all_3, r_4) rfl h0 ?_
  intro s w' hI
  have h1 := h s.1 s.2 w' hI
  unfold B5 at h1
  simp only [Prod.exists]
  exact h1
theorem A5_0_eq (pr : Prims) (all_3 : Sl) (w : World) (R : Ending → World → Prop) : (q7 pr R) (.exit 0) (x0 all_3) w = (
  pr.call1 .bool PP F.spec_IsPerm #[Sl.v all_3] w fun (ρ74 : Bool) ω75 =>
  R (.returned (.bool ρ74)) ω75) := by kernel_rfl
theorem A5_0_s (all_3 : Sl) (w : World) (R : Ending → World → Prop) : (q7 std R) (.exit 0) (x0 all_3) w = (
  call1 .bool PP F.spec_IsPerm #[Sl.v all_3] w fun (ρ74 : Bool) ω75 =>
  R (.returned (.bool ρ74)) ω75) := A5_0_eq std all_3 w R
theorem R5_eq (pr : Prims) (v2 : Value) (w : World) (R : Ending → World → Prop) : (q7 pr R) .ret [(2, v2)] w = (
  R (.returned (v2)) w) := by kernel_rfl
theorem R5_s (v2 : Value) (w : World) (R : Ending → World → Prop) : (q7 std R) .ret [(2, v2)] w = (
  R (.returned (v2)) w) := R5_eq std v2 w R
theorem E_eq (pr : Prims) (t_0 : Sl) (w : World) (R : Ending → World → Prop) : E pr t_0 w R = (
  pr.call1 .sl PP F.spec_l19Lengths #[Sl.v t_0] w fun (ρ0 : Sl) ω1 =>
  pr.call1 .bool PP F.spec_l19Form #[Sl.v ρ0, vI 8] ω1 fun (ρ2 : Bool) ω3 =>
  bif !ρ2 then (
  R (.returned (.bool false)) ω3)
  else (
  pr.sem1 .sl PP (Instr.buildSlice T_Sint 0 #[]) ω3 fun (ρ4 : Sl) ω5 =>
  L5 pr t_0 ρ4 0 ω5 (q7 pr R))) := by kernel_rfl
theorem E_s (t_0 : Sl) (w : World) (R : Ending → World → Prop) : E std t_0 w R = (
  call1 .sl PP F.spec_l19Lengths #[Sl.v t_0] w fun (ρ0 : Sl) ω1 =>
  call1 .bool PP F.spec_l19Form #[Sl.v ρ0, vI 8] ω1 fun (ρ2 : Bool) ω3 =>
  bif !ρ2 then (
  R (.returned (.bool false)) ω3)
  else (
  sem1 .sl PP (Instr.buildSlice T_Sint 0 #[]) ω3 fun (ρ4 : Sl) ω5 =>
  L5 std t_0 ρ4 0 ω5 (q7 std R))) := E_eq std t_0 w R
theorem drawsOk : drawsOk PP cfg okD (codeOf Try.f61) = true := by kernel_rfl
theorem calls (t_0 : Sl) {w : World} {R : Ending → World → Prop} (h : E std t_0 w R) : Calls PP F.spec_IsTableau #[Sl.v t_0] w R :=
  calls_of noCount mixed drawOk Try.func61 rfl (c := cfg) (args := [Sl.v t_0]) rfl (Nat.le_of_ble_eq_true (by kernel_rfl)) drawsOk h
end spec_IsTableau

namespace impl_FormOf
@[reducible] def cfg : Cfg := ⟨8, [], [], [], [2], [], [101, 107, 112, 15, 21, 124, 76, 137, 28, 115, 91, 81, 130], [138, 140, 82, 6, 86, 85, 132]⟩
def E (pr : Prims) (t_0 : Sl) (w : World) (R : Ending → World → Prop) : Prop :=
  wpC pr PP cfg (DD pr) (codeOf Try.f62) (retQ Try.f62.results.toList R) (argE 0 [Sl.v t_0]) w
theorem E_eq (pr : Prims) (t_0 : Sl) (w : World) (R : Ending → World → Prop) : E pr t_0 w R = (
  pr.call1 .bool PP F.impl_IsTableau #[Sl.v t_0] w fun (ρ0 : Bool) ω1 =>
  bif !ρ0 then (
  R (.returned (Sl.v Sl.nil)) ω1)
  else (
  pr.call1 .sl PP F.impl_form #[Sl.v t_0] ω1 fun (ρ2 : Sl) ω3 =>
  R (.returned (Sl.v ρ2)) ω3)) := by kernel_rfl
theorem E_s (t_0 : Sl) (w : World) (R : Ending → World → Prop) : E std t_0 w R = (
  call1 .bool PP F.impl_IsTableau #[Sl.v t_0] w fun (ρ0 : Bool) ω1 =>
  bif !ρ0 then (
  R (.returned (Sl.v Sl.nil)) ω1)
  else (
  call1 .sl PP F.impl_form #[Sl.v t_0] ω1 fun (ρ2 : Sl) ω3 =>
  R (.returned (Sl.v ρ2)) ω3)) := E_eq std t_0 w R
theorem drawsOk : drawsOk PP cfg okD (codeOf Try.f62) = true := by kernel_rfl
theorem calls (t_0 : Sl) {w : World} {R : Ending → World → Prop} (h : E std t_0 w R) : Calls PP F.impl_FormOf #[Sl.v t_0] w R :=
  calls_of noCount mixed drawOk Try.func62 rfl (c := cfg) (args := [Sl.v t_0]) rfl (Nat.le_of_ble_eq_true (by kernel_rfl)) drawsOk h
end impl_FormOf

namespace spec_FormOf
@[reducible] def cfg : Cfg := ⟨9, [], [], [], [2], [], [101, 107, 112, 15, 21, 124, 76, 137, 28, 115, 91, 81, 130], [138, 140, 82, 6, 86, 85, 132]⟩
def E (pr : Prims) (t_0 : Sl) (w : World) (R : Ending → World → Prop) : Prop :=
  wpC pr PP cfg (DD pr) (codeOf Try.f46) (retQ Try.f46.results.toList R) (argE 0 [Sl.v t_0]) w
theorem E_eq (pr : Prims) (t_0 : Sl) (w : World) (R : Ending → World → Prop) : E pr t_0 w R = (
  pr.call1 .bool PP F.spec_IsTableau #[Sl.v t_0] w fun (ρ0 : Bool) ω1 =>
  bif !ρ0 then (
  pr.sem1 .sl PP (Instr.buildSlice T_Sint 0 #[]) ω1 fun (ρ2 : Sl) ω3 =>
  R (.returned (Sl.v ρ2)) ω3)
  else (
  pr.call1 .sl PP F.spec_l19Lengths #[Sl.v t_0] ω1 fun (ρ4 : Sl) ω5 =>
  R (.returned (Sl.v ρ4)) ω5)) := by kernel_rfl
theorem E_s (t_0 : Sl) (w : World) (R : Ending → World → Prop) : E std t_0 w R = (
  call1 .bool PP F.spec_IsTableau #[Sl.v t_0] w fun (ρ0 : Bool) ω1 =>
  bif !ρ0 then (
  sem1 .sl PP (Instr.buildSlice T_Sint 0 #[]) ω1 fun (ρ2 : Sl) ω3 =>
  R (.returned (Sl.v ρ2)) ω3)
  else (
  call1 .sl PP F.spec_l19Lengths #[Sl.v t_0] ω1 fun (ρ4 : Sl) ω5 =>
  R (.returned (Sl.v ρ4)) ω5)) := E_eq std t_0 w R
theorem drawsOk : drawsOk PP cfg okD (codeOf Try.f46) = true := by kernel_rfl
theorem calls (t_0 : Sl) {w : World} {R : Ending → World → Prop} (h : E std t_0 w R) : Calls PP F.spec_FormOf #[Sl.v t_0] w R :=
  calls_of noCount mixed drawOk Try.func46 rfl (c := cfg) (args := [Sl.v t_0]) rfl (Nat.le_of_ble_eq_true (by kernel_rfl)) drawsOk h
end spec_FormOf

namespace impl_TurnTableau
@[reducible] def cfg : Cfg := ⟨46, [(8, [4, 13, 14, 15, 19, 20, 21]), (5, [4, 13, 14, 15])], [(3, [4, 13, 14, 15, 19, 20, 21]), (2, [4, 13, 14, 15]), (1, [4, 13, 14, 15]), (0, [4])], [(12, [4, 7, 8, 13, 14, 15, 19, 20, 21])], [2, 3], [], [101, 107, 112, 15, 21, 124, 76, 137, 28, 115, 91, 81, 130], [138, 140, 82, 6, 86, 85, 132]⟩
def q4 (pr : Prims) (R : Ending → World → Prop) : Exit → Env → World → Prop := fun ex e w => normQ ex (fun e w => contE pr cfg (sub (codeOf Try.f53) [1, 1, 1, 1]) (fun e w => wpC pr PP cfg (DD pr) (sub (codeOf Try.f53) [1, 1, 1, 1]) (retQ Try.f53.results.toList R) e w) e w) (retQ Try.f53.results.toList R) e w
def q5 (pr : Prims) (R : Ending → World → Prop) : Exit → Env → World → Prop := fun ex e w => blockQ ex 0 (q4 pr R) e w
def q6 (pr : Prims) (k : Env → World → Prop) (Q : Exit → Env → World → Prop) : Exit → Env → World → Prop := fun ex e w => normQ ex (fun e w => contE pr cfg (sub (codeOf Try.f53) [1, 1, 1, 0, 1, 0, 0, 1, 1, 1]) (fun e w => wpC pr PP cfg (DD pr) (sub (codeOf Try.f53) [1, 1, 1, 0, 1, 0, 0, 1, 1, 1]) (fun ex e w => normQ ex (fun e' w' => k (Env.restr e' (lookN cfg.loops (keyOf (sub (codeOf Try.f53) [1, 1, 1, 0, 1, 0, 0])))) w') Q e w) e w) e w) (fun ex e w => normQ ex (fun e' w' => k (Env.restr e' (lookN cfg.loops (keyOf (sub (codeOf Try.f53) [1, 1, 1, 0, 1, 0, 0])))) w') Q e w) e w
def q7 (pr : Prims) (k : Env → World → Prop) (Q : Exit → Env → World → Prop) : Exit → Env → World → Prop := fun ex e w => blockQ ex 1 (q6 pr k Q) e w
def q10 (pr : Prims) (k : Env → World → Prop) (Q : Exit → Env → World → Prop) : Exit → Env → World → Prop := fun ex e w => blockQ ex 2 (q7 pr k Q) e w
def q11 (pr : Prims) (k : Env → World → Prop) (Q : Exit → Env → World → Prop) : Exit → Env → World → Prop := fun ex e w => normQ ex (fun e w => contE pr cfg (sub (codeOf Try.f53) [1, 1, 1, 0, 1, 0, 0, 1, 1, 0, 0, 1, 1, 0, 0, 1, 1, 1]) (fun e w => wpC pr PP cfg (DD pr) (sub (codeOf Try.f53) [1, 1, 1, 0, 1, 0, 0, 1, 1, 0, 0, 1, 1, 0, 0, 1, 1, 1]) (fun ex e w => normQ ex (fun e' w' => k (Env.restr e' (lookN cfg.loops (keyOf (sub (codeOf Try.f53) [1, 1, 1, 0, 1, 0, 0, 1, 1, 0, 0, 1, 1, 0, 0])))) w') Q e w) e w) e w) (fun ex e w => normQ ex (fun e' w' => k (Env.restr e' (lookN cfg.loops (keyOf (sub (codeOf Try.f53) [1, 1, 1, 0, 1, 0, 0, 1, 1, 0, 0, 1, 1, 0, 0])))) w') Q e w) e w
def q12 (pr : Prims) (k : Env → World → Prop) (Q : Exit → Env → World → Prop) : Exit → Env → World → Prop := fun ex e w => blockQ ex 3 (q11 pr k Q) e w
def q15 (pr : Prims) (k : Env → World → Prop) (Q : Exit → Env → World → Prop) : Exit → Env → World → Prop := fun ex e w => normQ ex (fun e w => contE pr cfg (sub (codeOf Try.f53) [1, 1, 1, 0, 1, 0, 0, 1, 1, 0, 0, 1, 1, 0, 0, 1, 1, 0, 0, 1, 1]) (fun e w => wpC pr PP cfg (DD pr) (sub (codeOf Try.f53) [1, 1, 1, 0, 1, 0, 0, 1, 1, 0, 0, 1, 1, 0, 0, 1, 1, 0, 0, 1, 1]) (q12 pr k Q) e w) e w) (q12 pr k Q) e w
def emb5 (out_4 : Sl) (t13 : Sl) (t14 : Int) (t15 : Int) : Env := [(4, Sl.v out_4), (13, Sl.v t13), (14, vI t14), (15, vI t15)]
def emb8 (out_4 : Sl) (t13 : Sl) (t14 : Int) (t15 : Int) (t19 : Sl) (t20 : Int) (t21 : Int) : Env := [(4, Sl.v out_4), (13, Sl.v t13), (14, vI t14), (15, vI t15), (19, Sl.v t19), (20, vI t20), (21, vI t21)]
def j12 (out_4 : Sl) (j_7 : Int) (v_8 : Int) (t13 : Sl) (t14 : Int) (t15 : Int) (t19 : Sl) (t20 : Int) (t21 : Int) : Env := [(4, Sl.v out_4), (7, vI j_7), (8, vI v_8), (13, Sl.v t13), (14, vI t14), (15, vI t15), (19, Sl.v t19), (20, vI t20), (21, vI t21)]
def x2 (out_4 : Sl) (t13 : Sl) (t14 : Int) (t15 : Int) : Env := [(4, Sl.v out_4), (13, Sl.v t13), (14, vI t14), (15, vI t15)]
def x0 (out_4 : Sl) : Env := [(4, Sl.v out_4)]
def S8 (pr : Prims) (Q : Exit → Env → World → Prop) : (Env → World → Prop) → Env → World → Prop := fun k e w => wpC pr PP cfg (DD pr) (sub (codeOf Try.f53) [1, 1, 1, 0, 1, 0, 0, 1, 1, 0, 0, 1, 1, 0, 0]) (fun ex e w => normQ ex (fun e' w' => k (Env.restr e' (lookN cfg.loops (keyOf (sub (codeOf Try.f53) [1, 1, 1, 0, 1, 0, 0, 1, 1, 0, 0, 1, 1, 0, 0])))) w') Q e w) e w
def S5 (pr : Prims) (Q : Exit → Env → World → Prop) : (Env → World → Prop) → Env → World → Prop := fun k e w => wpC pr PP cfg (DD pr) (sub (codeOf Try.f53) [1, 1, 1, 0, 1, 0, 0]) (fun ex e w => normQ ex (fun e' w' => k (Env.restr e' (lookN cfg.loops (keyOf (sub (codeOf Try.f53) [1, 1, 1, 0, 1, 0, 0])))) w') Q e w) e w
def J12 (pr : Prims) (out_4 : Sl) (j_7 : Int) (v_8 : Int) (t13 : Sl) (t14 : Int) (t15 : Int) (t19 : Sl) (t20 : Int) (t21 : Int) (w : World) (k : Env → World → Prop) (Q : Exit → Env → World → Prop) : Prop :=
  pr.seg (fun e w => wpC pr PP cfg (DD pr) (sub (codeOf Try.f53) [1, 1, 1, 0, 1, 0, 0, 1, 1, 0, 0, 1, 1, 0, 0, 1, 1, 0, 0, 1, 1]) (q12 pr k Q) e w) (j12 out_4 j_7 v_8 t13 t14 t15 t19 t20 t21) w
def B8 (pr : Prims) (out_4 : Sl) (t13 : Sl) (t14 : Int) (t15 : Int) (t19 : Sl) (t20 : Int) (t21 : Int) (w : World) (k : Env → World → Prop) (Q : Exit → Env → World → Prop) : Prop :=
  S8 pr Q k (emb8 out_4 t13 t14 t15 t19 t20 t21) w
def L8 (pr : Prims) (out_4 : Sl) (t13 : Sl) (t14 : Int) (t15 : Int) (t19 : Sl) (t20 : Int) (t21 : Int) (w : World) (Q : Exit → Env → World → Prop) : Prop :=
  pr.loop (S8 pr Q) (emb8 out_4 t13 t14 t15 t19 t20 t21) w
def B5 (pr : Prims) (out_4 : Sl) (t13 : Sl) (t14 : Int) (t15 : Int) (w : World) (k : Env → World → Prop) (Q : Exit → Env → World → Prop) : Prop :=
  S5 pr Q k (emb5 out_4 t13 t14 t15) w
def L5 (pr : Prims) (out_4 : Sl) (t13 : Sl) (t14 : Int) (t15 : Int) (w : World) (Q : Exit → Env → World → Prop) : Prop :=
  pr.loop (S5 pr Q) (emb5 out_4 t13 t14 t15) w
def E (pr : Prims) (t_0 : Sl) (w : World) (R : Ending → World → Prop) : Prop :=
  wpC pr PP cfg (DD pr) (codeOf Try.f53) (retQ Try.f53.results.toList R) (argE 0 [Sl.v t_0]) w
theorem J12_gen (pr : Prims) (out_4 : Sl) (j_7 : Int) (v_8 : Int) (t13 : Sl) (t14 : Int) (t15 : Int) (t19 : Sl) (t20 : Int) (t21 : Int) (w : World) (k : Env → World → Prop) (Q : Exit → Env → World → Prop) : wpC pr PP cfg (DD pr) (sub (codeOf Try.f53) [1, 1, 1, 0, 1, 0, 0, 1, 1, 0, 0, 1, 1, 0, 0, 1, 1, 0, 0, 1, 1]) (q12 pr k Q) (j12 out_4 j_7 v_8 t13 t14 t15 t19 t20 t21) w = (
  pr.idxK 1 out_4 j_7 fun (a20 : Addr) =>
  pr.load1 .sl a20 w fun (ξ21 : Sl) =>
  pr.sem1 .sl PP (Instr.buildSlice T_Sint 1 #[(0, vI v_8)]) w fun (ρ22 : Sl) ω23 =>
  pr.sem1 .sl PP (Builtin.append_ #[T_Sint, T_Sint] T_Sint #[Sl.v ξ21, Sl.v ρ22]) ω23 fun (ρ24 : Sl) ω25 =>
  pr.idxK 1 out_4 j_7 fun (a26 : Addr) =>
  pr.storeC a26 (Sl.v ρ24) ω25 fun ω27 =>
  k (emb8 out_4 t13 t14 t15 t19 t20 (w64 (t21 + 1))) ω27) := by kernel_rfl
theorem J12_s (out_4 : Sl) (j_7 : Int) (v_8 : Int) (t13 : Sl) (t14 : Int) (t15 : Int) (t19 : Sl) (t20 : Int) (t21 : Int) (w : World) (k : Env → World → Prop) (Q : Exit → Env → World → Prop) : J12 std out_4 j_7 v_8 t13 t14 t15 t19 t20 t21 w k Q = (
  idxK 1 out_4 j_7 fun (a20 : Addr) =>
  load1 .sl a20 w fun (ξ21 : Sl) =>
  sem1 .sl PP (Instr.buildSlice T_Sint 1 #[(0, vI v_8)]) w fun (ρ22 : Sl) ω23 =>
  sem1 .sl PP (Builtin.append_ #[T_Sint, T_Sint] T_Sint #[Sl.v ξ21, Sl.v ρ22]) ω23 fun (ρ24 : Sl) ω25 =>
  idxK 1 out_4 j_7 fun (a26 : Addr) =>
  storeC a26 (Sl.v ρ24) ω25 fun ω27 =>
  k (emb8 out_4 t13 t14 t15 t19 t20 (w64 (t21 + 1))) ω27) := J12_gen std out_4 j_7 v_8 t13 t14 t15 t19 t20 t21 w k Q
theorem B8_eq (pr : Prims) (out_4 : Sl) (t13 : Sl) (t14 : Int) (t15 : Int) (t19 : Sl) (t20 : Int) (t21 : Int) (w : World) (k : Env → World → Prop) (Q : Exit → Env → World → Prop) : B8 pr out_4 t13 t14 t15 t19 t20 t21 w k Q = (
  bif decide (t21 < t20) then (
  pr.idxK 1 t19 t21 fun (a13 : Addr) =>
  pr.load1 (.int .i64) a13 w fun (ξ14 : Int) =>
  bif t21 == (out_4.n : Int) then (
  pr.sem1 .sl PP (Instr.buildSlice T_SSint 1 #[(0, Sl.v Sl.nil)]) w fun (ρ16 : Sl) ω17 =>
  pr.sem1 .sl PP (Builtin.append_ #[T_SSint, T_SSint] T_SSint #[Sl.v out_4, Sl.v ρ16]) ω17 fun (ρ18 : Sl) ω19 =>
  J12 pr ρ18 t21 ξ14 t13 t14 t15 t19 t20 t21 ω19 k Q)
  else (
  J12 pr out_4 t21 ξ14 t13 t14 t15 t19 t20 t21 w k Q))
  else (
  Q (.exit 2) (x2 out_4 t13 t14 t15) w)) := by kernel_rfl
theorem B8_s (out_4 : Sl) (t13 : Sl) (t14 : Int) (t15 : Int) (t19 : Sl) (t20 : Int) (t21 : Int) (w : World) (k : Env → World → Prop) (Q : Exit → Env → World → Prop) : B8 std out_4 t13 t14 t15 t19 t20 t21 w k Q = (
  bif decide (t21 < t20) then (
  idxK 1 t19 t21 fun (a13 : Addr) =>
  load1 (.int .i64) a13 w fun (ξ14 : Int) =>
  bif t21 == (out_4.n : Int) then (
  sem1 .sl PP (Instr.buildSlice T_SSint 1 #[(0, Sl.v Sl.nil)]) w fun (ρ16 : Sl) ω17 =>
  sem1 .sl PP (Builtin.append_ #[T_SSint, T_SSint] T_SSint #[Sl.v out_4, Sl.v ρ16]) ω17 fun (ρ18 : Sl) ω19 =>
  J12 std ρ18 t21 ξ14 t13 t14 t15 t19 t20 t21 ω19 k Q)
  else (
  J12 std out_4 t21 ξ14 t13 t14 t15 t19 t20 t21 w k Q))
  else (
  Q (.exit 2) (x2 out_4 t13 t14 t15) w)) := B8_eq std out_4 t13 t14 t15 t19 t20 t21 w k Q
theorem L8_rule (out_4 : Sl) (t13 : Sl) (t14 : Int) (t15 : Int) (t19 : Sl) (t20 : Int) (t21 : Int) (w : World) (Q : Exit → Env → World → Prop) (I : Sl → Int → World → Prop) (μ : Sl → Int → World → Nat) (h0 : I out_4 t21 w)
    (h : ∀ (out_4 : Sl) (t21 : Int) (w' : World), I out_4 t21 w' → B8 std out_4 t13 t14 t15 t19 t20 t21 w' (fun e2 w2 => ∃ out_4_n t21_n, e2 = emb8 out_4_n t13 t14 t15 t19 t20 t21_n ∧ I out_4_n t21_n w2 ∧ μ out_4_n t21_n w2 < μ out_4 t21 w') Q) :
    L8 std out_4 t13 t14 t15 t19 t20 t21 w Q := by
  unfold L8
  refine LoopE.intro (σ := Sl × Int) (step := S8 std Q) (fun s => emb8 s.1 t13 t14 t15 t19 t20 s.2) (fun s w => I s.1 s.2 w) (fun s w => μ s.1 s.2 w) (out_4, t21) rfl h0 ?_
  intro s w' hI
  have h1 := h s.1 s.2 w' hI
  unfold B8 at h1
  simp only [Prod.exists]
  exact h1
theorem A8_2_eq (pr : Prims) (out_4 : Sl) (t13 : Sl) (t14 : Int) (t15 : Int) (w : World) (k : Env → World → Prop) (Q : Exit → Env → World → Prop) : (q10 pr k Q) (.exit 2) (x2 out_4 t13 t14 t15) w = (
  k (emb5 out_4 t13 t14 (w64 (t15 + 1))) w) := by kernel_rfl
theorem A8_2_s (out_4 : Sl) (t13 : Sl) (t14 : Int) (t15 : Int) (w : World) (k : Env → World → Prop) (Q : Exit → Env → World → Prop) : (q10 std k Q) (.exit 2) (x2 out_4 t13 t14 t15) w = (
  k (emb5 out_4 t13 t14 (w64 (t15 + 1))) w) := A8_2_eq std out_4 t13 t14 t15 w k Q
theorem B5_eq (pr : Prims) (out_4 : Sl) (t13 : Sl) (t14 : Int) (t15 : Int) (w : World) (k : Env → World → Prop) (Q : Exit → Env → World → Prop) : B5 pr out_4 t13 t14 t15 w k Q = (
  bif decide (t15 < t14) then (
  pr.idxK 1 t13 t15 fun (a8 : Addr) =>
  pr.load1 .sl a8 w fun (ξ9 : Sl) =>
  L8 pr out_4 t13 t14 t15 ξ9 (ξ9.n : Int) 0 w (q10 pr k Q))
  else (
  Q (.exit 0) (x0 out_4) w)) := by kernel_rfl
theorem B5_s (out_4 : Sl) (t13 : Sl) (t14 : Int) (t15 : Int) (w : World) (k : Env → World → Prop) (Q : Exit → Env → World → Prop) : B5 std out_4 t13 t14 t15 w k Q = (
  bif decide (t15 < t14) then (
  idxK 1 t13 t15 fun (a8 : Addr) =>
  load1 .sl a8 w fun (ξ9 : Sl) =>
  L8 std out_4 t13 t14 t15 ξ9 (ξ9.n : Int) 0 w (q10 std k Q))
  else (
  Q (.exit 0) (x0 out_4) w)) := B5_eq std out_4 t13 t14 t15 w k Q
theorem L5_rule (out_4 : Sl) (t13 : Sl) (t14 : Int) (t15 : Int) (w : World) (Q : Exit → Env → World → Prop) (I : Sl → Int → World → Prop) (μ : Sl → Int → World → Nat) (h0 : I out_4 t15 w)
    (h : ∀ (out_4 : Sl) (t15 : Int) (w' : World), I out_4 t15 w' → B5 std out_4 t13 t14 t15 w' (fun e2 w2 => ∃ out_4_n t15_n, e2 = emb5 out_4_n t13 t14 t15_n ∧ I out_4_n t15_n w2 ∧ μ out_4_n t15_n w2 < μ out_4 t15 w') Q) :
    L5 std out_4 t13 t14 t15 w Q := by
  unfold L5
  refine LoopE.intro (σ := Sl × Int) (step := S5 std Q) (fun s => emb5 s.1 t13 t14 s.2) (fun s w => I s.1 s.2 w) (fun s w => μ s.1 s.2 w) (out_4, t15) rfl h0 ?_
  intro s w' hI
  have h1 := h s.1 s.2 w' hI
  unfold B5 at h1
  simp only [Prod.exists]
  exact h1
theorem A5_0_eq (pr : Prims) (out_4 : Sl) (w : World) (R : Ending → World → Prop) : (q5 pr R) (.exit 0) (x0 out_4) w = (
  R (.returned (.tuple #[Sl.v out_4, .bool true])) w) := by kernel_rfl
theorem A5_0_s (out_4 : Sl) (w : World) (R : Ending → World → Prop) : (q5 std R) (.exit 0) (x0 out_4) w = (
  R (.returned (.tuple #[Sl.v out_4, .bool true])) w) := A5_0_eq std out_4 w R
theorem E_eq (pr : Prims) (t_0 : Sl) (w : World) (R : Ending → World → Prop) : E pr t_0 w R = (
  pr.call1 .bool PP F.impl_IsTableau #[Sl.v t_0] w fun (ρ0 : Bool) ω1 =>
  bif !ρ0 then (
  R (.returned (.tuple #[Sl.v Sl.nil, .bool false])) ω1)
  else (
  pr.sem1 .sl PP (Instr.buildSlice T_SSint 0 #[]) ω1 fun (ρ2 : Sl) ω3 =>
  L5 pr ρ2 t_0 (t_0.n : Int) 0 ω3 (q5 pr R))) := by kernel_rfl
theorem E_s (t_0 : Sl) (w : World) (R : Ending → World → Prop) : E std t_0 w R = (
  call1 .bool PP F.impl_IsTableau #[Sl.v t_0] w fun (ρ0 : Bool) ω1 =>
  bif !ρ0 then (
  R (.returned (.tuple #[Sl.v Sl.nil, .bool false])) ω1)
  else (
  sem1 .sl PP (Instr.buildSlice T_SSint 0 #[]) ω1 fun (ρ2 : Sl) ω3 =>
  L5 std ρ2 t_0 (t_0.n : Int) 0 ω3 (q5 std R))) := E_eq std t_0 w R
theorem drawsOk : drawsOk PP cfg okD (codeOf Try.f53) = true := by kernel_rfl
theorem calls (t_0 : Sl) {w : World} {R : Ending → World → Prop} (h : E std t_0 w R) : Calls PP F.impl_TurnTableau #[Sl.v t_0] w R :=
  calls_of noCount mixed drawOk Try.func53 rfl (c := cfg) (args := [Sl.v t_0]) rfl (Nat.le_of_ble_eq_true (by kernel_rfl)) drawsOk h
end impl_TurnTableau

namespace spec_TurnTableau
@[reducible] def cfg : Cfg := ⟨57, [(9, [0, 4, 5, 6, 7]), (5, [0, 4, 5])], [(3, [0, 4, 5, 6, 7]), (2, [0, 4, 5, 6]), (1, [0, 4, 5]), (0, [4])], [], [2, 3], [], [101, 107, 112, 15, 21, 124, 76, 137, 28, 115, 91, 81, 130], [138, 140, 82, 6, 86, 85, 132]⟩
def q6 (pr : Prims) (R : Ending → World → Prop) : Exit → Env → World → Prop := fun ex e w => normQ ex (fun e w => contE pr cfg (sub (codeOf Try.f54) [1, 1, 1, 1]) (fun e w => wpC pr PP cfg (DD pr) (sub (codeOf Try.f54) [1, 1, 1, 1]) (retQ Try.f54.results.toList R) e w) e w) (retQ Try.f54.results.toList R) e w
def q7 (pr : Prims) (R : Ending → World → Prop) : Exit → Env → World → Prop := fun ex e w => blockQ ex 0 (q6 pr R) e w
def q10 (pr : Prims) (k : Env → World → Prop) (Q : Exit → Env → World → Prop) : Exit → Env → World → Prop := fun ex e w => normQ ex (fun e w => contE pr cfg (sub (codeOf Try.f54) [1, 1, 1, 0, 1, 0, 0, 1, 1]) (fun e w => wpC pr PP cfg (DD pr) (sub (codeOf Try.f54) [1, 1, 1, 0, 1, 0, 0, 1, 1]) (fun ex e w => normQ ex (fun e' w' => k (Env.restr e' (lookN cfg.loops (keyOf (sub (codeOf Try.f54) [1, 1, 1, 0, 1, 0, 0])))) w') Q e w) e w) e w) (fun ex e w => normQ ex (fun e' w' => k (Env.restr e' (lookN cfg.loops (keyOf (sub (codeOf Try.f54) [1, 1, 1, 0, 1, 0, 0])))) w') Q e w) e w
def q11 (pr : Prims) (k : Env → World → Prop) (Q : Exit → Env → World → Prop) : Exit → Env → World → Prop := fun ex e w => blockQ ex 1 (q10 pr k Q) e w
def q14 (pr : Prims) (k : Env → World → Prop) (Q : Exit → Env → World → Prop) : Exit → Env → World → Prop := fun ex e w => normQ ex (fun e w => contE pr cfg (sub (codeOf Try.f54) [1, 1, 1, 0, 1, 0, 0, 1, 0, 0, 1, 1]) (fun e w => wpC pr PP cfg (DD pr) (sub (codeOf Try.f54) [1, 1, 1, 0, 1, 0, 0, 1, 0, 0, 1, 1]) (q11 pr k Q) e w) e w) (q11 pr k Q) e w
def q15 (pr : Prims) (k : Env → World → Prop) (Q : Exit → Env → World → Prop) : Exit → Env → World → Prop := fun ex e w => blockQ ex 2 (q14 pr k Q) e w
def emb5 (t_0 : Sl) (out_4 : Sl) (c_5 : Int) : Env := [(0, Sl.v t_0), (4, Sl.v out_4), (5, vI c_5)]
def emb9 (t_0 : Sl) (out_4 : Sl) (c_5 : Int) (row_6 : Sl) (r_7 : Int) : Env := [(0, Sl.v t_0), (4, Sl.v out_4), (5, vI c_5), (6, Sl.v row_6), (7, vI r_7)]
def x2 (t_0 : Sl) (out_4 : Sl) (c_5 : Int) (row_6 : Sl) : Env := [(0, Sl.v t_0), (4, Sl.v out_4), (5, vI c_5), (6, Sl.v row_6)]
def x0 (out_4 : Sl) : Env := [(4, Sl.v out_4)]
def S9 (pr : Prims) (Q : Exit → Env → World → Prop) : (Env → World → Prop) → Env → World → Prop := fun k e w => wpC pr PP cfg (DD pr) (sub (codeOf Try.f54) [1, 1, 1, 0, 1, 0, 0, 1, 0, 0, 1, 0, 1, 0, 0]) (fun ex e w => normQ ex (fun e' w' => k (Env.restr e' (lookN cfg.loops (keyOf (sub (codeOf Try.f54) [1, 1, 1, 0, 1, 0, 0, 1, 0, 0, 1, 0, 1, 0, 0])))) w') Q e w) e w
def S5 (pr : Prims) (Q : Exit → Env → World → Prop) : (Env → World → Prop) → Env → World → Prop := fun k e w => wpC pr PP cfg (DD pr) (sub (codeOf Try.f54) [1, 1, 1, 0, 1, 0, 0]) (fun ex e w => normQ ex (fun e' w' => k (Env.restr e' (lookN cfg.loops (keyOf (sub (codeOf Try.f54) [1, 1, 1, 0, 1, 0, 0])))) w') Q e w) e w
def B9 (pr : Prims) (t_0 : Sl) (out_4 : Sl) (c_5 : Int) (row_6 : Sl) (r_7 : Int) (w : World) (k : Env → World → Prop) (Q : Exit → Env → World → Prop) : Prop :=
  S9 pr Q k (emb9 t_0 out_4 c_5 row_6 r_7) w
def L9 (pr : Prims) (t_0 : Sl) (out_4 : Sl) (c_5 : Int) (row_6 : Sl) (r_7 : Int) (w : World) (Q : Exit → Env → World → Prop) : Prop :=
  pr.loop (S9 pr Q) (emb9 t_0 out_4 c_5 row_6 r_7) w
def B5 (pr : Prims) (t_0 : Sl) (out_4 : Sl) (c_5 : Int) (w : World) (k : Env → World → Prop) (Q : Exit → Env → World → Prop) : Prop :=
  S5 pr Q k (emb5 t_0 out_4 c_5) w
def L5 (pr : Prims) (t_0 : Sl) (out_4 : Sl) (c_5 : Int) (w : World) (Q : Exit → Env → World → Prop) : Prop :=
  pr.loop (S5 pr Q) (emb5 t_0 out_4 c_5) w
def E (pr : Prims) (t_0 : Sl) (w : World) (R : Ending → World → Prop) : Prop :=
  wpC pr PP cfg (DD pr) (codeOf Try.f54) (retQ Try.f54.results.toList R) (argE 0 [Sl.v t_0]) w
theorem B9_eq (pr : Prims) (t_0 : Sl) (out_4 : Sl) (c_5 : Int) (row_6 : Sl) (r_7 : Int) (w : World) (k : Env → World → Prop) (Q : Exit → Env → World → Prop) : B9 pr t_0 out_4 c_5 row_6 r_7 w k Q = (
  bif decide (r_7 < (t_0.n : Int)) then (
  pr.idxK 1 t_0 r_7 fun (a16 : Addr) =>
  pr.load1 .sl a16 w fun (ξ17 : Sl) =>
  bif decide (c_5 < (ξ17.n : Int)) then (
  pr.idxK 1 t_0 r_7 fun (a18 : Addr) =>
  pr.load1 .sl a18 w fun (ξ19 : Sl) =>
  pr.idxK 1 ξ19 c_5 fun (a20 : Addr) =>
  pr.load1 (.int .i64) a20 w fun (ξ21 : Int) =>
  pr.sem1 .sl PP (Instr.buildSlice T_Sint 1 #[(0, vI ξ21)]) w fun (ρ22 : Sl) ω23 =>
  pr.sem1 .sl PP (Builtin.append_ #[T_Sint, T_Sint] T_Sint #[Sl.v row_6, Sl.v ρ22]) ω23 fun (ρ24 : Sl) ω25 =>
  k (emb9 t_0 out_4 c_5 ρ24 (w64 (r_7 + 1))) ω25)
  else (
  Q (.exit 2) (x2 t_0 out_4 c_5 row_6) w))
  else (
  Q (.exit 2) (x2 t_0 out_4 c_5 row_6) w)) := by kernel_rfl
theorem B9_s (t_0 : Sl) (out_4 : Sl) (c_5 : Int) (row_6 : Sl) (r_7 : Int) (w : World) (k : Env → World → Prop) (Q : Exit → Env → World → Prop) : B9 std t_0 out_4 c_5 row_6 r_7 w k Q = (
  bif decide (r_7 < (t_0.n : Int)) then (
  idxK 1 t_0 r_7 fun (a16 : Addr) =>
  load1 .sl a16 w fun (ξ17 : Sl) =>
  bif decide (c_5 < (ξ17.n : Int)) then (
  idxK 1 t_0 r_7 fun (a18 : Addr) =>
  load1 .sl a18 w fun (ξ19 : Sl) =>
  idxK 1 ξ19 c_5 fun (a20 : Addr) =>
  load1 (.int .i64) a20 w fun (ξ21 : Int) =>
  sem1 .sl PP (Instr.buildSlice T_Sint 1 #[(0, vI ξ21)]) w fun (ρ22 : Sl) ω23 =>
  sem1 .sl PP (Builtin.append_ #[T_Sint, T_Sint] T_Sint #[Sl.v row_6, Sl.v ρ22]) ω23 fun (ρ24 : Sl) ω25 =>
  k (emb9 t_0 out_4 c_5 ρ24 (w64 (r_7 + 1))) ω25)
  else (
  Q (.exit 2) (x2 t_0 out_4 c_5 row_6) w))
  else (
  Q (.exit 2) (x2 t_0 out_4 c_5 row_6) w)) := B9_eq std t_0 out_4 c_5 row_6 r_7 w k Q
theorem L9_rule (t_0 : Sl) (out_4 : Sl) (c_5 : Int) (row_6 : Sl) (r_7 : Int) (w : World) (Q : Exit → Env → World → Prop) (I : Sl → Int → World → Prop) (μ : Sl → Int → World → Nat) (h0 : I row_6 r_7 w)
    (h : ∀ (row_6 : Sl) (r_7 : Int) (w' : World), I row_6 r_7 w' → B9 std t_0 out_4 c_5 row_6 r_7 w' (fun e2 w2 => ∃ row_6_n r_7_n, e2 = emb9 t_0 out_4 c_5 row_6_n r_7_n ∧ I row_6_n r_7_n w2 ∧ μ row_6_n r_7_n w2 < μ row_6 r_7 w') Q) :
    L9 std t_0 out_4 c_5 row_6 r_7 w Q := by
  unfold L9
  refine LoopE.intro (σ := Sl × Int) (step := S9 std Q) (fun s => emb9 t_0 out_4 c_5 s.1 s.2) (fun s w => I s.1 s.2 w) (fun s w => μ s.1 s.2 w) (row_6, r_7) rfl h0 ?_
  intro s w' hI
  have h1 := h s.1 s.2 w' hI
  unfold B9 at h1
  simp only [Prod.exists]
  exact h1
theorem A9_2_eq (pr : Prims) (t_0 : Sl) (out_4 : Sl) (c_5 : Int) (row_6 : Sl) (w : World) (k : Env → World → Prop) (Q : Exit → Env → World → Prop) : (q15 pr k Q) (.exit 2) (x2 t_0 out_4 c_5 row_6) w = (
  pr.sem1 .sl PP (Instr.buildSlice T_SSint 1 #[(0, Sl.v row_6)]) w fun (ρ26 : Sl) ω27 =>
  pr.sem1 .sl PP (Builtin.append_ #[T_SSint, T_SSint] T_SSint #[Sl.v out_4, Sl.v ρ26]) ω27 fun (ρ28 : Sl) ω29 =>
  k (emb5 t_0 ρ28 (w64 (c_5 + 1))) ω29) := by kernel_rfl
theorem A9_2_s (t_0 : Sl) (out_4 : Sl) (c_5 : Int) (row_6 : Sl) (w : World) (k : Env → World → Prop) (Q : Exit → Env → World → Prop) : (q15 std k Q) (.exit 2) (x2 t_0 out_4 c_5 row_6) w = (
  sem1 .sl PP (Instr.buildSlice T_SSint 1 #[(0, Sl.v row_6)]) w fun (ρ26 : Sl) ω27 =>
  sem1 .sl PP (Builtin.append_ #[T_SSint, T_SSint] T_SSint #[Sl.v out_4, Sl.v ρ26]) ω27 fun (ρ28 : Sl) ω29 =>
  k (emb5 t_0 ρ28 (w64 (c_5 + 1))) ω29) := A9_2_eq std t_0 out_4 c_5 row_6 w k Q
theorem B5_eq (pr : Prims) (t_0 : Sl) (out_4 : Sl) (c_5 : Int) (w : World) (k : Env → World → Prop) (Q : Exit → Env → World → Prop) : B5 pr t_0 out_4 c_5 w k Q = (
  bif decide ((t_0.n : Int) > 0) then (
  pr.idxK 1 t_0 0 fun (a8 : Addr) =>
  pr.load1 .sl a8 w fun (ξ9 : Sl) =>
  bif decide (c_5 < (ξ9.n : Int)) then (
  pr.sem1 .sl PP (Instr.buildSlice T_Sint 0 #[]) w fun (ρ12 : Sl) ω13 =>
  L9 pr t_0 out_4 c_5 ρ12 0 ω13 (q15 pr k Q))
  else (
  Q (.exit 0) (x0 out_4) w))
  else (
  Q (.exit 0) (x0 out_4) w)) := by kernel_rfl
theorem B5_s (t_0 : Sl) (out_4 : Sl) (c_5 : Int) (w : World) (k : Env → World → Prop) (Q : Exit → Env → World → Prop) : B5 std t_0 out_4 c_5 w k Q = (
  bif decide ((t_0.n : Int) > 0) then (
  idxK 1 t_0 0 fun (a8 : Addr) =>
  load1 .sl a8 w fun (ξ9 : Sl) =>
  bif decide (c_5 < (ξ9.n : Int)) then (
  sem1 .sl PP (Instr.buildSlice T_Sint 0 #[]) w fun (ρ12 : Sl) ω13 =>
  L9 std t_0 out_4 c_5 ρ12 0 ω13 (q15 std k Q))
  else (
  Q (.exit 0) (x0 out_4) w))
  else (
  Q (.exit 0) (x0 out_4) w)) := B5_eq std t_0 out_4 c_5 w k Q
theorem L5_rule (t_0 : Sl) (out_4 : Sl) (c_5 : Int) (w : World) (Q : Exit → Env → World → Prop) (I : Sl → Int → World → Prop) (μ : Sl → Int → World → Nat) (h0 : I out_4 c_5 w)
    (h : ∀ (out_4 : Sl) (c_5 : Int) (w' : World), I out_4 c_5 w' → B5 std t_0 out_4 c_5 w' (fun e2 w2 => ∃ out_4_n c_5_n, e2 = emb5 t_0 out_4_n c_5_n ∧ I out_4_n c_5_n w2 ∧ μ out_4_n c_5_n w2 < μ out_4 c_5 w') Q) :
    L5 std t_0 out_4 c_5 w Q := by
  unfold L5
  refine LoopE.intro (σ := Sl × Int) (step := S5 std Q) (fun s => emb5 t_0 s.1 s.2) (fun s w => I s.1 s.2 w) (fun s w => μ s.1 s.2 w) (out_4, c_5) rfl h0 ?_
  intro s w' hI
  have h1 := h s.1 s.2 w' hI
  unfold B5 at h1
  simp only [Prod.exists]
  exact h1
theorem A5_0_eq (pr : Prims) (out_4 : Sl) (w : World) (R : Ending → World → Prop) : (q7 pr R) (.exit 0) (x0 out_4) w = (
  R (.returned (.tuple #[Sl.v out_4, .bool true])) w) := by kernel_rfl
theorem A5_0_s (out_4 : Sl) (w : World) (R : Ending → World → Prop) : (q7 std R) (.exit 0) (x0 out_4) w = (
  R (.returned (.tuple #[Sl.v out_4, .bool true])) w) := A5_0_eq std out_4 w R
theorem E_eq (pr : Prims) (t_0 : Sl) (w : World) (R : Ending → World → Prop) : E pr t_0 w R = (
  pr.call1 .bool PP F.spec_IsTableau #[Sl.v t_0] w fun (ρ0 : Bool) ω1 =>
  bif !ρ0 then (
  pr.sem1 .sl PP (Instr.buildSlice T_SSint 0 #[]) ω1 fun (ρ2 : Sl) ω3 =>
  R (.returned (.tuple #[Sl.v ρ2, .bool false])) ω3)
  else (
  pr.sem1 .sl PP (Instr.buildSlice T_SSint 0 #[]) ω1 fun (ρ4 : Sl) ω5 =>
  L5 pr t_0 ρ4 0 ω5 (q7 pr R))) := by kernel_rfl
theorem E_s (t_0 : Sl) (w : World) (R : Ending → World → Prop) : E std t_0 w R = (
  call1 .bool PP F.spec_IsTableau #[Sl.v t_0] w fun (ρ0 : Bool) ω1 =>
  bif !ρ0 then (
  sem1 .sl PP (Instr.buildSlice T_SSint 0 #[]) ω1 fun (ρ2 : Sl) ω3 =>
  R (.returned (.tuple #[Sl.v ρ2, .bool false])) ω3)
  else (
  sem1 .sl PP (Instr.buildSlice T_SSint 0 #[]) ω1 fun (ρ4 : Sl) ω5 =>
  L5 std t_0 ρ4 0 ω5 (q7 std R))) := E_eq std t_0 w R
theorem drawsOk : drawsOk PP cfg okD (codeOf Try.f54) = true := by kernel_rfl
theorem calls (t_0 : Sl) {w : World} {R : Ending → World → Prop} (h : E std t_0 w R) : Calls PP F.spec_TurnTableau #[Sl.v t_0] w R :=
  calls_of noCount mixed drawOk Try.func54 rfl (c := cfg) (args := [Sl.v t_0]) rfl (Nat.le_of_ble_eq_true (by kernel_rfl)) drawsOk h
end spec_TurnTableau

namespace slices_Concat___int_int_
@[reducible] def cfg : Cfg := ⟨36, [(3, [0, 3, 9, 10, 11]), (11, [6, 25, 26, 27])], [(1, [0, 3, 9, 10, 11]), (0, [0, 3]), (3, [6, 25, 26, 27]), (2, [6])], [], [2], [], [101, 107, 112, 15, 21, 124, 76, 137, 28, 115, 91, 81, 130], [138, 140, 82, 6, 86, 85, 132]⟩
def q0 (pr : Prims) (R : Ending → World → Prop) : Exit → Env → World → Prop := fun ex e w => normQ ex (fun e w => contE pr cfg (sub (codeOf Try.f118) [1, 1, 1]) (fun e w => wpC pr PP cfg (DD pr) (sub (codeOf Try.f118) [1, 1, 1]) (retQ Try.f118.results.toList R) e w) e w) (retQ Try.f118.results.toList R) e w
def q1 (pr : Prims) (R : Ending → World → Prop) : Exit → Env → World → Prop := fun ex e w => blockQ ex 0 (q0 pr R) e w
def q6 (pr : Prims) (R : Ending → World → Prop) : Exit → Env → World → Prop := fun ex e w => normQ ex (fun e w => contE pr cfg (sub (codeOf Try.f118) [1, 1, 1, 1, 1]) (fun e w => wpC pr PP cfg (DD pr) (sub (codeOf Try.f118) [1, 1, 1, 1, 1]) (retQ Try.f118.results.toList R) e w) e w) (retQ Try.f118.results.toList R) e w
def q7 (pr : Prims) (R : Ending → World → Prop) : Exit → Env → World → Prop := fun ex e w => blockQ ex 2 (q6 pr R) e w
def emb3 (slices_0 : Sl) (size_3 : Int) (t9 : Sl) (t10 : Int) (t11 : Int) : Env := [(0, Sl.v slices_0), (3, vI size_3), (9, Sl.v t9), (10, vI t10), (11, vI t11)]
def x0 (slices_0 : Sl) (size_3 : Int) : Env := [(0, Sl.v slices_0), (3, vI size_3)]
def emb11 (newslice_6 : Sl) (t25 : Sl) (t26 : Int) (t27 : Int) : Env := [(6, Sl.v newslice_6), (25, Sl.v t25), (26, vI t26), (27, vI t27)]
def x2 (newslice_6 : Sl) : Env := [(6, Sl.v newslice_6)]
def S3 (pr : Prims) (Q : Exit → Env → World → Prop) : (Env → World → Prop) → Env → World → Prop := fun k e w => wpC pr PP cfg (DD pr) (sub (codeOf Try.f118) [1, 1, 0, 1, 0, 0]) (fun ex e w => normQ ex (fun e' w' => k (Env.restr e' (lookN cfg.loops (keyOf (sub (codeOf Try.f118) [1, 1, 0, 1, 0, 0])))) w') Q e w) e w
def S11 (pr : Prims) (Q : Exit → Env → World → Prop) : (Env → World → Prop) → Env → World → Prop := fun k e w => wpC pr PP cfg (DD pr) (sub (codeOf Try.f118) [1, 1, 1, 1, 0, 1, 0, 0]) (fun ex e w => normQ ex (fun e' w' => k (Env.restr e' (lookN cfg.loops (keyOf (sub (codeOf Try.f118) [1, 1, 1, 1, 0, 1, 0, 0])))) w') Q e w) e w
def B3 (pr : Prims) (slices_0 : Sl) (size_3 : Int) (t9 : Sl) (t10 : Int) (t11 : Int) (w : World) (k : Env → World → Prop) (Q : Exit → Env → World → Prop) : Prop :=
  S3 pr Q k (emb3 slices_0 size_3 t9 t10 t11) w
def L3 (pr : Prims) (slices_0 : Sl) (size_3 : Int) (t9 : Sl) (t10 : Int) (t11 : Int) (w : World) (Q : Exit → Env → World → Prop) : Prop :=
  pr.loop (S3 pr Q) (emb3 slices_0 size_3 t9 t10 t11) w
def B11 (pr : Prims) (newslice_6 : Sl) (t25 : Sl) (t26 : Int) (t27 : Int) (w : World) (k : Env → World → Prop) (Q : Exit → Env → World → Prop) : Prop :=
  S11 pr Q k (emb11 newslice_6 t25 t26 t27) w
def L11 (pr : Prims) (newslice_6 : Sl) (t25 : Sl) (t26 : Int) (t27 : Int) (w : World) (Q : Exit → Env → World → Prop) : Prop :=
  pr.loop (S11 pr Q) (emb11 newslice_6 t25 t26 t27) w
def E (pr : Prims) (slices_0 : Sl) (w : World) (R : Ending → World → Prop) : Prop :=
  wpC pr PP cfg (DD pr) (codeOf Try.f118) (retQ Try.f118.results.toList R) (argE 0 [Sl.v slices_0]) w
theorem B3_eq (pr : Prims) (slices_0 : Sl) (size_3 : Int) (t9 : Sl) (t10 : Int) (t11 : Int) (w : World) (k : Env → World → Prop) (Q : Exit → Env → World → Prop) : B3 pr slices_0 size_3 t9 t10 t11 w k Q = (
  bif decide (t11 < t10) then (
  pr.idxK 1 t9 t11 fun (a2 : Addr) =>
  pr.load1 .sl a2 w fun (ξ3 : Sl) =>
  bif decide ((w64 (size_3 + (ξ3.n : Int))) < 0) then (
  False)
  else (
  k (emb3 slices_0 (w64 (size_3 + (ξ3.n : Int))) t9 t10 (w64 (t11 + 1))) w))
  else (
  Q (.exit 0) (x0 slices_0 size_3) w)) := by kernel_rfl
theorem B3_s (slices_0 : Sl) (size_3 : Int) (t9 : Sl) (t10 : Int) (t11 : Int) (w : World) (k : Env → World → Prop) (Q : Exit → Env → World → Prop) : B3 std slices_0 size_3 t9 t10 t11 w k Q = (
  bif decide (t11 < t10) then (
  idxK 1 t9 t11 fun (a2 : Addr) =>
  load1 .sl a2 w fun (ξ3 : Sl) =>
  bif decide ((w64 (size_3 + (ξ3.n : Int))) < 0) then (
  False)
  else (
  k (emb3 slices_0 (w64 (size_3 + (ξ3.n : Int))) t9 t10 (w64 (t11 + 1))) w))
  else (
  Q (.exit 0) (x0 slices_0 size_3) w)) := B3_eq std slices_0 size_3 t9 t10 t11 w k Q
theorem L3_rule (slices_0 : Sl) (size_3 : Int) (t9 : Sl) (t10 : Int) (t11 : Int) (w : World) (Q : Exit → Env → World → Prop) (I : Int → Int → World → Prop) (μ : Int → Int → World → Nat) (h0 : I size_3 t11 w)
    (h : ∀ (size_3 : Int) (t11 : Int) (w' : World), I size_3 t11 w' → B3 std slices_0 size_3 t9 t10 t11 w' (fun e2 w2 => ∃ size_3_n t11_n, e2 = emb3 slices_0 size_3_n t9 t10 t11_n ∧ I size_3_n t11_n w2 ∧ μ size_3_n t11_n w2 < μ size_3 t11 w') Q) :
    L3 std slices_0 size_3 t9 t10 t11 w Q := by
  unfold L3
  refine LoopE.intro (σ := Int × Int) (step := S3 std Q) (fun s => emb3 slices_0 s.1 t9 t10 s.2) (fun s w => I s.1 s.2 w) (fun s w => μ s.1 s.2 w) (size_3, t11) rfl h0 ?_
  intro s w' hI
  have h1 := h s.1 s.2 w' hI
  unfold B3 at h1
  simp only [Prod.exists]
  exact h1
theorem B11_eq (pr : Prims) (newslice_6 : Sl) (t25 : Sl) (t26 : Int) (t27 : Int) (w : World) (k : Env → World → Prop) (Q : Exit → Env → World → Prop) : B11 pr newslice_6 t25 t26 t27 w k Q = (
  bif decide (t27 < t26) then (
  pr.idxK 1 t25 t27 fun (a8 : Addr) =>
  pr.load1 .sl a8 w fun (ξ9 : Sl) =>
  pr.sem1 .sl PP (Builtin.append_ #[T_Sint, T_Sint] T_Sint #[Sl.v newslice_6, Sl.v ξ9]) w fun (ρ10 : Sl) ω11 =>
  k (emb11 ρ10 t25 t26 (w64 (t27 + 1))) ω11)
  else (
  Q (.exit 2) (x2 newslice_6) w)) := by kernel_rfl
theorem B11_s (newslice_6 : Sl) (t25 : Sl) (t26 : Int) (t27 : Int) (w : World) (k : Env → World → Prop) (Q : Exit → Env → World → Prop) : B11 std newslice_6 t25 t26 t27 w k Q = (
  bif decide (t27 < t26) then (
  idxK 1 t25 t27 fun (a8 : Addr) =>
  load1 .sl a8 w fun (ξ9 : Sl) =>
  sem1 .sl PP (Builtin.append_ #[T_Sint, T_Sint] T_Sint #[Sl.v newslice_6, Sl.v ξ9]) w fun (ρ10 : Sl) ω11 =>
  k (emb11 ρ10 t25 t26 (w64 (t27 + 1))) ω11)
  else (
  Q (.exit 2) (x2 newslice_6) w)) := B11_eq std newslice_6 t25 t26 t27 w k Q
theorem L11_rule (newslice_6 : Sl) (t25 : Sl) (t26 : Int) (t27 : Int) (w : World) (Q : Exit → Env → World → Prop) (I : Sl → Int → World → Prop) (μ : Sl → Int → World → Nat) (h0 : I newslice_6 t27 w)
    (h : ∀ (newslice_6 : Sl) (t27 : Int) (w' : World), I newslice_6 t27 w' → B11 std newslice_6 t25 t26 t27 w' (fun e2 w2 => ∃ newslice_6_n t27_n, e2 = emb11 newslice_6_n t25 t26 t27_n ∧ I newslice_6_n t27_n w2 ∧ μ newslice_6_n t27_n w2 < μ newslice_6 t27 w') Q) :
    L11 std newslice_6 t25 t26 t27 w Q := by
  unfold L11
  refine LoopE.intro (σ := Sl × Int) (step := S11 std Q) (fun s => emb11 s.1 t25 t26 s.2) (fun s w => I s.1 s.2 w) (fun s w => μ s.1 s.2 w) (newslice_6, t27) rfl h0 ?_
  intro s w' hI
  have h1 := h s.1 s.2 w' hI
  unfold B11 at h1
  simp only [Prod.exists]
  exact h1
theorem A11_2_eq (pr : Prims) (newslice_6 : Sl) (w : World) (R : Ending → World → Prop) : (q7 pr R) (.exit 2) (x2 newslice_6) w = (
  R (.returned (Sl.v newslice_6)) w) := by kernel_rfl
theorem A11_2_s (newslice_6 : Sl) (w : World) (R : Ending → World → Prop) : (q7 std R) (.exit 2) (x2 newslice_6) w = (
  R (.returned (Sl.v newslice_6)) w) := A11_2_eq std newslice_6 w R
theorem A3_0_eq (pr : Prims) (slices_0 : Sl) (size_3 : Int) (w : World) (R : Ending → World → Prop) : (q1 pr R) (.exit 0) (x0 slices_0 size_3) w = (
  pr.call1 .sl PP F.slices_Grow___int_int_ #[Sl.v Sl.nil, vI size_3] w fun (ρ4 : Sl) ω5 =>
  L11 pr ρ4 slices_0 (slices_0.n : Int) 0 ω5 (q7 pr R)) := by kernel_rfl
theorem A3_0_s (slices_0 : Sl) (size_3 : Int) (w : World) (R : Ending → World → Prop) : (q1 std R) (.exit 0) (x0 slices_0 size_3) w = (
  call1 .sl PP F.slices_Grow___int_int_ #[Sl.v Sl.nil, vI size_3] w fun (ρ4 : Sl) ω5 =>
  L11 std ρ4 slices_0 (slices_0.n : Int) 0 ω5 (q7 std R)) := A3_0_eq std slices_0 size_3 w R
theorem E_eq (pr : Prims) (slices_0 : Sl) (w : World) (R : Ending → World → Prop) : E pr slices_0 w R = (
  L3 pr slices_0 0 slices_0 (slices_0.n : Int) 0 w (q1 pr R)) := by kernel_rfl
theorem E_s (slices_0 : Sl) (w : World) (R : Ending → World → Prop) : E std slices_0 w R = (
  L3 std slices_0 0 slices_0 (slices_0.n : Int) 0 w (q1 std R)) := E_eq std slices_0 w R
theorem drawsOk : drawsOk PP cfg okD (codeOf Try.f118) = true := by kernel_rfl
theorem calls (slices_0 : Sl) {w : World} {R : Ending → World → Prop} (h : E std slices_0 w R) : Calls PP F.slices_Concat___int_int_ #[Sl.v slices_0] w R :=
  calls_of noCount mixed drawOk Try.func118 rfl (c := cfg) (args := [Sl.v slices_0]) rfl (Nat.le_of_ble_eq_true (by kernel_rfl)) drawsOk h
end slices_Concat___int_int_

namespace slices_Grow___int_int_
@[reducible] def cfg : Cfg := ⟨27, [], [], [(3, [0, 1]), (6, [0])], [4], [], [101, 107, 112, 15, 21, 124, 76, 137, 28, 115, 91, 81, 130], [138, 140, 82, 6, 86, 85, 132]⟩
def q0 (pr : Prims) (R : Ending → World → Prop) : Exit → Env → World → Prop := fun ex e w => normQ ex (fun e w => contE pr cfg (sub (codeOf Try.f135) [1, 1]) (fun e w => wpC pr PP cfg (DD pr) (sub (codeOf Try.f135) [1, 1]) (retQ Try.f135.results.toList R) e w) e w) (retQ Try.f135.results.toList R) e w
def q1 (pr : Prims) (R : Ending → World → Prop) : Exit → Env → World → Prop := fun ex e w => normQ ex (fun e w => contE pr cfg (sub (codeOf Try.f135) [1, 1, 1]) (fun e w => wpC pr PP cfg (DD pr) (sub (codeOf Try.f135) [1, 1, 1]) (retQ Try.f135.results.toList R) e w) e w) (retQ Try.f135.results.toList R) e w
def j3 (s_0 : Sl) (n_1 : Int) : Env := [(0, Sl.v s_0), (1, vI n_1)]
def j6 (s_0 : Sl) : Env := [(0, Sl.v s_0)]
def J6 (pr : Prims) (s_0 : Sl) (w : World) (R : Ending → World → Prop) : Prop :=
  pr.seg (fun e w => wpC pr PP cfg (DD pr) (sub (codeOf Try.f135) [1, 1, 1]) (retQ Try.f135.results.toList R) e w) (j6 s_0) w
def J3 (pr : Prims) (s_0 : Sl) (n_1 : Int) (w : World) (R : Ending → World → Prop) : Prop :=
  pr.seg (fun e w => wpC pr PP cfg (DD pr) (sub (codeOf Try.f135) [1, 1]) (retQ Try.f135.results.toList R) e w) (j3 s_0 n_1) w
def E (pr : Prims) (s_0 : Sl) (n_1 : Int) (w : World) (R : Ending → World → Prop) : Prop :=
  wpC pr PP cfg (DD pr) (codeOf Try.f135) (retQ Try.f135.results.toList R) (argE 0 [Sl.v s_0, vI n_1]) w
theorem J6_gen (pr : Prims) (s_0 : Sl) (w : World) (R : Ending → World → Prop) : wpC pr PP cfg (DD pr) (sub (codeOf Try.f135) [1, 1, 1]) (retQ Try.f135.results.toList R) (j6 s_0) w = (
  R (.returned (Sl.v s_0)) w) := by kernel_rfl
theorem J6_s (s_0 : Sl) (w : World) (R : Ending → World → Prop) : J6 std s_0 w R = (
  R (.returned (Sl.v s_0)) w) := J6_gen std s_0 w R
theorem J3_gen (pr : Prims) (s_0 : Sl) (n_1 : Int) (w : World) (R : Ending → World → Prop) : wpC pr PP cfg (DD pr) (sub (codeOf Try.f135) [1, 1]) (retQ Try.f135.results.toList R) (j3 s_0 n_1) w = (
  bif decide ((w64 (n_1 - (w64 ((s_0.c : Int) - (s_0.n : Int))))) > 0) then (
  pr.cutK 1 s_0 none (some (s_0.c : Int)) fun (s2 : Sl) =>
  pr.sem1 .sl PP (Builtin.append_ #[T_Sint, T_int] T_Sint #[Sl.v s2, vI (w64 (n_1 - (w64 ((s_0.c : Int) - (s_0.n : Int)))))]) w fun (ρ3 : Sl) ω4 =>
  pr.cutK 1 ρ3 none (some (s_0.n : Int)) fun (s5 : Sl) =>
  J6 pr s5 ω4 R)
  else (
  J6 pr s_0 w R)) := by kernel_rfl
theorem J3_s (s_0 : Sl) (n_1 : Int) (w : World) (R : Ending → World → Prop) : J3 std s_0 n_1 w R = (
  bif decide ((w64 (n_1 - (w64 ((s_0.c : Int) - (s_0.n : Int))))) > 0) then (
  cutK 1 s_0 none (some (s_0.c : Int)) fun (s2 : Sl) =>
  sem1 .sl PP (Builtin.append_ #[T_Sint, T_int] T_Sint #[Sl.v s2, vI (w64 (n_1 - (w64 ((s_0.c : Int) - (s_0.n : Int)))))]) w fun (ρ3 : Sl) ω4 =>
  cutK 1 ρ3 none (some (s_0.n : Int)) fun (s5 : Sl) =>
  J6 std s5 ω4 R)
  else (
  J6 std s_0 w R)) := J3_gen std s_0 n_1 w R
theorem E_eq (pr : Prims) (s_0 : Sl) (n_1 : Int) (w : World) (R : Ending → World → Prop) : E pr s_0 n_1 w R = (
  bif decide (n_1 < 0) then (
  False)
  else (
  J3 pr s_0 n_1 w R)) := by kernel_rfl
theorem E_s (s_0 : Sl) (n_1 : Int) (w : World) (R : Ending → World → Prop) : E std s_0 n_1 w R = (
  bif decide (n_1 < 0) then (
  False)
  else (
  J3 std s_0 n_1 w R)) := E_eq std s_0 n_1 w R
theorem drawsOk : drawsOk PP cfg okD (codeOf Try.f135) = true := by kernel_rfl
theorem calls (s_0 : Sl) (n_1 : Int) {w : World} {R : Ending → World → Prop} (h : E std s_0 n_1 w R) : Calls PP F.slices_Grow___int_int_ #[Sl.v s_0, vI n_1] w R :=
  calls_of noCount mixed drawOk Try.func135 rfl (c := cfg) (args := [Sl.v s_0, vI n_1]) rfl (Nat.le_of_ble_eq_true (by kernel_rfl)) drawsOk h
end slices_Grow___int_int_

end Go.Proofs.Ytdchjhhpbdekeaa

/- What each function does, step by step, written by a program (Gen.lean); each equation is checked by the kernel. -/
namespace Go.Proofs.Ytdchjhhpbdekeaa
open Go
set_option linter.unusedVariables false
set_option maxRecDepth 100000
end Go.Proofs.Ytdchjhhpbdekeaa

/- What each function does, step by step, written by a program (Gen.lean); each equation is checked by the kernel. -/
namespace Go.Proofs.Ytdchjhhpbdekeaa
open Go
set_option linter.unusedVariables false
set_option maxRecDepth 100000
end Go.Proofs.Ytdchjhhpbdekeaa

/- The laws' helpers over rows of rows: comparison, marks. -/
namespace Go.Proofs.Ytdchjhhpbdekeaa
open Go Go.RowKit
set_option maxRecDepth 100000

def marksSS (k : Int) : List (List Int) → List (List Int)
  | [] => []
  | L :: r => marks k L.length :: marksSS (k + L.length) r
theorem marksSS_length : ∀ (LL : List (List Int)) (k : Int), (marksSS k LL).length = LL.length
  | [], _ => rfl
  | L :: r, k => by simp [marksSS, marksSS_length r]
theorem marksSS_append : ∀ (A B : List (List Int)) (k : Int), marksSS k (A ++ B) = marksSS k A ++ marksSS (k + tot A) B
  | [], B, k => by simp [marksSS, tot_nil]
  | L :: r, B, k => by
    simp only [List.cons_append, marksSS, marksSS_append r B, tot_cons, List.cons.injEq, true_and]
    congr 2; omega
theorem marksSS_step {LL : List (List Int)} (k : Int) {i : Nat} (h : i < LL.length) :
    (marksSS k (LL.take i) ++ LL.drop i).set i (marks (k + tot (LL.take i)) (LL.getD i []).length) = marksSS k (LL.take (i + 1)) ++ LL.drop (i + 1) := by
  have h1 : LL.drop i = LL[i] :: LL.drop (i + 1) := by rw [List.drop_eq_getElem_cons h]
  have h2 : (marksSS k (LL.take i)).length = i := by rw [marksSS_length]; simp; omega
  rw [h1, List.set_append_right _ _ (by omega), h2, Nat.sub_self, List.set_cons_zero, List.take_succ_eq_append_getElem h, marksSS_append, List.append_assoc, getD_SS h]
  rfl
theorem marksSS_at {LL : List (List Int)} (k : Int) {i : Nat} (h : i < LL.length) : (marksSS k (LL.take i) ++ LL.drop i).getD i [] = LL.getD i [] := by
  have h2 : (marksSS k (LL.take i)).length = i := by rw [marksSS_length]; simp; omega
  rw [List.getD_eq_getElem?_getD, List.getElem?_append_right (by omega), h2, Nat.sub_self, List.getElem?_drop, List.getD_eq_getElem?_getD]
  simp
theorem marksSS_getD : ∀ {LL : List (List Int)} (k : Int) {i : Nat}, i < LL.length → (marksSS k LL).getD i [] = marks (k + tot (LL.take i)) (LL.getD i []).length
  | [], k, i, h => by simp at h
  | L :: r, k, 0, _ => by simp [marksSS, tot_nil]
  | L :: r, k, i + 1, h => by
    have := marksSS_getD (LL := r) (k + L.length) (i := i) (by simpa using h)
    simp only [List.getD_eq_getElem?_getD, marksSS, List.getElem?_cons_succ, List.take_succ_cons, tot_cons] at this ⊢
    rw [this]; congr 1; omega

end Go.Proofs.Ytdchjhhpbdekeaa

/- The laws' helpers over rows of rows: sizes and copies. -/
namespace Go.Proofs.Ytdchjhhpbdekeaa
open Go Go.RowKit
set_option maxRecDepth 100000

def szI (n : Nat) (left : Int) : Int := if left - n < 0 then -1 else left - n
def szW (LL : List (List Int)) (left : Int) : Int := if (LL.length : Int) + tot LL ≤ left then left - ((LL.length : Int) + tot LL) else -1
theorem szW_ok {LL : List (List Int)} {left : Int} (h0 : 0 ≤ left) (h : ¬ szW LL left < 0) : (LL.length : Int) + tot LL ≤ left ∧ szW LL left = left - ((LL.length : Int) + tot LL) := by
  unfold szW at h ⊢
  split at h
  · rename_i h1; exact ⟨h1, by rw [if_pos h1]⟩
  · omega
theorem OwnRows.replicate {w B s n} (h : Own w B T_Sint s (List.replicate n Sl.nil.v)) : OwnRows w B s (List.replicate n Sl.nil) (List.replicate n []) := by
  refine ⟨by simpa using h, by simp, fun i r L e1 e2 => ?_, fun i j r t _ e1 e2 g hg => ?_⟩
  · rw [List.getElem?_replicate] at e1 e2
    split at e1
    · split at e2
      · simp only [Option.some.injEq] at e1 e2; subst e1 e2; exact Own.nil _ _ _
      · omega
    · cases e1
  · rw [List.getElem?_replicate] at e1
    split at e1
    · simp only [Option.some.injEq] at e1; subst e1; simp [Sl.blk, Sl.nil] at hg
    · cases e1
end Go.Proofs.Ytdchjhhpbdekeaa

/- Tableaux: both tests answer alike; the form of one. -/
namespace Go.Proofs.Ytdchjhhpbdekeaa
open Go Go.RowKit
set_option maxRecDepth 100000

def lens (LL : List (List Int)) : List Int := LL.map fun r => (r.length : Int)
theorem lens_length (LL : List (List Int)) : (lens LL).length = LL.length := by simp [lens]
theorem lens_getD (LL : List (List Int)) (i : Nat) : (lens LL).getD i 0 = ((LL.getD i []).length : Int) := by
  simp only [lens, List.getD_eq_getElem?_getD, List.getElem?_map]
  cases LL[i]? <;> simp
theorem lens_take_succ {LL : List (List Int)} {i : Nat} (h : i < LL.length) : lens (LL.take (i + 1)) = lens (LL.take i) ++ [((LL.getD i []).length : Int)] := by
  rw [getD_SS h, List.take_succ_eq_append_getElem h]; simp only [lens, List.map_append, List.map_cons, List.map_nil]
theorem lens_bd {LL : List (List Int)} (ht : tot LL < 2^38) : ∀ x ∈ lens LL, -9223372036854775808 ≤ x ∧ x ≤ 9223372036854775807 := by
  intro x hx
  simp only [lens, List.mem_map] at hx
  obtain ⟨r, hr, rfl⟩ := hx
  have := len_le_tot hr
  omega
theorem sm_lens (LL : List (List Int)) : ∀ k, k ≤ LL.length → sm (lens LL) k = (tot (LL.take k) : Int)
  | 0, _ => by simp [sm, tot_nil]
  | k + 1, hk => by
    have := sm_lens LL k (by omega)
    have h2 := tot_take_succ (LL := LL) (i := k) (by omega)
    rw [sm, this, lens_getD, h2]; omega
def at2 (LL : List (List Int)) (i j : Nat) : Int := (LL.getD i []).getD j 0
def ascAt (LL : List (List Int)) (i j : Nat) : Prop := (0 < j → at2 LL i (j - 1) ≤ at2 LL i j) ∧ (0 < i → at2 LL (i - 1) j ≤ at2 LL i j)
def Asc (LL : List (List Int)) : Prop := ∀ i j, i < LL.length → j < (LL.getD i []).length → ascAt LL i j
structure IsTab (LL : List (List Int)) : Prop where
  form : FormOk (lens LL) 8
  perm : IsP LL.flatten
  asc : Asc LL
theorem FormOk.tot {LL : List (List Int)} (h : FormOk (lens LL) 8) : Ytdchjhhpbdekeaa.tot LL ≤ 8 := by
  rcases Nat.eq_zero_or_pos LL.length with h1 | h1
  · have : LL = [] := List.eq_nil_of_length_eq_zero h1
    subst this; simp [Ytdchjhhpbdekeaa.tot]
  · have h2 := (h (LL.length - 1) (by rw [lens_length]; omega)).2.1
    have h3 := sm_lens LL LL.length (Nat.le_refl _)
    have h4 : sm (lens LL) LL.length = sm (lens LL) (LL.length - 1) + (lens LL).getD (LL.length - 1) 0 := by
      conv => lhs; rw [show LL.length = (LL.length - 1) + 1 by omega]
      rfl
    rw [List.take_length] at h3
    omega
theorem FormOk.step {LL : List (List Int)} (h : FormOk (lens LL) 8) {i : Nat} (hi : i < LL.length) (h0 : 0 < i) : (LL.getD i []).length ≤ (LL.getD (i - 1) []).length := by
  have := (h i (by rw [lens_length]; omega)).2.2 h0
  rw [lens_getD, lens_getD] at this; omega
theorem FormOk.pos {LL : List (List Int)} (h : FormOk (lens LL) 8) {i : Nat} (hi : i < LL.length) : 1 ≤ (LL.getD i []).length := by
  have := (h i (by rw [lens_length]; omega)).1
  rw [lens_getD] at this; omega
theorem FormOk.count {LL : List (List Int)} (h : FormOk (lens LL) 8) : LL.length ≤ 8 := by
  have h1 := sm_ge (L := lens LL) (k := LL.length) (fun j hj => (h j (by rw [lens_length]; omega)).1)
  have h2 := sm_lens LL LL.length (Nat.le_refl _)
  rw [List.take_length] at h2
  have := h.tot
  omega
theorem flatten_length (LL : List (List Int)) : LL.flatten.length = tot LL := by simp [List.length_flatten, tot]
theorem at2_mem {LL : List (List Int)} {i j : Nat} (hi : i < LL.length) (hj : j < (LL.getD i []).length) : at2 LL i j ∈ LL.flatten := by
  rw [at2, getD_lt hj]
  rw [List.mem_flatten]
  exact ⟨LL.getD i [], by rw [getD_SS hi]; exact List.getElem_mem hi, List.getElem_mem hj⟩
theorem flat_take_succ {LL : List (List Int)} {i : Nat} (h : i < LL.length) : (LL.take (i + 1)).flatten = (LL.take i).flatten ++ LL.getD i [] := by
  rw [getD_SS h, List.take_succ_eq_append_getElem h]; simp only [List.flatten_append, List.flatten_cons, List.flatten_nil, List.append_nil]
/-- Two places hold one number in a table without repeats: they are one place. -/
theorem nodup_row {LL : List (List Int)} (hn : LL.flatten.Nodup) {i j k : Nat} (hi : i < LL.length) (hj : j < (LL.getD i []).length) (hk : k < j) : at2 LL i k ≠ at2 LL i j := by
  have h1 : (LL.getD i []).Nodup := by
    rw [getD_SS hi]
    exact List.Nodup.sublist (List.sublist_flatten_of_mem (List.getElem_mem hi)) hn
  rw [List.nodup_iff_pairwise_ne, List.pairwise_iff_getElem] at h1
  rw [at2, at2, getD_lt hj, getD_lt (by omega)]
  exact h1 k j (by omega) hj hk
theorem nodup_col {LL : List (List Int)} (hn : LL.flatten.Nodup) {i j k l : Nat} (hi : i < LL.length) (hk : k < i) (hj : j < (LL.getD i []).length) (hl : l < (LL.getD k []).length) : at2 LL k l ≠ at2 LL i j := by
  have h1 : LL.Pairwise fun A B => ∀ x ∈ A, ∀ y ∈ B, x ≠ y := by
    have := hn
    rw [List.nodup_iff_pairwise_ne, List.pairwise_flatten] at this
    exact this.2
  rw [List.pairwise_iff_getElem] at h1
  rw [at2, at2, getD_lt hj, getD_lt hl]
  have := h1 k i (by omega) hi hk
  exact this _ (by simp only [getD_SS (show k < LL.length by omega)]; exact List.getElem_mem _) _ (by simp only [getD_SS hi]; exact List.getElem_mem _)

theorem c_form {w : World} {a : Sl} {LL : List (List Int)} (ha : RowSS w a LL) (hL : LL.length < 2^38) (ht : tot LL < 2^38) :
    Calls PP F.impl_form #[a.v] w fun e w' => ∃ s : Sl, e = .returned s.v ∧ OwnI w' w.heap.size s (lens LL) ∧ Below w.heap.size w w' := by
  have han := ha.n
  refine impl_form.calls a ?_
  rw [impl_form.E_s]
  refine lit0 oneInt (B := w.heap.size) (Nat.le_refl _) ?_
  intro t0 w1 hown hg _
  refine impl_form.L3_rule _ _ _ _ _ _ (I := fun t k w' => 0 ≤ k ∧ k ≤ LL.length ∧ OwnI w' w.heap.size t (lens (LL.take k.toNat)) ∧ Below w.heap.size w w') (μ := fun _ k _ => (LL.length - k).toNat)
    ⟨by omega, by omega, hown, below_of_grow hg⟩ ?_
  rintro t k w' ⟨h0, hk, ht1, hb⟩
  rw [impl_form.B3_s]
  refine bif_dec (fun h3 => ?_) (fun h3 => ?_)
  · refine RowSS.get (ha.grow hb) h0 (by omega) fun r hr => ?_
    have hrn : r.n = (LL.getD k.toNat []).length := by have := hr.n; simpa using this
    rw [hrn]
    refine append_int ht1 hb.size (by rw [lens_length]; simp; omega) ?_
    intro t' w2 ht2 hg2 _
    refine ⟨t', k + 1, by rw [w64_succ h0 (by omega)], ⟨by omega, by omega, ?_, hb.grown hg2 hb.size (fun g hg => (ht1.lt g hg).1)⟩, by omega⟩
    rw [show (k + 1).toNat = k.toNat + 1 by omega, lens_take_succ (by omega)]
    exact ht2
  · rw [impl_form.A3_0_s]
    rw [show k.toNat = LL.length by omega, List.take_length] at ht1
    exact ⟨t, rfl, ht1, hb⟩
theorem c_l19Lengths {w : World} {a : Sl} {LL : List (List Int)} (ha : RowSS w a LL) (hL : LL.length < 2^38) (ht : tot LL < 2^38) :
    Calls PP F.spec_l19Lengths #[a.v] w fun e w' => ∃ s : Sl, e = .returned s.v ∧ OwnI w' w.heap.size s (lens LL) ∧ Below w.heap.size w w' := by
  have han := ha.n
  refine spec_l19Lengths.calls a ?_
  rw [spec_l19Lengths.E_s]
  refine lit0 oneInt (B := w.heap.size) (Nat.le_refl _) ?_
  intro t0 w1 hown hg _
  refine spec_l19Lengths.L3_rule _ _ _ _ _ (I := fun t k w' => 0 ≤ k ∧ k ≤ LL.length ∧ OwnI w' w.heap.size t (lens (LL.take k.toNat)) ∧ Below w.heap.size w w') (μ := fun _ k _ => (LL.length - k).toNat)
    ⟨by omega, by omega, hown, below_of_grow hg⟩ ?_
  rintro t k w' ⟨h0, hk, ht1, hb⟩
  rw [spec_l19Lengths.B3_s]
  refine bif_dec (fun h3 => ?_) (fun h3 => ?_)
  · refine RowSS.get (ha.grow hb) h0 (by omega) fun r hr => ?_
    have hrn : r.n = (LL.getD k.toNat []).length := by have := hr.n; simpa using this
    rw [hrn]
    refine append_int ht1 hb.size (by rw [lens_length]; simp; omega) ?_
    intro t' w2 ht2 hg2 _
    refine ⟨t', k + 1, by rw [w64_succ h0 (by omega)], ⟨by omega, by omega, ?_, hb.grown hg2 hb.size (fun g hg => (ht1.lt g hg).1)⟩, by omega⟩
    rw [show (k + 1).toNat = k.toNat + 1 by omega, lens_take_succ (by omega)]
    exact ht2
  · rw [spec_l19Lengths.A3_0_s]
    rw [show k.toNat = LL.length by omega, List.take_length] at ht1
    exact ⟨t, rfl, ht1, hb⟩

theorem c_Grow {w : World} {n : Int} (h0 : 0 ≤ n) (hn : n < 2^38) :
    Calls PP F.slices_Grow___int_int_ #[Sl.nil.v, vI n] w fun e w' => ∃ s : Sl, e = .returned s.v ∧ OwnI w' w.heap.size s [] ∧ Below w.heap.size w w' := by
  refine slices_Grow___int_int_.calls Sl.nil n ?_
  rw [slices_Grow___int_int_.E_s]
  refine bif_dec (fun h => by omega) (fun h => ?_)
  rw [slices_Grow___int_int_.J3_s]
  have e0 : w64 (n - w64 ((Sl.nil.c : Int) - (Sl.nil.n : Int))) = n := by
    have : ((Sl.nil.c : Int) - (Sl.nil.n : Int)) = 0 := by simp [Sl.nil]
    rw [this, show w64 0 = 0 from w64_id (by omega) (by omega), w64_id (by omega) (by omega)]; omega
  rw [e0]
  refine bif_dec (fun h1 => ?_) (fun h1 => ?_)
  · refine ⟨by simp, by simp [Sl.nil], by simp [Sl.nil], ?_⟩
    have e1 : Sl.cut 1 Sl.nil ((none : Option Int).getD 0).toNat ((some (Sl.nil.c : Int)).getD (Sl.nil.n : Int)).toNat = Sl.nil := by simp [Sl.cut, Sl.nil]
    rw [e1]
    obtain ⟨i, hu, hi, hz, hs, hb, hzc⟩ := oneInt
    obtain ⟨m, rfl⟩ : ∃ m : Nat, n = m := ⟨n.toNat, by omega⟩
    have hui : PP.underlying T_int = some (.int .i64) := by kernel_rfl
    have hb2 : m * i.bytes ≤ 281474976710656 := by
      have : m * i.bytes ≤ m * 24 := Nat.mul_le_mul_left _ hb
      omega
    have hrun := Go.Lib.run_append_nil_zeros (P := PP) w T_Sint T_int T_Sint T_int i (vI 0) .i64 .i64 hu hui hi hz m (by omega) (by omega) (by omega) hb2
    have hge := grownCap_ge w m 0 T_int
    have hcm := grownCap_le_maxLen w m 0 T_int (by simp only [maxLen]; omega)
    refine ⟨⟨some ⟨w.heap.size, 0, none⟩, m, grownCap w m 0 T_int⟩, _, hrun, ?_⟩
    refine ⟨by simp, by simp [Sl.nil], by simp [Sl.nil], ?_⟩
    show slices_Grow___int_int_.J6 std _ _ _
    rw [slices_Grow___int_int_.J6_s]
    have hnew := heap_alloc_new w.drew (.cells (Builtin.zeroCells (vI 0).cells m ++ Builtin.zeroCells (vI 0).cells (grownCap w m 0 T_int - m)) T_int)
    refine ⟨_, rfl, ⟨by simp [Sl.cut, Sl.nil], by simp [Sl.cut, Sl.nil], by simp [Sl.cut]; exact hcm, .inr ⟨w.heap.size, _, ?_, Nat.le_refl _, hnew, ?_, ?_⟩⟩, ⟨rfl, rfl, rfl, by simp, fun k hk => heap_alloc_old w.drew _ hk⟩⟩
    · simp [Sl.cut]; exact fun _ => rfl
    · simp [Sl.cut, size_zeroCells, hzc]; omega
    · simp [Sl.cut, Sl.nil]
  · rw [slices_Grow___int_int_.J6_s]
    exact ⟨Sl.nil, rfl, Own.nil _ _ _, Below.refl _ _⟩
theorem c_Concat {w : World} {a : Sl} {LL : List (List Int)} (ha : RowSS w a LL) (hL : LL.length < 2^38) (ht : tot LL < 2^38) :
    Calls PP F.slices_Concat___int_int_ #[a.v] w fun e w' => ∃ s : Sl, e = .returned s.v ∧ OwnI w' w.heap.size s LL.flatten ∧ Below w.heap.size w w' := by
  have han := ha.n
  refine slices_Concat___int_int_.calls a ?_
  rw [slices_Concat___int_int_.E_s]
  refine slices_Concat___int_int_.L3_rule _ _ _ _ _ _ _ (I := fun m k w' => w' = w ∧ 0 ≤ k ∧ k ≤ LL.length ∧ m = tot (LL.take k.toNat)) (μ := fun _ k _ => (LL.length - k).toNat) ⟨rfl, by omega, by omega, by simp [tot_nil]⟩ ?_
  rintro m k w' ⟨rfl, h0, hk, hm⟩
  rw [slices_Concat___int_int_.B3_s]
  have h5 := tot_take_le LL k.toNat
  refine bif_dec (fun h3 => ?_) (fun h3 => ?_)
  · have hlt : k.toNat < LL.length := by omega
    refine RowSS.get ha h0 (by omega) fun r hr => ?_
    have hrn : r.n = (LL.getD k.toNat []).length := by have := hr.n; simpa using this
    have h4 := tot_take_succ hlt
    have h5 := tot_take_le LL (k.toNat + 1)
    rw [hrn, w64_id (n := m + ((LL.getD k.toNat []).length : Int)) (by omega) (by omega)]
    refine bif_dec (fun h6 => by omega) (fun h6 => ?_)
    exact ⟨_, k + 1, by rw [w64_succ h0 (by omega)], ⟨rfl, by omega, by omega, by rw [show (k + 1).toNat = k.toNat + 1 by omega, h4]; omega⟩, by omega⟩
  · rw [slices_Concat___int_int_.A3_0_s]
    refine (c_Grow (by omega) (by omega)).mono ?_
    rintro e w1 ⟨s, rfl, hs, hb⟩
    refine ⟨s, rfl, ?_⟩
    refine slices_Concat___int_int_.L11_rule _ _ _ _ _ _ (I := fun t j w2 => 0 ≤ j ∧ j ≤ LL.length ∧ OwnI w2 w'.heap.size t (LL.take j.toNat).flatten ∧ Below w'.heap.size w' w2) (μ := fun _ j _ => (LL.length - j).toNat)
      ⟨by omega, by omega, hs, hb⟩ ?_
    rintro t j w2 ⟨hj0, hj, ht2, hb2⟩
    rw [slices_Concat___int_int_.B11_s]
    refine bif_dec (fun h7 => ?_) (fun h7 => ?_)
    · have hlt : j.toNat < LL.length := by omega
      refine RowSS.get (ha.grow hb2) hj0 (by omega) fun r hr => ?_
      have h4 := tot_take_succ hlt
      have h5 := tot_take_le LL (j.toNat + 1)
      refine append_row oneInt ht2 hb2.size hr (fun v hv => by obtain ⟨x, _, rfl⟩ := List.mem_map.1 hv; exact One.int x) (by rw [List.length_map, List.length_map, flatten_length]; omega) ?_
      intro t' w3 ht3 hg3 _ _
      refine ⟨t', j + 1, by rw [w64_succ hj0 (by omega)], ⟨by omega, by omega, ?_, hb2.grown hg3 hb2.size (fun g hg => (ht2.lt g hg).1)⟩, by omega⟩
      rw [show (j + 1).toNat = j.toNat + 1 by omega, flat_take_succ hlt]
      simpa [OwnI] using ht3
    · rw [slices_Concat___int_int_.A11_2_s]
      rw [show j.toNat = LL.length by omega, List.take_length] at ht2
      exact ⟨t, rfl, ht2, hb2⟩

open Classical in
theorem c_implIsTableau0 {w : World} {a : Sl} {LL : List (List Int)} (ha : RowSS w a LL) (hL : LL.length < 2^38) (ht : tot LL < 2^38) :
    Calls PP F.impl_IsTableau #[a.v] w fun e w' => e = .returned (.bool (decide (IsTab LL))) ∧ Below w.heap.size w w' := by
  have han := ha.n
  refine impl_IsTableau.calls a ?_
  rw [impl_IsTableau.E_s]
  refine (c_form ha hL ht).mono ?_
  rintro e w1 ⟨s, rfl, hs, hb1⟩
  refine ⟨s, rfl, ?_⟩
  refine Quiet.call1 (s := .bool) (c_isForm hs.row (by rw [lens_length]; omega) (lens_bd ht) (by omega) (by omega)) ?_
  intro w2 hd2
  have hb2 := hb1.trans (hd2.below _)
  refine bif_intro (fun h => ?_) (fun h => ?_)
  · have h : ¬ FormOk (lens LL) 8 := by simpa using h
    have : ¬ IsTab LL := fun hh => h hh.form
    exact ⟨by simp [this], hb2⟩
  have hf : FormOk (lens LL) 8 := by simpa using h
  have h8 := hf.tot
  refine (c_Concat (ha.grow hb2) hL ht).mono ?_
  rintro e w3 ⟨t, rfl, ht3, hb23⟩
  refine ⟨t, rfl, ?_⟩
  have hb3 := hb2.trans (hb23.mono hb2.size)
  refine (c_isPerm ht3.row (by rw [flatten_length]; omega)).mono ?_
  rintro e w4 ⟨rfl, hb34⟩
  refine ⟨_, rfl, ?_⟩
  have hb4 := hb3.trans (hb34.mono hb3.size)
  refine bif_intro (fun h => ?_) (fun h => ?_)
  · have h : ¬ PermOk LL.flatten := by simpa using h
    have : ¬ IsTab LL := fun hh => h hh.perm.2
    exact ⟨by simp [this], hb4⟩
  have hp : IsP LL.flatten := ⟨by rw [flatten_length]; exact h8, by simpa using h⟩
  have ha4 := ha.grow hb4
  have bad : ∀ i j, i < LL.length → j < (LL.getD i []).length → ¬ ascAt LL i j → impl_IsTableau.q9 std (fun e w' => e = .returned (.bool (decide (IsTab LL))) ∧ Below w.heap.size w w') .ret [(2, .bool false)] w4 := by
    intro i j hi hj hn
    rw [impl_IsTableau.R4_s]
    have : ¬ IsTab LL := fun hh => hn (hh.asc i j hi hj)
    exact ⟨by simp [this], hb4⟩
  refine impl_IsTableau.L4_rule _ _ _ _ _ _ (I := fun i w' => w' = w4 ∧ 0 ≤ i ∧ i ≤ LL.length ∧ ∀ i', i' < i.toNat → ∀ j', j' < (LL.getD i' []).length → ascAt LL i' j') (μ := fun i _ => (LL.length - i).toNat) ⟨rfl, by omega, by omega, fun i' hi' => by simp at hi'⟩ ?_
  rintro i w' ⟨rfl, h0, hi, hall⟩
  rw [impl_IsTableau.B4_s]
  refine bif_dec (fun h3 => ?_) (fun h3 => ?_)
  · have hlt : i.toNat < LL.length := by omega
    refine RowSS.get ha4 h0 (by omega) fun r hr => ?_
    have hrn : r.n = (LL.getD i.toNat []).length := by have := hr.n; simpa using this
    rw [hrn]
    have h8' : (LL.getD i.toNat []).length ≤ 8 := by
      rw [getD_SS hlt]; exact Nat.le_trans (len_le_tot (List.getElem_mem hlt)) h8
    refine impl_IsTableau.L7_rule _ _ _ _ _ _ _ _ _ _ _ (I := fun j w2 => w2 = w' ∧ 0 ≤ j ∧ j ≤ (LL.getD i.toNat []).length ∧ ∀ j', j' < j.toNat → ascAt LL i.toNat j') (μ := fun j _ => ((LL.getD i.toNat []).length - j).toNat) ⟨rfl, by omega, by omega, fun j' hj' => by simp at hj'⟩ ?_
    rintro j w2 ⟨rfl, hj0, hj, hrow⟩
    rw [impl_IsTableau.B7_s]
    refine bif_dec (fun h5 => ?_) (fun h5 => ?_)
    · have hjlt : j.toNat < (LL.getD i.toNat []).length := by omega
      refine RowI.get hr hj0 (by omega) ?_
      have good : ascAt LL i.toNat j.toNat → ∃ t26_n, impl_IsTableau.emb7 a i r a (a.n : Int) i r ((LL.getD i.toNat []).length : Int) (w64 (j + 1)) = impl_IsTableau.emb7 a i r a (a.n : Int) i r ((LL.getD i.toNat []).length : Int) t26_n ∧
          (w2 = w2 ∧ 0 ≤ t26_n ∧ t26_n ≤ (LL.getD i.toNat []).length ∧ ∀ j', j' < t26_n.toNat → ascAt LL i.toNat j') ∧ ((LL.getD i.toNat []).length - t26_n).toNat < ((LL.getD i.toNat []).length - j).toNat := by
        intro hg
        refine ⟨j + 1, by rw [w64_succ hj0 (by omega)], ⟨rfl, by omega, by omega, fun j' hj' => ?_⟩, by omega⟩
        by_cases e : j' = j.toNat
        · rw [e]; exact hg
        · exact hrow j' (by omega)
      have colpart : (0 < j.toNat → at2 LL i.toNat (j.toNat - 1) ≤ at2 LL i.toNat j.toNat) → (bif decide (i > 0) then (idxK 1 a (w64 (i - 1)) fun a19 => load1 .sl a19 w2 fun ξ20 => idxK 1 ξ20 j fun a21 => load1 (.int .i64) a21 w2 fun (ξ22 : Int) => bif decide (ξ22 > at2 LL i.toNat j.toNat) then
          ((impl_IsTableau.q14 std (fun e2 w2_1 => ∃ t19_n, e2 = impl_IsTableau.emb4 a a (a.n : Int) t19_n ∧ (w2_1 = w2 ∧ 0 ≤ t19_n ∧ t19_n ≤ LL.length ∧ ∀ i', i' < t19_n.toNat → ∀ j', j' < (LL.getD i' []).length → ascAt LL i' j') ∧ (LL.length - t19_n).toNat < (LL.length - i).toNat)
            (impl_IsTableau.q9 std fun e w' => e = .returned (.bool (decide (IsTab LL))) ∧ Below w.heap.size w w')) .ret [(2, .bool false)] w2)
          else (∃ t26_n, impl_IsTableau.emb7 a i r a (a.n : Int) i r ((LL.getD i.toNat []).length : Int) (w64 (j + 1)) = impl_IsTableau.emb7 a i r a (a.n : Int) i r ((LL.getD i.toNat []).length : Int) t26_n ∧
          (w2 = w2 ∧ 0 ≤ t26_n ∧ t26_n ≤ (LL.getD i.toNat []).length ∧ ∀ j', j' < t26_n.toNat → ascAt LL i.toNat j') ∧ ((LL.getD i.toNat []).length - t26_n).toNat < ((LL.getD i.toNat []).length - j).toNat))
          else (∃ t26_n, impl_IsTableau.emb7 a i r a (a.n : Int) i r ((LL.getD i.toNat []).length : Int) (w64 (j + 1)) = impl_IsTableau.emb7 a i r a (a.n : Int) i r ((LL.getD i.toNat []).length : Int) t26_n ∧
          (w2 = w2 ∧ 0 ≤ t26_n ∧ t26_n ≤ (LL.getD i.toNat []).length ∧ ∀ j', j' < t26_n.toNat → ascAt LL i.toNat j') ∧ ((LL.getD i.toNat []).length - t26_n).toNat < ((LL.getD i.toNat []).length - j).toNat)) := by
        intro hrp
        refine bif_dec (fun h9 => ?_) (fun h9 => good ⟨hrp, fun h => by omega⟩)
        rw [w64_id (n := i - 1) (by omega) (by omega)]
        have e1 : (i - 1).toNat = i.toNat - 1 := by omega
        have hst := hf.step hlt (by omega)
        refine RowSS.get ha4 (by omega) (by omega) fun r2 hr2 => ?_
        rw [e1] at hr2
        refine RowI.get hr2 hj0 (by omega) ?_
        refine bif_dec (fun h10 => ?_) (fun h10 => ?_)
        · rw [impl_IsTableau.R7_s]
          exact bad i.toNat j.toNat hlt hjlt fun hg => by
            have := hg.2 (by omega)
            simp only [at2] at this h10; omega
        · exact good ⟨hrp, fun _ => by simp only [at2] at h10 ⊢; omega⟩
      refine bif_dec (fun h6 => ?_) (fun h6 => ?_)
      · rw [w64_id (n := j - 1) (by omega) (by omega)]
        refine RowI.get hr (by omega) (by omega) ?_
        have e1 : (j - 1).toNat = j.toNat - 1 := by omega
        rw [e1]
        refine bif_dec (fun h7 => ?_) (fun h7 => ?_)
        · rw [impl_IsTableau.R7_s]
          exact bad i.toNat j.toNat hlt hjlt fun hg => by
            have := hg.1 (by omega)
            simp only [at2] at this; omega
        · exact colpart fun _ => by simp only [at2]; omega
      · exact colpart fun h => by omega
    · rw [impl_IsTableau.A7_2_s]
      refine ⟨i + 1, by rw [w64_succ h0 (by omega)], ⟨rfl, by omega, by omega, fun i' hi' j' hj' => ?_⟩, by omega⟩
      by_cases e : i' = i.toNat
      · subst e; exact hrow j' (by omega)
      · exact hall i' (by omega) j' hj'
  · rw [impl_IsTableau.A4_0_s]
    have : IsTab LL := ⟨hf, hp, fun i' j' hi' hj' => hall i' (by omega) j' hj'⟩
    exact ⟨by simp [this], hb4⟩
end Go.Proofs.Ytdchjhhpbdekeaa

/- Tableaux: the model's test, forms, and the laws of both. -/
namespace Go.Proofs.Ytdchjhhpbdekeaa
open Go Go.RowKit
set_option maxRecDepth 100000

def ascS (LL : List (List Int)) (i j : Nat) : Prop := (0 < j → at2 LL i (j - 1) < at2 LL i j) ∧ (0 < i → at2 LL (i - 1) j < at2 LL i j)
theorem IsTab.strict {LL : List (List Int)} (h : IsTab LL) {i j : Nat} (hi : i < LL.length) (hj : j < (LL.getD i []).length) : ascS LL i j := by
  have h1 := h.asc i j hi hj
  refine ⟨fun h0 => ?_, fun h0 => ?_⟩
  · have := h1.1 h0
    have := nodup_row h.perm.nodup hi hj (k := j - 1) (by omega)
    omega
  · have := h1.2 h0
    have := h.form.step hi h0
    have := nodup_col h.perm.nodup hi (k := i - 1) (by omega) hj (l := j) (by omega)
    omega
open Classical in
theorem c_specIsTableau0 {w : World} {a : Sl} {LL : List (List Int)} (ha : RowSS w a LL) (hL : LL.length < 2^38) (ht : tot LL < 2^38) :
    Calls PP F.spec_IsTableau #[a.v] w fun e w' => e = .returned (.bool (decide (IsTab LL))) ∧ Below w.heap.size w w' := by
  have han := ha.n
  refine spec_IsTableau.calls a ?_
  rw [spec_IsTableau.E_s]
  refine (c_l19Lengths ha hL ht).mono ?_
  rintro e w1 ⟨s, rfl, hs, hb1⟩
  refine ⟨s, rfl, ?_⟩
  refine Quiet.call1 (s := .bool) (c_l19Form hs.row (by rw [lens_length]; omega) (by omega) (by omega)) ?_
  intro w2 hd2
  have hb2 := hb1.trans (hd2.below _)
  refine bif_intro (fun h => ?_) (fun h => ?_)
  · have h : ¬ FormOk (lens LL) 8 := by simpa using h
    have : ¬ IsTab LL := fun hh => h hh.form
    exact ⟨by simp [this], hb2⟩
  have hf : FormOk (lens LL) 8 := by simpa using h
  have h8 := hf.tot
  have hc8 := hf.count
  refine lit0 oneInt (B := w.heap.size) hb2.size ?_
  intro t0 w3 hown hg3 _
  have hb3 := hb2.grown hg3 hb2.size (by simp)
  refine spec_IsTableau.L5_rule _ _ _ _ _ (I := fun al i w' => Below w.heap.size w w' ∧ 0 ≤ i ∧ i ≤ LL.length ∧ OwnI w' w.heap.size al (LL.take i.toNat).flatten ∧ ∀ i', i' < i.toNat → ∀ j', j' < (LL.getD i' []).length → ascS LL i' j') (μ := fun _ i _ => (LL.length - i).toNat)
    ⟨hb3, by omega, by omega, hown, fun i' hi' => by simp at hi'⟩ ?_
  rintro al i w' ⟨hb, h0, hi, hal, hall⟩
  rw [spec_IsTableau.B5_s]
  refine bif_dec (fun h3 => ?_) (fun h3 => ?_)
  · have hlt : i.toNat < LL.length := by omega
    have h9 : (LL.getD i.toNat []).length ≤ 8 := by
      rw [getD_SS hlt]; exact Nat.le_trans (len_le_tot (List.getElem_mem hlt)) h8
    have hfl : ∀ k, k ≤ LL.length → (LL.take k).flatten.length ≤ 8 := fun k hk => by
      rw [flatten_length]; exact Nat.le_trans (tot_take_le LL k) h8
    refine spec_IsTableau.L8_rule _ _ _ _ _ _ (I := fun al2 j w2 => Below w.heap.size w w2 ∧ 0 ≤ j ∧ j ≤ (LL.getD i.toNat []).length ∧ OwnI w2 w.heap.size al2 ((LL.take i.toNat).flatten ++ (LL.getD i.toNat []).take j.toNat) ∧ ∀ j', j' < j.toNat → ascS LL i.toNat j') (μ := fun _ j _ => ((LL.getD i.toNat []).length - j).toNat)
      ⟨hb, by omega, by omega, by simpa using hal, fun j' hj' => by simp at hj'⟩ ?_
    rintro al2 j w2 ⟨hbw, hj0, hj, hal2, hrow⟩
    rw [spec_IsTableau.B8_s]
    have ha2 := ha.grow hbw
    refine RowSS.get ha2 h0 (by omega) fun r hr => ?_
    have hrn : r.n = (LL.getD i.toNat []).length := by have := hr.n; simpa using this
    rw [hrn]
    refine bif_dec (fun h5 => ?_) (fun h5 => ?_)
    · have hjlt : j.toNat < (LL.getD i.toNat []).length := by omega
      have bad : ∀ w3, Drew w2 w3 → ¬ ascS LL i.toNat j.toNat → spec_IsTableau.q10 std (fun e2 w2 => ∃ all_3_n r_4_n, e2 = spec_IsTableau.emb5 a all_3_n r_4_n ∧ (Below w.heap.size w w2 ∧ 0 ≤ r_4_n ∧ r_4_n ≤ LL.length ∧ OwnI w2 w.heap.size all_3_n (LL.take r_4_n.toNat).flatten ∧ ∀ i', i' < r_4_n.toNat → ∀ j', j' < (LL.getD i' []).length → ascS LL i' j') ∧ (LL.length - r_4_n).toNat < (LL.length - i).toNat)
          (spec_IsTableau.q7 std fun e w' => e = .returned (.bool (decide (IsTab LL))) ∧ Below w.heap.size w w') .ret [(2, .bool false)] w3 := by
        intro w3 hd hn
        rw [spec_IsTableau.R8_s, spec_IsTableau.R5_s]
        have : ¬ IsTab LL := fun hh => hn (hh.strict hlt hjlt)
        exact ⟨by simp [this], hbw.trans (hd.below _)⟩
      have fin : ∀ w3, Drew w2 w3 → ascS LL i.toNat j.toNat → idxK 1 a i fun a31 => load1 .sl a31 w3 fun (ξ32 : Sl) => idxK 1 ξ32 j fun a33 => load1 (.int .i64) a33 w3 fun (ξ34 : Int) =>
          sem1 .sl PP (Instr.buildSlice T_Sint 1 #[(0, vI ξ34)]) w3 fun (ρ35 : Sl) ω36 => sem1 .sl PP (Builtin.append_ #[T_Sint, T_Sint] T_Sint #[Sl.v al2, Sl.v ρ35]) ω36 fun (ρ37 : Sl) ω38 =>
          ∃ all_3_n c_5_n, spec_IsTableau.emb8 a ρ37 i (w64 (j + 1)) = spec_IsTableau.emb8 a all_3_n i c_5_n ∧ (Below w.heap.size w ω38 ∧ 0 ≤ c_5_n ∧ c_5_n ≤ (LL.getD i.toNat []).length ∧ OwnI ω38 w.heap.size all_3_n ((LL.take i.toNat).flatten ++ (LL.getD i.toNat []).take c_5_n.toNat) ∧ ∀ j', j' < c_5_n.toNat → ascS LL i.toNat j') ∧ ((LL.getD i.toNat []).length - c_5_n).toNat < ((LL.getD i.toNat []).length - j).toNat := by
        intro w3 hd hg
        refine RowSS.get (ha2.heap hd.heap') h0 (by omega) fun r3 hr3 => ?_
        refine RowI.get hr3 hj0 (by omega) ?_
        have hb4 := hbw.trans (hd.below w.heap.size)
        have := hfl i.toNat (by omega)
        refine append_int (hal2.heap hd.heap') hb4.size (by simp only [List.length_append, List.length_take]; omega) ?_
        intro t' w5 ht5 hg5 _
        refine ⟨t', j + 1, by rw [w64_succ hj0 (by omega)], ⟨hb4.grown hg5 hb4.size (fun g hg => (hal2.lt g hg).1), by omega, by omega, ?_, fun j' hj' => ?_⟩, by omega⟩
        · rw [show (j + 1).toNat = j.toNat + 1 by omega, List.take_succ_eq_append_getElem hjlt, ← getD_lt hjlt, ← List.append_assoc]
          exact ht5
        · by_cases e : j' = j.toNat
          · rw [e]; exact hg
          · exact hrow j' (by omega)
      have e1 : (j - 1).toNat = j.toNat - 1 := by omega
      have e2 : (i - 1).toNat = i.toNat - 1 := by omega
      refine bif_dec (fun h6 => ?_) (fun h6 => ?_)
      · refine RowSS.get ha2 h0 (by omega) fun r3 hr3 => ?_
        refine RowI.get hr3 hj0 (by omega) ?_
        refine RowSS.get ha2 h0 (by omega) fun r4 hr4 => ?_
        rw [w64_id (n := j - 1) (by omega) (by omega)]
        refine RowI.get hr4 (by omega) (by omega) ?_
        rw [e1]
        refine bif_dec (fun h7 => ?_) (fun h7 => ?_)
        · exact drew_intro fun w3 hd => bad w3 hd fun hg => by have := hg.1 (by omega); simp only [at2] at this; omega
        · refine bif_dec (fun h8 => ?_) (fun h8 => ?_)
          · have hst := hf.step hlt (by omega)
            refine RowSS.get ha2 h0 (by omega) fun r5 hr5 => ?_
            refine RowI.get hr5 hj0 (by omega) ?_
            rw [w64_id (n := i - 1) (by omega) (by omega)]
            refine RowSS.get ha2 (by omega) (by omega) fun r6 hr6 => ?_
            rw [e2] at hr6
            refine RowI.get hr6 hj0 (by omega) ?_
            refine drew_intro fun w3 hd => ?_
            refine bif_dec (fun h9 => ?_) (fun h9 => ?_)
            · exact bad w3 hd fun hg => by have := hg.2 (by omega); simp only [at2] at this; omega
            · exact fin w3 hd ⟨fun _ => by simp only [at2]; omega, fun _ => by simp only [at2]; omega⟩
          · exact drew_intro fun w3 hd => fin w3 hd ⟨fun _ => by simp only [at2]; omega, fun h => by omega⟩
      · refine bif_dec (fun h8 => ?_) (fun h8 => ?_)
        · have hst := hf.step hlt (by omega)
          refine RowSS.get ha2 h0 (by omega) fun r5 hr5 => ?_
          refine RowI.get hr5 hj0 (by omega) ?_
          rw [w64_id (n := i - 1) (by omega) (by omega)]
          refine RowSS.get ha2 (by omega) (by omega) fun r6 hr6 => ?_
          rw [e2] at hr6
          refine RowI.get hr6 hj0 (by omega) ?_
          refine drew_intro fun w3 hd => ?_
          refine bif_dec (fun h9 => ?_) (fun h9 => ?_)
          · exact bad w3 hd fun hg => by have := hg.2 (by omega); simp only [at2] at this; omega
          · exact fin w3 hd ⟨fun h => by omega, fun _ => by simp only [at2]; omega⟩
        · exact drew_intro fun w3 hd => fin w3 hd ⟨fun h => by omega, fun h => by omega⟩
    · rw [spec_IsTableau.A8_2_s]
      refine ⟨al2, i + 1, by rw [w64_succ h0 (by omega)], ⟨hbw, by omega, by omega, ?_, fun i' hi' j' hj' => ?_⟩, by omega⟩
      · rw [show (i + 1).toNat = i.toNat + 1 by omega, flat_take_succ hlt]
        have e9 : (LL.getD i.toNat []).take j.toNat = LL.getD i.toNat [] := List.take_of_length_le (by omega)
        rw [e9] at hal2
        exact hal2
      · by_cases e : i' = i.toNat
        · subst e; exact hrow j' (by omega)
        · exact hall i' (by omega) j' hj'
  · rw [spec_IsTableau.A5_0_s]
    rw [show i.toNat = LL.length by omega, List.take_length] at hal
    have hall' : ∀ i' j', i' < LL.length → j' < (LL.getD i' []).length → ascS LL i' j' := fun i' j' hi' hj' => hall i' (by omega) j' hj'
    refine Quiet.call1 (s := .bool) (c_specIsPerm hal.row (by rw [flatten_length]; omega)) ?_
    intro w4 hd4
    refine ⟨?_, hb.trans (hd4.below _)⟩
    have : IsTab LL ↔ IsP LL.flatten := by
      constructor
      · exact fun h => h.perm
      · intro h
        exact ⟨hf, h, fun i' j' hi' hj' => ⟨fun h0 => Int.le_of_lt ((hall' i' j' hi' hj').1 h0), fun h0 => Int.le_of_lt ((hall' i' j' hi' hj').2 h0)⟩⟩
    simp only [this]
open Classical in
noncomputable def IsTableauV (LL : List (List Int)) : Bool := decide (IsTab LL)
theorem c_implIsTableau {w : World} {a : Sl} {LL : List (List Int)} (ha : RowSS w a LL) (hL : LL.length < 2^38) (ht : tot LL < 2^38) :
    Calls PP F.impl_IsTableau #[a.v] w fun e w' => e = .returned (.bool (IsTableauV LL)) ∧ Below w.heap.size w w' := c_implIsTableau0 ha hL ht

theorem c_specIsTableau {w : World} {a : Sl} {LL : List (List Int)} (ha : RowSS w a LL) (hL : LL.length < 2^38) (ht : tot LL < 2^38) :
    Calls PP F.spec_IsTableau #[a.v] w fun e w' => e = .returned (.bool (IsTableauV LL)) ∧ Below w.heap.size w w' := c_specIsTableau0 ha hL ht

open Classical in
noncomputable def FormOfV (LL : List (List Int)) : List Int := if IsTab LL then lens LL else []
theorem FormOfV_len (LL : List (List Int)) : (FormOfV LL).length < 2^38 := by
  unfold FormOfV
  split
  · rename_i h; rw [lens_length]; have := h.form.count; omega
  · simp
theorem c_implFormOf {w : World} {a : Sl} {LL : List (List Int)} (ha : RowSS w a LL) (hL : LL.length < 2^38) (ht : tot LL < 2^38) :
    Calls PP F.impl_FormOf #[a.v] w fun e w' => ∃ s : Sl, e = .returned s.v ∧ OwnI w' w.heap.size s (FormOfV LL) ∧ Below w.heap.size w w' := by
  refine impl_FormOf.calls a ?_
  rw [impl_FormOf.E_s]
  refine (c_implIsTableau0 ha hL ht).mono ?_
  rintro e w1 ⟨rfl, hb⟩
  refine ⟨_, rfl, ?_⟩
  refine bif_intro (fun h => ?_) (fun h => ?_)
  · have h : ¬ IsTab LL := by simpa using h
    exact ⟨Sl.nil, rfl, by rw [FormOfV, if_neg h]; exact Own.nil _ _ _, hb⟩
  · have h : IsTab LL := by simpa using h
    refine (c_form (ha.grow hb) hL ht).mono ?_
    rintro e w2 ⟨s, rfl, hs, hb2⟩
    refine ⟨s, rfl, s, rfl, ?_, hb.trans (hb2.mono hb.size)⟩
    rw [FormOfV, if_pos h]; exact hs.mono hb.size
theorem c_specFormOf {w : World} {a : Sl} {LL : List (List Int)} (ha : RowSS w a LL) (hL : LL.length < 2^38) (ht : tot LL < 2^38) :
    Calls PP F.spec_FormOf #[a.v] w fun e w' => ∃ s : Sl, e = .returned s.v ∧ RowI w' s (FormOfV LL) ∧ Below w.heap.size w w' := by
  refine spec_FormOf.calls a ?_
  rw [spec_FormOf.E_s]
  refine (c_specIsTableau0 ha hL ht).mono ?_
  rintro e w1 ⟨rfl, hb⟩
  refine ⟨_, rfl, ?_⟩
  refine bif_intro (fun h => ?_) (fun h => ?_)
  · have h : ¬ IsTab LL := by simpa using h
    refine lit0 oneInt (B := w.heap.size) hb.size ?_
    intro s w2 hs hg _
    exact ⟨s, rfl, by rw [FormOfV, if_neg h]; exact hs.row, hb.grown hg hb.size (by simp)⟩
  · have h : IsTab LL := by simpa using h
    refine (c_l19Lengths (ha.grow hb) hL ht).mono ?_
    rintro e w2 ⟨s, rfl, hs, hb2⟩
    refine ⟨s, rfl, s, rfl, ?_, hb.trans (hb2.mono hb.size)⟩
    rw [FormOfV, if_pos h]; exact hs.row
end Go.Proofs.Ytdchjhhpbdekeaa

/- Insertion makes tableaux (as IsTableau says). -/
namespace Go.Proofs.Ytdchjhhpbdekeaa
open Go
set_option maxRecDepth 100000
theorem tab_row {T : List (List Int)} (h : Tab T) : ∀ i, i < T.length → T.getD i [] ≠ [] ∧ Inc (T.getD i []) := by
  induction T with
  | nil => intro i hi; simp at hi
  | cons R T ih =>
    intro i hi
    cases i with
    | zero => exact ⟨h.1, h.2.1⟩
    | succ i => exact ih h.tail i (by simpa using hi)
theorem tab_under {T : List (List Int)} (h : Tab T) {i j : Nat} (hij : i < j) (hj : j < T.length) : Under (T.getD i []) (T.getD j []) := by
  have := List.pairwise_iff_getElem.1 h.under i j (by omega) hj hij
  rwa [← getD_SS (by omega), ← getD_SS hj] at this
theorem tab_isTab {T : List (List Int)} (h : Tab T) (hp : IsP T.flatten) : IsTab T := by
  have h8 : tot T ≤ 8 := by rw [← flatten_length]; exact hp.1
  refine ⟨fun j hj => ?_, hp, fun i j hi hj => ?_⟩
  · rw [lens_length] at hj
    have h1 := (tab_row h j hj).1
    have h2 := sm_lens T j (by omega)
    have h3 := tot_take_succ hj
    have h4 := tot_take_le T (j + 1)
    have h5 : 0 < (T.getD j []).length := List.length_pos_iff.2 h1
    refine ⟨by rw [lens_getD]; omega, by rw [h2, lens_getD]; omega, fun h0 => ?_⟩
    rw [lens_getD, lens_getD]
    have := (tab_under h (i := j - 1) (j := j) (by omega) hj).1
    omega
  · refine ⟨fun h0 => ?_, fun h0 => ?_⟩
    · have := (tab_row h i hi).2.getD (i := j - 1) (j := j) (by omega) hj
      unfold at2; omega
    · have := (tab_under h (i := i - 1) (j := i) (by omega) hi).2 j hj
      unfold at2; omega
theorem isP_nd {L : List Int} (h : IsP L) : L.Nodup := by
  rw [List.nodup_iff_pairwise_ne, List.pairwise_iff_getElem]
  intro i j hi hj hij e
  refine (h.2 j hj).2.2 i hij ?_
  simp only [List.getD_eq_getElem?_getD, List.getElem?_eq_getElem hi, List.getElem?_eq_getElem hj, Option.getD_some]
  exact e
theorem insP_isTab {P : List Int} (h : IsP P) : IsTab (insP P) := by
  obtain ⟨h1, h2, _⟩ := insP_all (isP_nd h)
  exact tab_isTab h1 (isP_of_perm h2 h)
theorem IsTab.tot8 {T : List (List Int)} (h : IsTab T) : tot T ≤ 8 := h.form.tot
theorem IsTab.len8 {T : List (List Int)} (h : IsTab T) : T.length ≤ 8 := h.form.count
end Go.Proofs.Ytdchjhhpbdekeaa

/- FnGreene: the law. -/
namespace Go.Proofs.Ytdchjhhpbdekeaa
open Go Go.RowKit
set_option maxRecDepth 100000

theorem c_DrawUpUnion {w : World} {a : Sl} {L : List Int} (ha : RowB w a L) (hL : L.length < 2^60) :
    Calls PP F.spec_DrawUpUnion #[a.v] w fun e w' => ∃ (s : Sl) (M : List Int) (k : Int), e = .returned (.tuple #[s.v, vI k]) ∧ RowI w' s M ∧ M.length < 2^38 ∧ k ≤ 4 ∧ Below w.heap.size w w' := by
  refine spec_DrawUpUnion.calls a ?_
  rw [spec_DrawUpUnion.E_s]
  refine (c_l1New ha hL).mono ?_
  rintro e w1 ⟨c, rfl, hc⟩
  refine ⟨some c, rfl, ?_⟩
  refine (c_l2Bent hc).mono ?_
  rintro e w2 ⟨s, M, rfl, hs, hM, hc2, hk2⟩
  refine ⟨s, rfl, ?_⟩
  refine (c_l1Below hc2 (n := 5) (by omega)).mono ?_
  rintro e w3 ⟨x, rfl, hx0, hx1, hc3, hk3⟩
  refine ⟨x, rfl, ?_⟩
  refine (c_l1Once hc3 (n := 12) (by omega)).mono ?_
  rintro e w4 ⟨b, rfl, hc4, hk4⟩
  refine ⟨b, rfl, ?_⟩
  have hs4 := Own.curs (Own.curs hs hk3 hc.lt.2) hk4 hc.lt.2
  refine Pure.pcall1 (s := .int .i64) (c_l1Bit b) ?_
  have hl := hM.1
  cases b
  · exact ⟨s, M, _, rfl, hs4.row, by omega, by simp only [Bool.false_eq_true, if_false]; rw [w64_id (by omega) (by omega)]; omega, hc4.below⟩
  · exact ⟨s, M, _, rfl, hs4.row, by omega, by simp only [if_true]; rw [w64_id (by omega) (by omega)]; omega, hc4.below⟩
theorem c_DrawFirstLongestUp {w : World} {a : Sl} {L : List Int} (ha : RowB w a L) (hL : L.length < 2^60) :
    Calls PP F.spec_DrawFirstLongestUp #[a.v] w fun e w' => ∃ (s : Sl) (M : List Int), e = .returned s.v ∧ RowI w' s M ∧ M.length < 2^38 ∧ Below w.heap.size w w' := by
  refine spec_DrawFirstLongestUp.calls a ?_
  rw [spec_DrawFirstLongestUp.E_s]
  exact c_bentOf ha hL fun s M w' hs hM hb => ⟨s, M, rfl, hs.row, by have := hM.1; omega, hb⟩
theorem c_DrawHasLongRun {w : World} {a : Sl} {L : List Int} (ha : RowB w a L) (hL : L.length < 2^60) :
    Calls PP F.spec_DrawHasLongRun #[a.v] w fun e w' => ∃ (s : Sl) (M : List Int) (x y : Int), e = .returned (.tuple #[s.v, vI x, vI y]) ∧ RowI w' s M ∧ M.length < 2^38 ∧ -1 ≤ x ∧ x ≤ 4 ∧ -1 ≤ y ∧ y ≤ 4 ∧ Below w.heap.size w w' := by
  refine spec_DrawHasLongRun.calls a ?_
  rw [spec_DrawHasLongRun.E_s]
  refine (c_l1New ha hL).mono ?_
  rintro e w1 ⟨c, rfl, hc⟩
  refine ⟨some c, rfl, ?_⟩
  refine (c_l2Bent hc).mono ?_
  rintro e w2 ⟨s, M, rfl, hs, hM, hc2, hk2⟩
  refine ⟨s, rfl, ?_⟩
  refine (c_l1Below hc2 (n := 5) (by omega)).mono ?_
  rintro e w3 ⟨x, rfl, hx0, hx1, hc3, hk3⟩
  refine ⟨x, rfl, ?_⟩
  refine (c_l1Below hc3 (n := 5) (by omega)).mono ?_
  rintro e w4 ⟨y, rfl, hy0, hy1, hc4, hk4⟩
  refine ⟨y, rfl, ?_⟩
  have hs4 := Own.curs (Own.curs hs hk3 hc.lt.2) hk4 hc.lt.2
  have hl := hM.1
  exact ⟨s, M, x - 1, y - 1, by rw [w64_id (n := x - 1) (by omega) (by omega), w64_id (n := y - 1) (by omega) (by omega)], hs4.row, by omega, by omega, by omega, by omega, by omega, hc4.below⟩

theorem hasLong {L : List Int} (h : IsP L) {x y : Int} (hx : 1 ≤ x) (hy : 1 ≤ y) (hl : x * y < L.length) : HasLongRunV L x y = true := by
  have h8 := h.1
  obtain ⟨a, rfl⟩ : ∃ a : Nat, x = a := ⟨x.toNat, by omega⟩
  obtain ⟨b, rfl⟩ : ∃ b : Nat, y = b := ⟨y.toNat, by omega⟩
  have h2 : a * b < L.length := by
    have : ((a * b : Nat) : Int) = (a : Int) * b := by simp
    omega
  have := long_run (isP_nd h) (by omega) h2
  classical
  rw [HasLongRunV, decide_eq_true h, Bool.true_and, Bool.or_eq_true, decide_eq_true_iff, decide_eq_true_iff]
  exact this
/-- The sum of the first k lengths. -/
theorem take_lens (T : List (List Int)) : ∀ (k : Nat), k < T.length → (tots (T.take (k + 1)) : Int) = tots (T.take k) + (lens T).getD k 0 := by
  intro k hk
  rw [List.take_succ_eq_append_getElem hk]
  have h1 : (lens T).getD k 0 = (T[k].length : Int) := by
    have : k < (lens T).length := by rw [lens_length]; exact hk
    rw [getD_I this]; simp [lens]
  rw [h1]
  simp only [tots, List.map_append, List.sum_append, List.map_cons, List.map_nil, List.sum_cons, List.sum_nil]
  omega

theorem lawJ26 {w0 w : World} {p f : Sl} {P : List Int} (hb : Below w0.heap.size w0 w) (hp : RowI w p P) (hP : IsP P) (hf : RowI w f (lens (insP P))) (n : Int) (x : Int) (hx : x = luV P) :
    laws_FnGreene.J26 std p n true f n x w fun e w' => e = .returned (.bool true) ∧ Below w0.heap.size w0 w' := by
  have h8 := hP.1
  rw [laws_FnGreene.J26_s]
  refine bif_t rfl ?_
  refine bif_t (by simp) ?_
  refine (c_implLongestUp hp (by omega)).mono ?_
  rintro e w1 ⟨rfl, g1⟩
  refine ⟨_, rfl, ?_⟩
  refine bif_t (by rw [LongestUpV, if_pos hP, hx]; simp) ?_
  refine (c_implLongestDown (hp.grow g1) (by omega)).mono ?_
  rintro e w2 ⟨rfl, g2⟩
  refine ⟨_, rfl, ?_⟩
  have hb1 := hb.trans (g1.mono hb.size)
  refine ⟨?_, hb1.trans (g2.mono hb1.size)⟩
  have hn : (f.n : Int) = (insP P).length := by have := hf.n; simp [lens_length] at this; omega
  rw [hn, LongestDownV, if_pos hP, row_count (isP_nd hP) (by omega)]
  simp
theorem lawJ14 {w0 w : World} {p : Sl} {P : List Int} (hb : Below w0.heap.size w0 w) (hp : RowI w p P) (hl : P.length < 2^38) (k : Int) :
    laws_FnGreene.J14 std p k (UpUnionV P k) w fun e w' => e = .returned (.bool true) ∧ Below w0.heap.size w0 w' := by
  rw [laws_FnGreene.J14_s]
  refine bif_dec (fun h => ⟨rfl, hb⟩) (fun h => ?_)
  have hk : IsP P ∧ 0 ≤ k ∧ k ≤ 8 := by
    apply Classical.byContradiction
    intro hn
    rw [UpUnionV, if_neg hn] at h; omega
  obtain ⟨hP, hk0, hk8⟩ := hk
  have h8 := hP.1
  refine (c_specInsertPerm hp hl).mono ?_
  rintro e w1 ⟨s, t, rfl, hs, ht, g1⟩
  refine ⟨s, t, _, rfl, ?_⟩
  have hb1 := hb.trans (g1.mono hb.size)
  have eP : InsertPermV P = insP P := by rw [InsertPermV, if_pos hP]
  have e2 : InsertPermV2 P = true := by simp [InsertPermV2, hP]
  rw [eP] at hs
  have hT := insP_isTab hP
  have ht8 := hT.tot8
  have hlen : (insP P).length ≤ 8 := hT.len8
  refine (c_specFormOf hs (by omega) (by omega)).mono ?_
  rintro e w2 ⟨f, rfl, hf, g2⟩
  refine ⟨f, rfl, ?_⟩
  have hb2 := hb1.trans (g2.mono hb1.size)
  rw [FormOfV, if_pos hT] at hf
  have hp2 := (hp.grow g1).grow g2
  have hfn : f.n = (insP P).length := by have := hf.n; simpa [lens_length] using this
  have hll : (lens (insP P)).length = (insP P).length := lens_length _
  rw [e2]
  have hU : UpUnionV P k = tots ((insP P).take k.toNat) := by rw [UpUnionV, if_pos ⟨hP, hk0, hk8⟩]
  have htot : ∀ j, tots ((insP P).take j) ≤ 8 := fun j => by
    have h1 : tots (insP P) = tots ((insP P).take j) + tots ((insP P).drop j) := by
      have := congrArg tots (List.take_append_drop j (insP P))
      simp only [tots, List.map_append, List.sum_append] at this ⊢
      omega
    have h2 : tots (insP P) = (insP P).flatten.length := tots_flat _
    rw [insP_flat] at h2
    omega
  have fin : ∀ (i : Int), 0 ≤ i → i ≤ (insP P).length → (i = k ∨ (i ≤ k ∧ i = (insP P).length)) →
      (bif decide (((insP P).length : Int) > 0) then (
        idxK 1 f 0 fun (a43 : Addr) =>
        load1 (.int .i64) a43 w2 fun (ξ44 : Int) =>
        laws_FnGreene.J26 std p (UpUnionV P k) true f (tots ((insP P).take i.toNat)) ξ44 w2 fun e w' => e = .returned (.bool true) ∧ Below w0.heap.size w0 w')
      else (
        laws_FnGreene.J26 std p (UpUnionV P k) true f (tots ((insP P).take i.toNat)) 0 w2 fun e w' => e = .returned (.bool true) ∧ Below w0.heap.size w0 w')) := by
    intro i hi0 hi1 hi2
    have eS : (tots ((insP P).take i.toNat) : Int) = UpUnionV P k := by
      rw [hU]
      rcases hi2 with h1 | ⟨h1, h2⟩
      · rw [h1]
      · rw [List.take_of_length_le (by omega), List.take_of_length_le (by omega)]
    rw [eS]
    have hfr := first_row (isP_nd hP) (L := P) (by omega)
    refine bif_dec (fun h3 => ?_) (fun h3 => ?_)
    · refine RowI.get hf (by omega) (by omega) ?_
      refine lawJ26 hb2 hp2 hP hf _ _ ?_
      have := take_lens (insP P) 0 (by omega)
      simp only [List.take_zero, Nat.zero_add] at this
      have e0 : tots [] = 0 := rfl
      rw [e0] at this
      show (lens (insP P)).getD (0 : Int).toNat 0 = _
      rw [← hfr]; simp at this ⊢; omega
    · refine lawJ26 hb2 hp2 hP hf _ _ ?_
      have : insP P = [] := List.eq_nil_of_length_eq_zero (by omega)
      rw [← hfr, this]; rfl
  refine laws_FnGreene.L20_rule _ _ _ _ _ _ _ _ _ (I := fun sum i w' => w' = w2 ∧ 0 ≤ i ∧ i ≤ k ∧ i ≤ (insP P).length ∧ sum = tots ((insP P).take i.toNat)) (μ := fun _ i _ => (k - i).toNat) ⟨rfl, by omega, by omega, by omega, rfl⟩ ?_
  rintro sum i w' ⟨rfl, hi0, hik, hil, rfl⟩
  rw [laws_FnGreene.B20_s, hfn]
  refine bif_dec (fun h3 => ?_) (fun h3 => ?_)
  · refine bif_dec (fun h4 => ?_) (fun h4 => ?_)
    · rw [laws_FnGreene.J22_s]
      refine RowI.get hf hi0 (by omega) ?_
      have h5 := take_lens (insP P) i.toNat (by omega)
      have h6 := htot (i.toNat + 1)
      refine ⟨tots ((insP P).take (i.toNat + 1)), i + 1, ?_, ⟨rfl, by omega, by omega, by omega, by rw [show (i + 1).toNat = i.toNat + 1 by omega]⟩, by omega⟩
      rw [w64_succ hi0 (by omega), ← h5, w64_id (by omega) (by omega)]
    · rw [laws_FnGreene.A20_0_s, hfn]; exact fin i hi0 hil (.inr ⟨hik, by omega⟩)
  · rw [laws_FnGreene.A20_0_s, hfn]; exact fin i hi0 hil (.inl (by omega))

theorem lawJ12 {w0 w : World} {p q l : Sl} {P Q : List Int} (hb : Below w0.heap.size w0 w) (hp : RowI w p P) (hpl : P.length < 2^38) (hq : RowI w q Q) (hql : Q.length < 2^38) (hln : l.n = (FirstLongestUpV Q).length) (k : Int) :
    laws_FnGreene.J12 std p k (UpUnionV P k) q l w fun e w' => e = .returned (.bool true) ∧ Below w0.heap.size w0 w' := by
  rw [laws_FnGreene.J12_s]
  refine Quiet.call1 (s := .bool) (c_specIsPerm hq hql) ?_
  intro w2 d2
  have g2 : Below w.heap.size w w2 := d2.below _
  have hb2 := hb.trans (g2.mono hb.size)
  refine bif_intro (fun h => ?_) (fun h => ?_)
  · have h : IsP Q := by simpa using h
    obtain ⟨f1, f2⟩ := first_len h
    refine (c_implLongestUp (hq.grow g2) hql).mono ?_
    rintro e w3 ⟨rfl, g3⟩
    refine ⟨_, rfl, ?_⟩
    have hb3 := hb2.trans (g3.mono hb2.size)
    refine bif_f (by rw [hln, f1]; simp) ?_
    refine (c_implCountLongestUp ((hq.grow g2).grow g3) hql).mono ?_
    rintro e w4 ⟨rfl, g4⟩
    refine ⟨_, rfl, ?_⟩
    have hb4 := hb3.trans (g4.mono hb3.size)
    show laws_FnGreene.J13 std _ _ _ _ _ _
    rw [laws_FnGreene.J13_s]
    refine bif_f (by rw [decide_eq_false_iff_not]; omega) ?_
    exact lawJ14 hb4 (((hp.grow g2).grow g3).grow g4) hpl k
  · rw [laws_FnGreene.J13_s]
    refine bif_f rfl ?_
    exact lawJ14 hb2 (hp.grow g2) hpl k
theorem lawJ10 {w0 w : World} {p q l r : Sl} {P Q R : List Int} (hb : Below w0.heap.size w0 w) (hp : RowI w p P) (hpl : P.length < 2^38) (hq : RowI w q Q) (hql : Q.length < 2^38) (hln : l.n = (FirstLongestUpV Q).length) (k : Int)
    (hr : RowI w r R) (hrl : R.length < 2^38) {x y : Int} (hx1 : x ≤ 4) (hy1 : y ≤ 4) :
    laws_FnGreene.J10 std p k (UpUnionV P k) q l r x y w fun e w' => e = .returned (.bool true) ∧ Below w0.heap.size w0 w' := by
  have hrn : r.n = R.length := by have := hr.n; simpa using this
  rw [laws_FnGreene.J10_s]
  refine Quiet.call1 (s := .bool) (c_specIsPerm hr hrl) ?_
  intro w2 d2
  have g2 : Below w.heap.size w w2 := d2.below _
  have hb2 := hb.trans (g2.mono hb.size)
  have j11 : laws_FnGreene.J11 std p k (UpUnionV P k) q l false w2 fun e w' => e = .returned (.bool true) ∧ Below w0.heap.size w0 w' := by
    rw [laws_FnGreene.J11_s]
    refine bif_f rfl ?_
    exact lawJ12 hb2 (hp.grow g2) hpl (hq.grow g2) hql hln k
  refine bif_intro (fun h => ?_) (fun h => j11)
  have h : IsP R := by simpa using h
  refine bif_dec (fun h1 => ?_) (fun _ => j11)
  refine bif_dec (fun h2 => ?_) (fun _ => j11)
  have hxy : x * y ≤ 16 ∧ 0 ≤ x * y := by
    have h1 : x * y ≤ 4 * 4 := Int.mul_le_mul hx1 hy1 (by omega) (by omega)
    have h2 : 0 ≤ x * y := Int.mul_nonneg (by omega) (by omega)
    omega
  have exy := w64_id (n := x * y) (by omega) (by omega)
  rw [exy, hrn]
  refine bif_dec (fun h3 => ?_) (fun _ => j11)
  refine (c_implHasLongRun (hr.grow g2) hrl x y).mono ?_
  rintro e w3 ⟨rfl, g3⟩
  refine ⟨_, rfl, ?_⟩
  have hb3 := hb2.trans (g3.mono hb2.size)
  show laws_FnGreene.J11 std _ _ _ _ _ _ _ _
  rw [hasLong h h1 h2 (by omega), laws_FnGreene.J11_s]
  refine bif_f rfl ?_
  exact lawJ12 hb3 ((hp.grow g2).grow g3) hpl ((hq.grow g2).grow g3) hql hln k

set_option maxHeartbeats 2000000 in
theorem lawC_FnGreene (a : Sl) (L : List Int) (w : World) (ha : RowB w a L) (_ : L.length ≤ maxLen) :
    Calls PP F.laws_FnGreene #[a.v] w fun e w' => e = .returned (.bool true) ∧ Below w.heap.size w w' := by
  refine laws_FnGreene.calls a ?_
  rw [laws_FnGreene.E_s]
  have hb : Below w.heap.size w w := Below.refl _ _
  refine Pure.pcall1 (s := .bool) (c_big a) ?_
  refine bif_dec (fun _ => ⟨rfl, hb⟩) (fun hbig => ?_)
  have hL : L.length < 2^60 := by have := ha.n; simp at this; omega
  refine ((c_DrawUpUnion ha hL)).mono ?_
  rintro e w_1 ⟨p, P, k, rfl, hp, hpl, hk, g1⟩
  refine ⟨p, k, rfl, ?_⟩
  have hb := hb.trans (g1.mono hb.size)
  have ha := ha.grow g1
  refine (c_implUpUnion hp hpl k).mono ?_
  rintro e w_2 ⟨rfl, g2⟩
  refine ⟨_, rfl, ?_⟩
  have hb := hb.trans (g2.mono hb.size)
  have ha := ha.grow g2
  have hp := hp.grow g2
  refine (c_DrawFirstLongestUp ha hL).mono ?_
  rintro e w_3 ⟨q, Q, rfl, hq, hql, g3⟩
  refine ⟨q, rfl, ?_⟩
  have hb := hb.trans (g3.mono hb.size)
  have ha := ha.grow g3
  have hp := hp.grow g3
  refine (c_implFirstLongestUp hq hql).mono ?_
  rintro e w_4 ⟨l, rfl, hl, g4⟩
  refine ⟨l, rfl, ?_⟩
  have hb := hb.trans (g4.mono hb.size)
  have ha := ha.grow g4
  have hp := hp.grow g4
  have hq := hq.grow g4
  have hl := hl.row
  refine (c_DrawHasLongRun ha hL).mono ?_
  rintro e w_5 ⟨r, R, x, y, rfl, hr, hrl, hx0, hx1, hy0, hy1, g5⟩
  refine ⟨r, x, y, rfl, ?_⟩
  have hb := hb.trans (g5.mono hb.size)
  have ha := ha.grow g5
  have hp := hp.grow g5
  have hq := hq.grow g5
  have hl := hl.grow g5
  refine (c_specUpUnion hp hpl k).mono ?_
  rintro e w_6 ⟨rfl, g6⟩
  refine ⟨_, rfl, ?_⟩
  have hb := hb.trans (g6.mono hb.size)
  have hp := hp.grow g6
  have hq := hq.grow g6
  have hl := hl.grow g6
  have hr := hr.grow g6
  refine bif_f (by simp) ?_
  refine (c_specFirstLongestUp hq hql).mono ?_
  rintro e w_7 ⟨l2, rfl, hl2, g7⟩
  refine ⟨l2, rfl, ?_⟩
  have hb := hb.trans (g7.mono hb.size)
  have hp := hp.grow g7
  have hq := hq.grow g7
  have hl := hl.grow g7
  have hr := hr.grow g7
  have hfl : (FirstLongestUpV Q).length < 2^38 := by
    by_cases h : IsP Q
    · have h1 := (first_len h).1
      rw [LongestUpV, if_pos h] at h1
      have h2 := (lu_facts h).2
      have := h.1
      omega
    · rw [FirstLongestUpV, if_neg h]; simp
  refine Quiet.call1 (s := .bool) (c_sameInts hl hl2 (by omega)) ?_
  intro w_8 g8
  replace g8 : Below w_7.heap.size w_7 w_8 := g8.below _
  have hb := hb.trans (g8.mono hb.size)
  have hp := hp.grow g8
  have hq := hq.grow g8
  have hl := hl.grow g8
  have hr := hr.grow g8
  have hl2 := hl2.grow g8
  refine bif_f (by simp) ?_
  refine (c_implCountLongestUp hq hql).mono ?_
  rintro e w_9 ⟨rfl, g9⟩
  refine ⟨_, rfl, ?_⟩
  have hb := hb.trans (g9.mono hb.size)
  have hp := hp.grow g9
  have hq := hq.grow g9
  have hl := hl.grow g9
  have hr := hr.grow g9
  refine (c_specCountLongestUp hq hql).mono ?_
  rintro e w_10 ⟨rfl, g10⟩
  refine ⟨_, rfl, ?_⟩
  have hb := hb.trans (g10.mono hb.size)
  have hp := hp.grow g10
  have hq := hq.grow g10
  have hl := hl.grow g10
  have hr := hr.grow g10
  refine bif_f (by simp) ?_
  refine (c_implHasLongRun hr hrl x y).mono ?_
  rintro e w_11 ⟨rfl, g11⟩
  refine ⟨_, rfl, ?_⟩
  have hb := hb.trans (g11.mono hb.size)
  have hp := hp.grow g11
  have hq := hq.grow g11
  have hl := hl.grow g11
  have hr := hr.grow g11
  refine (c_specHasLongRun hr hrl x y).mono ?_
  rintro e w_12 ⟨rfl, g12⟩
  refine ⟨_, rfl, ?_⟩
  have hb := hb.trans (g12.mono hb.size)
  have hp := hp.grow g12
  have hq := hq.grow g12
  have hl := hl.grow g12
  have hr := hr.grow g12
  refine bif_f (by simp) ?_
  refine (c_implLongestUp hp hpl).mono ?_
  rintro e w_13 ⟨rfl, g13⟩
  refine ⟨_, rfl, ?_⟩
  have hb := hb.trans (g13.mono hb.size)
  have hp := hp.grow g13
  have hq := hq.grow g13
  have hl := hl.grow g13
  have hr := hr.grow g13
  refine (c_specLongestUp hp hpl).mono ?_
  rintro e w_14 ⟨rfl, g14⟩
  refine ⟨_, rfl, ?_⟩
  have hb := hb.trans (g14.mono hb.size)
  have hp := hp.grow g14
  have hq := hq.grow g14
  have hl := hl.grow g14
  have hr := hr.grow g14
  refine bif_f (by simp) ?_
  refine (c_implLongestDown hp hpl).mono ?_
  rintro e w_15 ⟨rfl, g15⟩
  refine ⟨_, rfl, ?_⟩
  have hb := hb.trans (g15.mono hb.size)
  have hp := hp.grow g15
  have hq := hq.grow g15
  have hl := hl.grow g15
  have hr := hr.grow g15
  refine (c_specLongestDown hp hpl).mono ?_
  rintro e w_16 ⟨rfl, g16⟩
  refine ⟨_, rfl, ?_⟩
  have hb := hb.trans (g16.mono hb.size)
  have hp := hp.grow g16
  have hq := hq.grow g16
  have hl := hl.grow g16
  have hr := hr.grow g16
  have hln : l.n = (FirstLongestUpV Q).length := by have := hl.n; simpa using this
  show laws_FnGreene.J9 std _ _ _ _ _ _ _ _ _ _ _
  rw [laws_FnGreene.J9_s]
  refine bif_f (by simp) ?_
  exact lawJ10 hb hp hpl hq hql hln k hr hrl hx1 hy1
end Go.Proofs.Ytdchjhhpbdekeaa
