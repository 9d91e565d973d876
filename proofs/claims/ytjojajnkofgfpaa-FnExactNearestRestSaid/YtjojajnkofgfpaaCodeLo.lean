/- What each function does, step by step, written by a program (Gen.lean); each equation is checked by the kernel. -/
import Derived.Test.YtjojajnkofgfpaaHead
namespace Go.Proofs.Ytjojajnkofgfpaa
open Go
set_option linter.unusedVariables false
set_option maxRecDepth 100000
namespace spec_LowsOf
@[reducible] def cfg : Cfg := ⟨36, [(4, [0, 3, 4, 5])], [(1, [0, 3, 4, 5]), (0, [3])], [], [2], [], [30, 27, 11, 13, 20, 26, 37, 16, 52, 109, 83, 111, 72, 70, 36], [49, 46, 97, 75, 33, 104]⟩
def q2 (pr : Prims) (R : Ending → World → Prop) : Exit → Env → World → Prop := fun ex e w => normQ ex (fun e w => contE pr cfg (sub (codeOf Try.f28) [1, 1, 1, 1]) (fun e w => wpC pr PP cfg (DD pr) (sub (codeOf Try.f28) [1, 1, 1, 1]) (retQ Try.f28.results.toList R) e w) e w) (retQ Try.f28.results.toList R) e w
def q3 (pr : Prims) (R : Ending → World → Prop) : Exit → Env → World → Prop := fun ex e w => blockQ ex 0 (q2 pr R) e w
def emb4 (p_0 : Sl) (out_3 : Sl) (least_4 : Int) (k_5 : Int) : Env := [(0, Sl.v p_0), (3, Sl.v out_3), (4, vI least_4), (5, vI k_5)]
def x0 (out_3 : Sl) : Env := [(3, Sl.v out_3)]
def S4 (pr : Prims) (Q : Exit → Env → World → Prop) : (Env → World → Prop) → Env → World → Prop := fun k e w => wpC pr PP cfg (DD pr) (sub (codeOf Try.f28) [1, 1, 1, 0, 1, 0, 0]) (fun ex e w => normQ ex (fun e' w' => k (Env.restr e' (lookN cfg.loops (keyOf (sub (codeOf Try.f28) [1, 1, 1, 0, 1, 0, 0])))) w') Q e w) e w
def B4 (pr : Prims) (p_0 : Sl) (out_3 : Sl) (least_4 : Int) (k_5 : Int) (w : World) (k : Env → World → Prop) (Q : Exit → Env → World → Prop) : Prop :=
  S4 pr Q k (emb4 p_0 out_3 least_4 k_5) w
def L4 (pr : Prims) (p_0 : Sl) (out_3 : Sl) (least_4 : Int) (k_5 : Int) (w : World) (Q : Exit → Env → World → Prop) : Prop :=
  pr.loop (S4 pr Q) (emb4 p_0 out_3 least_4 k_5) w
def E (pr : Prims) (p_0 : Sl) (w : World) (R : Ending → World → Prop) : Prop :=
  wpC pr PP cfg (DD pr) (codeOf Try.f28) (retQ Try.f28.results.toList R) (argE 0 [Sl.v p_0]) w
theorem B4_eq (pr : Prims) (p_0 : Sl) (out_3 : Sl) (least_4 : Int) (k_5 : Int) (w : World) (k : Env → World → Prop) (Q : Exit → Env → World → Prop) : B4 pr p_0 out_3 least_4 k_5 w k Q = (
  bif decide (k_5 < (p_0.n : Int)) then (
  pr.call1 .bool PP F.spec_IsPerm #[Sl.v p_0] w fun (ρ4 : Bool) ω5 =>
  bif ρ4 then (
  pr.idxK 1 p_0 k_5 fun (a6 : Addr) =>
  pr.load1 (.int .i64) a6 ω5 fun (ξ7 : Int) =>
  bif decide (ξ7 < least_4) then (
  pr.idxK 1 p_0 k_5 fun (a8 : Addr) =>
  pr.load1 (.int .i64) a8 ω5 fun (ξ9 : Int) =>
  pr.sem1 .sl PP (Instr.buildSlice T_Sint 1 #[(0, vI (w64 (k_5 + 1)))]) ω5 fun (ρ10 : Sl) ω11 =>
  pr.sem1 .sl PP (Builtin.append_ #[T_Sint, T_Sint] T_Sint #[Sl.v out_3, Sl.v ρ10]) ω11 fun (ρ12 : Sl) ω13 =>
  k (emb4 p_0 ρ12 ξ9 (w64 (k_5 + 1))) ω13)
  else (
  k (emb4 p_0 out_3 least_4 (w64 (k_5 + 1))) ω5))
  else (
  Q (.exit 0) (x0 out_3) ω5))
  else (
  Q (.exit 0) (x0 out_3) w)) := by kernel_rfl
theorem B4_s (p_0 : Sl) (out_3 : Sl) (least_4 : Int) (k_5 : Int) (w : World) (k : Env → World → Prop) (Q : Exit → Env → World → Prop) : B4 std p_0 out_3 least_4 k_5 w k Q = (
  bif decide (k_5 < (p_0.n : Int)) then (
  call1 .bool PP F.spec_IsPerm #[Sl.v p_0] w fun (ρ4 : Bool) ω5 =>
  bif ρ4 then (
  idxK 1 p_0 k_5 fun (a6 : Addr) =>
  load1 (.int .i64) a6 ω5 fun (ξ7 : Int) =>
  bif decide (ξ7 < least_4) then (
  idxK 1 p_0 k_5 fun (a8 : Addr) =>
  load1 (.int .i64) a8 ω5 fun (ξ9 : Int) =>
  sem1 .sl PP (Instr.buildSlice T_Sint 1 #[(0, vI (w64 (k_5 + 1)))]) ω5 fun (ρ10 : Sl) ω11 =>
  sem1 .sl PP (Builtin.append_ #[T_Sint, T_Sint] T_Sint #[Sl.v out_3, Sl.v ρ10]) ω11 fun (ρ12 : Sl) ω13 =>
  k (emb4 p_0 ρ12 ξ9 (w64 (k_5 + 1))) ω13)
  else (
  k (emb4 p_0 out_3 least_4 (w64 (k_5 + 1))) ω5))
  else (
  Q (.exit 0) (x0 out_3) ω5))
  else (
  Q (.exit 0) (x0 out_3) w)) := B4_eq std p_0 out_3 least_4 k_5 w k Q
theorem L4_rule (p_0 : Sl) (out_3 : Sl) (least_4 : Int) (k_5 : Int) (w : World) (Q : Exit → Env → World → Prop) (I : Sl → Int → Int → World → Prop) (μ : Sl → Int → Int → World → Nat) (h0 : I out_3 least_4 k_5 w)
    (h : ∀ (out_3 : Sl) (least_4 : Int) (k_5 : Int) (w' : World), I out_3 least_4 k_5 w' → B4 std p_0 out_3 least_4 k_5 w' (fun e2 w2 => ∃ out_3_n least_4_n k_5_n, e2 = emb4 p_0 out_3_n least_4_n k_5_n ∧ I out_3_n least_4_n k_5_n w2 ∧ μ out_3_n least_4_n k_5_n w2 < μ out_3 least_4 k_5 w') Q) :
    L4 std p_0 out_3 least_4 k_5 w Q := by
  unfold L4
  refine LoopE.intro (σ := Sl × Int × Int) (step := S4 std Q) (fun s => emb4 p_0 s.1 s.2.1 s.2.2) (fun s w => I s.1 s.2.1 s.2.2 w) (fun s w => μ s.1 s.2.1 s.2.2 w) (out_3, least_4, k_5) rfl h0 ?_
  intro s w' hI
  have h1 := h s.1 s.2.1 s.2.2 w' hI
  unfold B4 at h1
  simp only [Prod.exists]
  exact h1
theorem A4_0_eq (pr : Prims) (out_3 : Sl) (w : World) (R : Ending → World → Prop) : (q3 pr R) (.exit 0) (x0 out_3) w = (
  R (.returned (Sl.v out_3)) w) := by kernel_rfl
theorem A4_0_s (out_3 : Sl) (w : World) (R : Ending → World → Prop) : (q3 std R) (.exit 0) (x0 out_3) w = (
  R (.returned (Sl.v out_3)) w) := A4_0_eq std out_3 w R
theorem E_eq (pr : Prims) (p_0 : Sl) (w : World) (R : Ending → World → Prop) : E pr p_0 w R = (
  pr.sem1 .sl PP (Instr.buildSlice T_Sint 0 #[]) w fun (ρ0 : Sl) ω1 =>
  L4 pr p_0 ρ0 (w64 ((p_0.n : Int) + 1)) 0 ω1 (q3 pr R)) := by kernel_rfl
theorem E_s (p_0 : Sl) (w : World) (R : Ending → World → Prop) : E std p_0 w R = (
  sem1 .sl PP (Instr.buildSlice T_Sint 0 #[]) w fun (ρ0 : Sl) ω1 =>
  L4 std p_0 ρ0 (w64 ((p_0.n : Int) + 1)) 0 ω1 (q3 std R)) := E_eq std p_0 w R
theorem drawsOk : drawsOk PP cfg okD (codeOf Try.f28) = true := by kernel_rfl
theorem calls (p_0 : Sl) {w : World} {R : Ending → World → Prop} (h : E std p_0 w R) : Calls PP F.spec_LowsOf #[Sl.v p_0] w R :=
  calls_of noCount mixed drawOk Try.func28 rfl (c := cfg) (args := [Sl.v p_0]) rfl (Nat.le_of_ble_eq_true (by kernel_rfl)) drawsOk h
end spec_LowsOf

namespace impl_LowsOf
@[reducible] def cfg : Cfg := ⟨6, [], [], [], [2], [], [30, 27, 11, 13, 20, 26, 37, 16, 52, 109, 83, 111, 72, 70, 36], [49, 46, 97, 75, 33, 104]⟩
def E (pr : Prims) (p_0 : Sl) (w : World) (R : Ending → World → Prop) : Prop :=
  wpC pr PP cfg (DD pr) (codeOf Try.f57) (retQ Try.f57.results.toList R) (argE 0 [Sl.v p_0]) w
theorem E_eq (pr : Prims) (p_0 : Sl) (w : World) (R : Ending → World → Prop) : E pr p_0 w R = (
  pr.newK T_Sint #[Sl.v p_0] w fun (a0 : Addr) ω1 =>
  pr.load1 .sl a0 ω1 fun (ξ2 : Sl) =>
  pr.call1 .sl PP F.impl_listed #[Sl.v ξ2, (.func (.func F.impl_LowsOfL1) #[] #[.pointer (some a0)])] ω1 fun (ρ3 : Sl) ω4 =>
  R (.returned (Sl.v ρ3)) ω4) := by kernel_rfl
theorem E_s (p_0 : Sl) (w : World) (R : Ending → World → Prop) : E std p_0 w R = (
  newK T_Sint #[Sl.v p_0] w fun (a0 : Addr) ω1 =>
  load1 .sl a0 ω1 fun (ξ2 : Sl) =>
  call1 .sl PP F.impl_listed #[Sl.v ξ2, (.func (.func F.impl_LowsOfL1) #[] #[.pointer (some a0)])] ω1 fun (ρ3 : Sl) ω4 =>
  R (.returned (Sl.v ρ3)) ω4) := E_eq std p_0 w R
theorem drawsOk : drawsOk PP cfg okD (codeOf Try.f57) = true := by kernel_rfl
theorem calls (p_0 : Sl) {w : World} {R : Ending → World → Prop} (h : E std p_0 w R) : Calls PP F.impl_LowsOf #[Sl.v p_0] w R :=
  calls_of noCount mixed drawOk Try.func57 rfl (c := cfg) (args := [Sl.v p_0]) rfl (Nat.le_of_ble_eq_true (by kernel_rfl)) drawsOk h
end impl_LowsOf

namespace impl_LowsOfL1
@[reducible] def cfg : Cfg := ⟨21, [(2, [0, 1, 8, 9, 10])], [(1, [0, 1, 8, 9, 10]), (0, [])], [], [3], [], [30, 27, 11, 13, 20, 26, 37, 16, 52, 109, 83, 111, 72, 70, 36], [49, 46, 97, 75, 33, 104]⟩
def q0 (pr : Prims) (R : Ending → World → Prop) : Exit → Env → World → Prop := fun ex e w => normQ ex (fun e w => contE pr cfg (sub (codeOf Try.f77) [1, 1]) (fun e w => wpC pr PP cfg (DD pr) (sub (codeOf Try.f77) [1, 1]) (retQ Try.f77.results.toList R) e w) e w) (retQ Try.f77.results.toList R) e w
def q3 (pr : Prims) (R : Ending → World → Prop) : Exit → Env → World → Prop := fun ex e w => blockQ ex 0 (q0 pr R) e w
def emb2 (i_0 : Int) (t1 : Addr) (t8 : Sl) (t9 : Int) (t10 : Int) : Env := [(0, vI i_0), (1, .pointer (some t1)), (8, Sl.v t8), (9, vI t9), (10, vI t10)]
def x0 : Env := []
def S2 (pr : Prims) (Q : Exit → Env → World → Prop) : (Env → World → Prop) → Env → World → Prop := fun k e w => wpC pr PP cfg (DD pr) (sub (codeOf Try.f77) [1, 0, 1, 0, 0]) (fun ex e w => normQ ex (fun e' w' => k (Env.restr e' (lookN cfg.loops (keyOf (sub (codeOf Try.f77) [1, 0, 1, 0, 0])))) w') Q e w) e w
def B2 (pr : Prims) (i_0 : Int) (t1 : Addr) (t8 : Sl) (t9 : Int) (t10 : Int) (w : World) (k : Env → World → Prop) (Q : Exit → Env → World → Prop) : Prop :=
  S2 pr Q k (emb2 i_0 t1 t8 t9 t10) w
def L2 (pr : Prims) (i_0 : Int) (t1 : Addr) (t8 : Sl) (t9 : Int) (t10 : Int) (w : World) (Q : Exit → Env → World → Prop) : Prop :=
  pr.loop (S2 pr Q) (emb2 i_0 t1 t8 t9 t10) w
def E (pr : Prims) (i_0 : Int) (t1 : Addr) (w : World) (R : Ending → World → Prop) : Prop :=
  wpC pr PP cfg (DD pr) (codeOf Try.f77) (retQ Try.f77.results.toList R) (argE 0 [vI i_0, .pointer (some t1)]) w
theorem B2_eq (pr : Prims) (i_0 : Int) (t1 : Addr) (t8 : Sl) (t9 : Int) (t10 : Int) (w : World) (k : Env → World → Prop) (Q : Exit → Env → World → Prop) : B2 pr i_0 t1 t8 t9 t10 w k Q = (
  bif decide (t10 < t9) then (
  pr.idxK 1 t8 t10 fun (a4 : Addr) =>
  pr.load1 (.int .i64) a4 w fun (ξ5 : Int) =>
  pr.load1 .sl t1 w fun (ξ6 : Sl) =>
  pr.idxK 1 ξ6 i_0 fun (a7 : Addr) =>
  pr.load1 (.int .i64) a7 w fun (ξ8 : Int) =>
  bif decide (ξ5 < ξ8) then (
  Q .ret [(3, .bool false)] w)
  else (
  k (emb2 i_0 t1 t8 t9 (w64 (t10 + 1))) w))
  else (
  Q (.exit 0) (x0) w)) := by kernel_rfl
theorem B2_s (i_0 : Int) (t1 : Addr) (t8 : Sl) (t9 : Int) (t10 : Int) (w : World) (k : Env → World → Prop) (Q : Exit → Env → World → Prop) : B2 std i_0 t1 t8 t9 t10 w k Q = (
  bif decide (t10 < t9) then (
  idxK 1 t8 t10 fun (a4 : Addr) =>
  load1 (.int .i64) a4 w fun (ξ5 : Int) =>
  load1 .sl t1 w fun (ξ6 : Sl) =>
  idxK 1 ξ6 i_0 fun (a7 : Addr) =>
  load1 (.int .i64) a7 w fun (ξ8 : Int) =>
  bif decide (ξ5 < ξ8) then (
  Q .ret [(3, .bool false)] w)
  else (
  k (emb2 i_0 t1 t8 t9 (w64 (t10 + 1))) w))
  else (
  Q (.exit 0) (x0) w)) := B2_eq std i_0 t1 t8 t9 t10 w k Q
theorem L2_rule (i_0 : Int) (t1 : Addr) (t8 : Sl) (t9 : Int) (t10 : Int) (w : World) (Q : Exit → Env → World → Prop) (I : Int → World → Prop) (μ : Int → World → Nat) (h0 : I t10 w)
    (h : ∀ (t10 : Int) (w' : World), I t10 w' → B2 std i_0 t1 t8 t9 t10 w' (fun e2 w2 => ∃ t10_n, e2 = emb2 i_0 t1 t8 t9 t10_n ∧ I t10_n w2 ∧ μ t10_n w2 < μ t10 w') Q) :
    L2 std i_0 t1 t8 t9 t10 w Q := by
  unfold L2
  refine LoopE.intro (σ := Int) (step := S2 std Q) (fun s => emb2 i_0 t1 t8 t9 s) (fun s w => I s w) (fun s w => μ s w) t10 rfl h0 ?_
  intro s w' hI
  have h1 := h s w' hI
  unfold B2 at h1
  exact h1
theorem A2_0_eq (pr : Prims) (w : World) (R : Ending → World → Prop) : (q3 pr R) (.exit 0) (x0) w = (
  R (.returned (.bool true)) w) := by kernel_rfl
theorem A2_0_s (w : World) (R : Ending → World → Prop) : (q3 std R) (.exit 0) (x0) w = (
  R (.returned (.bool true)) w) := A2_0_eq std w R
theorem R2_eq (pr : Prims) (v3 : Value) (w : World) (R : Ending → World → Prop) : (q3 pr R) .ret [(3, v3)] w = (
  R (.returned (v3)) w) := by kernel_rfl
theorem R2_s (v3 : Value) (w : World) (R : Ending → World → Prop) : (q3 std R) .ret [(3, v3)] w = (
  R (.returned (v3)) w) := R2_eq std v3 w R
theorem E_eq (pr : Prims) (i_0 : Int) (t1 : Addr) (w : World) (R : Ending → World → Prop) : E pr i_0 t1 w R = (
  pr.load1 .sl t1 w fun (ξ1 : Sl) =>
  pr.cutK 1 ξ1 none (some i_0) fun (s2 : Sl) =>
  L2 pr i_0 t1 s2 (s2.n : Int) 0 w (q3 pr R)) := by kernel_rfl
theorem E_s (i_0 : Int) (t1 : Addr) (w : World) (R : Ending → World → Prop) : E std i_0 t1 w R = (
  load1 .sl t1 w fun (ξ1 : Sl) =>
  cutK 1 ξ1 none (some i_0) fun (s2 : Sl) =>
  L2 std i_0 t1 s2 (s2.n : Int) 0 w (q3 std R)) := E_eq std i_0 t1 w R
theorem drawsOk : drawsOk PP cfg okD (codeOf Try.f77) = true := by kernel_rfl
theorem calls (i_0 : Int) (t1 : Addr) {w : World} {R : Ending → World → Prop} (h : E std i_0 t1 w R) : Calls PP F.impl_LowsOfL1 #[vI i_0, .pointer (some t1)] w R :=
  calls_of noCount mixed drawOk Try.func77 rfl (c := cfg) (args := [vI i_0, .pointer (some t1)]) rfl (Nat.le_of_ble_eq_true (by kernel_rfl)) drawsOk h
end impl_LowsOfL1

namespace impl_listed
@[reducible] def cfg : Cfg := ⟨26, [(5, [1, 5, 12, 13])], [(1, [1, 5, 12, 13]), (0, [5])], [], [4], [], [30, 27, 11, 13, 20, 26, 37, 16, 52, 109, 83, 111, 72, 70, 36], [49, 46, 97, 75, 33, 104]⟩
def q4 (pr : Prims) (R : Ending → World → Prop) : Exit → Env → World → Prop := fun ex e w => normQ ex (fun e w => contE pr cfg (sub (codeOf Try.f76) [1, 1, 1, 1]) (fun e w => wpC pr PP cfg (DD pr) (sub (codeOf Try.f76) [1, 1, 1, 1]) (retQ Try.f76.results.toList R) e w) e w) (retQ Try.f76.results.toList R) e w
def q5 (pr : Prims) (R : Ending → World → Prop) : Exit → Env → World → Prop := fun ex e w => blockQ ex 0 (q4 pr R) e w
def emb5 (holds_1 : Value) (out_5 : Sl) (t12 : Int) (t13 : Int) : Env := [(1, holds_1), (5, Sl.v out_5), (12, vI t12), (13, vI t13)]
def x0 (out_5 : Sl) : Env := [(5, Sl.v out_5)]
def S5 (pr : Prims) (Q : Exit → Env → World → Prop) : (Env → World → Prop) → Env → World → Prop := fun k e w => wpC pr PP cfg (DD pr) (sub (codeOf Try.f76) [1, 1, 1, 0, 1, 0, 0]) (fun ex e w => normQ ex (fun e' w' => k (Env.restr e' (lookN cfg.loops (keyOf (sub (codeOf Try.f76) [1, 1, 1, 0, 1, 0, 0])))) w') Q e w) e w
def B5 (pr : Prims) (holds_1 : Value) (out_5 : Sl) (t12 : Int) (t13 : Int) (w : World) (k : Env → World → Prop) (Q : Exit → Env → World → Prop) : Prop :=
  S5 pr Q k (emb5 holds_1 out_5 t12 t13) w
def L5 (pr : Prims) (holds_1 : Value) (out_5 : Sl) (t12 : Int) (t13 : Int) (w : World) (Q : Exit → Env → World → Prop) : Prop :=
  pr.loop (S5 pr Q) (emb5 holds_1 out_5 t12 t13) w
def E (pr : Prims) (p_0 : Sl) (holds_1 : Value) (w : World) (R : Ending → World → Prop) : Prop :=
  wpC pr PP cfg (DD pr) (codeOf Try.f76) (retQ Try.f76.results.toList R) (argE 0 [Sl.v p_0, holds_1]) w
theorem B5_eq (pr : Prims) (holds_1 : Value) (out_5 : Sl) (t12 : Int) (t13 : Int) (w : World) (k : Env → World → Prop) (Q : Exit → Env → World → Prop) : B5 pr holds_1 out_5 t12 t13 w k Q = (
  bif decide (t13 < t12) then (
  pr.callV1 .bool PP (holds_1) [vI t13] w fun (ρ6 : Bool) ω7 =>
  bif ρ6 then (
  pr.sem1 .sl PP (Instr.buildSlice T_Sint 1 #[(0, vI (w64 (t13 + 1)))]) ω7 fun (ρ8 : Sl) ω9 =>
  pr.sem1 .sl PP (Builtin.append_ #[T_Sint, T_Sint] T_Sint #[Sl.v out_5, Sl.v ρ8]) ω9 fun (ρ10 : Sl) ω11 =>
  k (emb5 holds_1 ρ10 t12 (w64 (t13 + 1))) ω11)
  else (
  k (emb5 holds_1 out_5 t12 (w64 (t13 + 1))) ω7))
  else (
  Q (.exit 0) (x0 out_5) w)) := by kernel_rfl
theorem B5_s (holds_1 : Value) (out_5 : Sl) (t12 : Int) (t13 : Int) (w : World) (k : Env → World → Prop) (Q : Exit → Env → World → Prop) : B5 std holds_1 out_5 t12 t13 w k Q = (
  bif decide (t13 < t12) then (
  callV1 .bool PP (holds_1) [vI t13] w fun (ρ6 : Bool) ω7 =>
  bif ρ6 then (
  sem1 .sl PP (Instr.buildSlice T_Sint 1 #[(0, vI (w64 (t13 + 1)))]) ω7 fun (ρ8 : Sl) ω9 =>
  sem1 .sl PP (Builtin.append_ #[T_Sint, T_Sint] T_Sint #[Sl.v out_5, Sl.v ρ8]) ω9 fun (ρ10 : Sl) ω11 =>
  k (emb5 holds_1 ρ10 t12 (w64 (t13 + 1))) ω11)
  else (
  k (emb5 holds_1 out_5 t12 (w64 (t13 + 1))) ω7))
  else (
  Q (.exit 0) (x0 out_5) w)) := B5_eq std holds_1 out_5 t12 t13 w k Q
theorem L5_rule (holds_1 : Value) (out_5 : Sl) (t12 : Int) (t13 : Int) (w : World) (Q : Exit → Env → World → Prop) (I : Sl → Int → World → Prop) (μ : Sl → Int → World → Nat) (h0 : I out_5 t13 w)
    (h : ∀ (out_5 : Sl) (t13 : Int) (w' : World), I out_5 t13 w' → B5 std holds_1 out_5 t12 t13 w' (fun e2 w2 => ∃ out_5_n t13_n, e2 = emb5 holds_1 out_5_n t12 t13_n ∧ I out_5_n t13_n w2 ∧ μ out_5_n t13_n w2 < μ out_5 t13 w') Q) :
    L5 std holds_1 out_5 t12 t13 w Q := by
  unfold L5
  refine LoopE.intro (σ := Sl × Int) (step := S5 std Q) (fun s => emb5 holds_1 s.1 t12 s.2) (fun s w => I s.1 s.2 w) (fun s w => μ s.1 s.2 w) (out_5, t13) rfl h0 ?_
  intro s w' hI
  have h1 := h s.1 s.2 w' hI
  unfold B5 at h1
  simp only [Prod.exists]
  exact h1
theorem A5_0_eq (pr : Prims) (out_5 : Sl) (w : World) (R : Ending → World → Prop) : (q5 pr R) (.exit 0) (x0 out_5) w = (
  R (.returned (Sl.v out_5)) w) := by kernel_rfl
theorem A5_0_s (out_5 : Sl) (w : World) (R : Ending → World → Prop) : (q5 std R) (.exit 0) (x0 out_5) w = (
  R (.returned (Sl.v out_5)) w) := A5_0_eq std out_5 w R
theorem E_eq (pr : Prims) (p_0 : Sl) (holds_1 : Value) (w : World) (R : Ending → World → Prop) : E pr p_0 holds_1 w R = (
  pr.call1 .bool PP F.impl_IsPerm #[Sl.v p_0] w fun (ρ0 : Bool) ω1 =>
  bif !ρ0 then (
  R (.returned (Sl.v Sl.nil)) ω1)
  else (
  pr.sem1 .sl PP (Instr.buildSlice T_Sint 0 #[]) ω1 fun (ρ2 : Sl) ω3 =>
  L5 pr holds_1 ρ2 (p_0.n : Int) 0 ω3 (q5 pr R))) := by kernel_rfl
theorem E_s (p_0 : Sl) (holds_1 : Value) (w : World) (R : Ending → World → Prop) : E std p_0 holds_1 w R = (
  call1 .bool PP F.impl_IsPerm #[Sl.v p_0] w fun (ρ0 : Bool) ω1 =>
  bif !ρ0 then (
  R (.returned (Sl.v Sl.nil)) ω1)
  else (
  sem1 .sl PP (Instr.buildSlice T_Sint 0 #[]) ω1 fun (ρ2 : Sl) ω3 =>
  L5 std holds_1 ρ2 (p_0.n : Int) 0 ω3 (q5 std R))) := E_eq std p_0 holds_1 w R
theorem drawsOk : drawsOk PP cfg okD (codeOf Try.f76) = true := by kernel_rfl
theorem calls (p_0 : Sl) (holds_1 : Value) {w : World} {R : Ending → World → Prop} (h : E std p_0 holds_1 w R) : Calls PP F.impl_listed #[Sl.v p_0, holds_1] w R :=
  calls_of noCount mixed drawOk Try.func76 rfl (c := cfg) (args := [Sl.v p_0, holds_1]) rfl (Nat.le_of_ble_eq_true (by kernel_rfl)) drawsOk h
end impl_listed

end Go.Proofs.Ytjojajnkofgfpaa
