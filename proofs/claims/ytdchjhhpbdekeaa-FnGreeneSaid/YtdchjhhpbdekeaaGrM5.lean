/- The texts CodeFi, CodeCl, Clo, Find, CodeRi, CodeSa, Same, Rise, Up2, FgMath, GrMath, CodeRv, Rev, Sl1, Down, CodeI, InsS, Form in one (gmerge.py). -/
import Derived.Test.YtdchjhhpbdekeaaGrM4
/- What each function does, step by step, written by a program (Gen.lean); each equation is checked by the kernel. -/
namespace Go.Proofs.Ytdchjhhpbdekeaa
open Go
set_option linter.unusedVariables false
set_option maxRecDepth 100000
namespace spec_l7Find
@[reducible] def cfg : Cfg := ⟨54, [(7, [0, 1, 2, 3, 10])], [(1, [0, 1, 2, 3, 10]), (0, [3])], [(6, [0, 1, 2, 3, 9])], [8], [], [101, 107, 112, 15, 21, 124, 76, 137, 28, 115, 91, 81, 130], [138, 140, 82, 6, 86, 85, 132]⟩
def q4 (pr : Prims) (R : Ending → World → Prop) : Exit → Env → World → Prop := fun ex e w => normQ ex (fun e w => contE pr cfg (sub (codeOf Try.f90) [1, 1, 1, 1]) (fun e w => wpC pr PP cfg (DD pr) (sub (codeOf Try.f90) [1, 1, 1, 1]) (retQ Try.f90.results.toList R) e w) e w) (retQ Try.f90.results.toList R) e w
def q7 (pr : Prims) (R : Ending → World → Prop) : Exit → Env → World → Prop := fun ex e w => normQ ex (fun e w => contE pr cfg (sub (codeOf Try.f90) [1, 1, 1, 1, 1]) (fun e w => wpC pr PP cfg (DD pr) (sub (codeOf Try.f90) [1, 1, 1, 1, 1]) (retQ Try.f90.results.toList R) e w) e w) (retQ Try.f90.results.toList R) e w
def q8 (pr : Prims) (R : Ending → World → Prop) : Exit → Env → World → Prop := fun ex e w => blockQ ex 0 (q7 pr R) e w
def j6 (p_0 : Sl) (q_1 : Sl) (head_2 : Sl) (out_3 : Sl) (from_9 : Int) : Env := [(0, Sl.v p_0), (1, Sl.v q_1), (2, Sl.v head_2), (3, Sl.v out_3), (9, vI from_9)]
def emb7 (p_0 : Sl) (q_1 : Sl) (head_2 : Sl) (out_3 : Sl) (x_10 : Int) : Env := [(0, Sl.v p_0), (1, Sl.v q_1), (2, Sl.v head_2), (3, Sl.v out_3), (10, vI x_10)]
def x0 (out_3 : Sl) : Env := [(3, Sl.v out_3)]
def S7 (pr : Prims) (Q : Exit → Env → World → Prop) : (Env → World → Prop) → Env → World → Prop := fun k e w => wpC pr PP cfg (DD pr) (sub (codeOf Try.f90) [1, 1, 1, 1, 0, 1, 0, 0]) (fun ex e w => normQ ex (fun e' w' => k (Env.restr e' (lookN cfg.loops (keyOf (sub (codeOf Try.f90) [1, 1, 1, 1, 0, 1, 0, 0])))) w') Q e w) e w
def B7 (pr : Prims) (p_0 : Sl) (q_1 : Sl) (head_2 : Sl) (out_3 : Sl) (x_10 : Int) (w : World) (k : Env → World → Prop) (Q : Exit → Env → World → Prop) : Prop :=
  S7 pr Q k (emb7 p_0 q_1 head_2 out_3 x_10) w
def L7 (pr : Prims) (p_0 : Sl) (q_1 : Sl) (head_2 : Sl) (out_3 : Sl) (x_10 : Int) (w : World) (Q : Exit → Env → World → Prop) : Prop :=
  pr.loop (S7 pr Q) (emb7 p_0 q_1 head_2 out_3 x_10) w
def J6 (pr : Prims) (p_0 : Sl) (q_1 : Sl) (head_2 : Sl) (out_3 : Sl) (from_9 : Int) (w : World) (R : Ending → World → Prop) : Prop :=
  pr.seg (fun e w => wpC pr PP cfg (DD pr) (sub (codeOf Try.f90) [1, 1, 1, 1]) (retQ Try.f90.results.toList R) e w) (j6 p_0 q_1 head_2 out_3 from_9) w
def E (pr : Prims) (p_0 : Sl) (q_1 : Sl) (head_2 : Sl) (out_3 : Sl) (w : World) (R : Ending → World → Prop) : Prop :=
  wpC pr PP cfg (DD pr) (codeOf Try.f90) (retQ Try.f90.results.toList R) (argE 0 [Sl.v p_0, Sl.v q_1, Sl.v head_2, Sl.v out_3]) w
theorem B7_eq (pr : Prims) (p_0 : Sl) (q_1 : Sl) (head_2 : Sl) (out_3 : Sl) (x_10 : Int) (w : World) (k : Env → World → Prop) (Q : Exit → Env → World → Prop) : B7 pr p_0 q_1 head_2 out_3 x_10 w k Q = (
  bif decide (x_10 ≤ (p_0.n : Int)) then (
  pr.sem1 .sl PP (Instr.buildSlice T_Sint 0 #[]) w fun (ρ9 : Sl) ω10 =>
  pr.sem1 .sl PP (Builtin.append_ #[T_Sint, T_Sint] T_Sint #[Sl.v ρ9, Sl.v head_2]) ω10 fun (ρ11 : Sl) ω12 =>
  pr.sem1 .sl PP (Instr.buildSlice T_Sint 1 #[(0, vI x_10)]) ω12 fun (ρ13 : Sl) ω14 =>
  pr.sem1 .sl PP (Builtin.append_ #[T_Sint, T_Sint] T_Sint #[Sl.v ρ11, Sl.v ρ13]) ω14 fun (ρ15 : Sl) ω16 =>
  pr.call1 .bool PP F.spec_l7Fits #[Sl.v p_0, Sl.v q_1, Sl.v ρ15] ω16 fun (ρ17 : Bool) ω18 =>
  bif ρ17 then (
  pr.call1 .sl PP F.spec_l7Find #[Sl.v p_0, Sl.v q_1, Sl.v ρ15, Sl.v out_3] ω18 fun (ρ19 : Sl) ω20 =>
  k (emb7 p_0 q_1 head_2 ρ19 (w64 (x_10 + 1))) ω20)
  else (
  k (emb7 p_0 q_1 head_2 out_3 (w64 (x_10 + 1))) ω18))
  else (
  Q (.exit 0) (x0 out_3) w)) := by kernel_rfl
theorem B7_s (p_0 : Sl) (q_1 : Sl) (head_2 : Sl) (out_3 : Sl) (x_10 : Int) (w : World) (k : Env → World → Prop) (Q : Exit → Env → World → Prop) : B7 std p_0 q_1 head_2 out_3 x_10 w k Q = (
  bif decide (x_10 ≤ (p_0.n : Int)) then (
  sem1 .sl PP (Instr.buildSlice T_Sint 0 #[]) w fun (ρ9 : Sl) ω10 =>
  sem1 .sl PP (Builtin.append_ #[T_Sint, T_Sint] T_Sint #[Sl.v ρ9, Sl.v head_2]) ω10 fun (ρ11 : Sl) ω12 =>
  sem1 .sl PP (Instr.buildSlice T_Sint 1 #[(0, vI x_10)]) ω12 fun (ρ13 : Sl) ω14 =>
  sem1 .sl PP (Builtin.append_ #[T_Sint, T_Sint] T_Sint #[Sl.v ρ11, Sl.v ρ13]) ω14 fun (ρ15 : Sl) ω16 =>
  call1 .bool PP F.spec_l7Fits #[Sl.v p_0, Sl.v q_1, Sl.v ρ15] ω16 fun (ρ17 : Bool) ω18 =>
  bif ρ17 then (
  call1 .sl PP F.spec_l7Find #[Sl.v p_0, Sl.v q_1, Sl.v ρ15, Sl.v out_3] ω18 fun (ρ19 : Sl) ω20 =>
  k (emb7 p_0 q_1 head_2 ρ19 (w64 (x_10 + 1))) ω20)
  else (
  k (emb7 p_0 q_1 head_2 out_3 (w64 (x_10 + 1))) ω18))
  else (
  Q (.exit 0) (x0 out_3) w)) := B7_eq std p_0 q_1 head_2 out_3 x_10 w k Q
theorem L7_rule (p_0 : Sl) (q_1 : Sl) (head_2 : Sl) (out_3 : Sl) (x_10 : Int) (w : World) (Q : Exit → Env → World → Prop) (I : Sl → Int → World → Prop) (μ : Sl → Int → World → Nat) (h0 : I out_3 x_10 w)
    (h : ∀ (out_3 : Sl) (x_10 : Int) (w' : World), I out_3 x_10 w' → B7 std p_0 q_1 head_2 out_3 x_10 w' (fun e2 w2 => ∃ out_3_n x_10_n, e2 = emb7 p_0 q_1 head_2 out_3_n x_10_n ∧ I out_3_n x_10_n w2 ∧ μ out_3_n x_10_n w2 < μ out_3 x_10 w') Q) :
    L7 std p_0 q_1 head_2 out_3 x_10 w Q := by
  unfold L7
  refine LoopE.intro (σ := Sl × Int) (step := S7 std Q) (fun s => emb7 p_0 q_1 head_2 s.1 s.2) (fun s w => I s.1 s.2 w) (fun s w => μ s.1 s.2 w) (out_3, x_10) rfl h0 ?_
  intro s w' hI
  have h1 := h s.1 s.2 w' hI
  unfold B7 at h1
  simp only [Prod.exists]
  exact h1
theorem A7_0_eq (pr : Prims) (out_3 : Sl) (w : World) (R : Ending → World → Prop) : (q8 pr R) (.exit 0) (x0 out_3) w = (
  R (.returned (Sl.v out_3)) w) := by kernel_rfl
theorem A7_0_s (out_3 : Sl) (w : World) (R : Ending → World → Prop) : (q8 std R) (.exit 0) (x0 out_3) w = (
  R (.returned (Sl.v out_3)) w) := A7_0_eq std out_3 w R
theorem J6_gen (pr : Prims) (p_0 : Sl) (q_1 : Sl) (head_2 : Sl) (out_3 : Sl) (from_9 : Int) (w : World) (R : Ending → World → Prop) : wpC pr PP cfg (DD pr) (sub (codeOf Try.f90) [1, 1, 1, 1]) (retQ Try.f90.results.toList R) (j6 p_0 q_1 head_2 out_3 from_9) w = (
  L7 pr p_0 q_1 head_2 out_3 from_9 w (q8 pr R)) := by kernel_rfl
theorem J6_s (p_0 : Sl) (q_1 : Sl) (head_2 : Sl) (out_3 : Sl) (from_9 : Int) (w : World) (R : Ending → World → Prop) : J6 std p_0 q_1 head_2 out_3 from_9 w R = (
  L7 std p_0 q_1 head_2 out_3 from_9 w (q8 std R)) := J6_gen std p_0 q_1 head_2 out_3 from_9 w R
theorem E_eq (pr : Prims) (p_0 : Sl) (q_1 : Sl) (head_2 : Sl) (out_3 : Sl) (w : World) (R : Ending → World → Prop) : E pr p_0 q_1 head_2 out_3 w R = (
  bif (head_2.n : Int) == (q_1.n : Int) then (
  pr.sem1 .sl PP (Instr.buildSlice T_SSint 1 #[(0, Sl.v head_2)]) w fun (ρ0 : Sl) ω1 =>
  pr.sem1 .sl PP (Builtin.append_ #[T_SSint, T_SSint] T_SSint #[Sl.v out_3, Sl.v ρ0]) ω1 fun (ρ2 : Sl) ω3 =>
  R (.returned (Sl.v ρ2)) ω3)
  else (
  bif decide ((head_2.n : Int) > 0) then (
  pr.idxK 1 head_2 (w64 ((head_2.n : Int) - 1)) fun (a5 : Addr) =>
  pr.load1 (.int .i64) a5 w fun (ξ6 : Int) =>
  J6 pr p_0 q_1 head_2 out_3 (w64 (ξ6 + 1)) w R)
  else (
  J6 pr p_0 q_1 head_2 out_3 1 w R))) := by kernel_rfl
theorem E_s (p_0 : Sl) (q_1 : Sl) (head_2 : Sl) (out_3 : Sl) (w : World) (R : Ending → World → Prop) : E std p_0 q_1 head_2 out_3 w R = (
  bif (head_2.n : Int) == (q_1.n : Int) then (
  sem1 .sl PP (Instr.buildSlice T_SSint 1 #[(0, Sl.v head_2)]) w fun (ρ0 : Sl) ω1 =>
  sem1 .sl PP (Builtin.append_ #[T_SSint, T_SSint] T_SSint #[Sl.v out_3, Sl.v ρ0]) ω1 fun (ρ2 : Sl) ω3 =>
  R (.returned (Sl.v ρ2)) ω3)
  else (
  bif decide ((head_2.n : Int) > 0) then (
  idxK 1 head_2 (w64 ((head_2.n : Int) - 1)) fun (a5 : Addr) =>
  load1 (.int .i64) a5 w fun (ξ6 : Int) =>
  J6 std p_0 q_1 head_2 out_3 (w64 (ξ6 + 1)) w R)
  else (
  J6 std p_0 q_1 head_2 out_3 1 w R))) := E_eq std p_0 q_1 head_2 out_3 w R
theorem drawsOk : drawsOk PP cfg okD (codeOf Try.f90) = true := by kernel_rfl
theorem calls (p_0 : Sl) (q_1 : Sl) (head_2 : Sl) (out_3 : Sl) {w : World} {R : Ending → World → Prop} (h : E std p_0 q_1 head_2 out_3 w R) : Calls PP F.spec_l7Find #[Sl.v p_0, Sl.v q_1, Sl.v head_2, Sl.v out_3] w R :=
  calls_of noCount mixed drawOk Try.func90 rfl (c := cfg) (args := [Sl.v p_0, Sl.v q_1, Sl.v head_2, Sl.v out_3]) rfl (Nat.le_of_ble_eq_true (by kernel_rfl)) drawsOk h
end spec_l7Find

namespace spec_l7Has
@[reducible] def cfg : Cfg := ⟨12, [], [], [], [4], [], [101, 107, 112, 15, 21, 124, 76, 137, 28, 115, 91, 81, 130], [138, 140, 82, 6, 86, 85, 132]⟩
def E (pr : Prims) (p_0 : Sl) (q_1 : Sl) (w : World) (R : Ending → World → Prop) : Prop :=
  wpC pr PP cfg (DD pr) (codeOf Try.f89) (retQ Try.f89.results.toList R) (argE 0 [Sl.v p_0, Sl.v q_1]) w
theorem E_eq (pr : Prims) (p_0 : Sl) (q_1 : Sl) (w : World) (R : Ending → World → Prop) : E pr p_0 q_1 w R = (
  pr.sem1 .sl PP (Instr.buildSlice T_Sint 0 #[]) w fun (ρ0 : Sl) ω1 =>
  pr.sem1 .sl PP (Instr.buildSlice T_SSint 0 #[]) ω1 fun (ρ2 : Sl) ω3 =>
  pr.call1 .sl PP F.spec_l7Find #[Sl.v p_0, Sl.v q_1, Sl.v ρ0, Sl.v ρ2] ω3 fun (ρ4 : Sl) ω5 =>
  R (.returned (.bool (decide ((ρ4.n : Int) > 0)))) ω5) := by kernel_rfl
theorem E_s (p_0 : Sl) (q_1 : Sl) (w : World) (R : Ending → World → Prop) : E std p_0 q_1 w R = (
  sem1 .sl PP (Instr.buildSlice T_Sint 0 #[]) w fun (ρ0 : Sl) ω1 =>
  sem1 .sl PP (Instr.buildSlice T_SSint 0 #[]) ω1 fun (ρ2 : Sl) ω3 =>
  call1 .sl PP F.spec_l7Find #[Sl.v p_0, Sl.v q_1, Sl.v ρ0, Sl.v ρ2] ω3 fun (ρ4 : Sl) ω5 =>
  R (.returned (.bool (decide ((ρ4.n : Int) > 0)))) ω5) := E_eq std p_0 q_1 w R
theorem drawsOk : drawsOk PP cfg okD (codeOf Try.f89) = true := by kernel_rfl
theorem calls (p_0 : Sl) (q_1 : Sl) {w : World} {R : Ending → World → Prop} (h : E std p_0 q_1 w R) : Calls PP F.spec_l7Has #[Sl.v p_0, Sl.v q_1] w R :=
  calls_of noCount mixed drawOk Try.func89 rfl (c := cfg) (args := [Sl.v p_0, Sl.v q_1]) rfl (Nat.le_of_ble_eq_true (by kernel_rfl)) drawsOk h
end spec_l7Has

namespace spec_l7Fits
@[reducible] def cfg : Cfg := ⟨44, [(3, [0, 1, 2, 7, 8])], [(1, [0, 1, 2, 7, 8]), (0, [])], [], [6], [5], [101, 107, 112, 15, 21, 124, 76, 137, 28, 115, 91, 81, 130], [138, 140, 82, 6, 86, 85, 132]⟩
def q0 (pr : Prims) (R : Ending → World → Prop) : Exit → Env → World → Prop := fun ex e w => normQ ex (fun e w => contE pr cfg (sub (codeOf Try.f130) [1, 1, 1]) (fun e w => wpC pr PP cfg (DD pr) (sub (codeOf Try.f130) [1, 1, 1]) (retQ Try.f130.results.toList R) e w) e w) (retQ Try.f130.results.toList R) e w
def q1 (pr : Prims) (R : Ending → World → Prop) : Exit → Env → World → Prop := fun ex e w => blockQ ex 0 (q0 pr R) e w
def emb3 (p_0 : Sl) (q_1 : Sl) (places_2 : Sl) (last_7 : Int) (k_8 : Int) : Env := [(0, Sl.v p_0), (1, Sl.v q_1), (2, Sl.v places_2), (7, vI last_7), (8, vI k_8)]
def x0 : Env := []
def S3 (pr : Prims) (Q : Exit → Env → World → Prop) : (Env → World → Prop) → Env → World → Prop := fun k e w => wpC pr PP cfg (DD pr) (sub (codeOf Try.f130) [1, 1, 0, 1, 0, 0]) (fun ex e w => normQ ex (fun e' w' => k (Env.restr e' (lookN cfg.loops (keyOf (sub (codeOf Try.f130) [1, 1, 0, 1, 0, 0])))) w') Q e w) e w
def B3 (pr : Prims) (p_0 : Sl) (q_1 : Sl) (places_2 : Sl) (last_7 : Int) (k_8 : Int) (w : World) (k : Env → World → Prop) (Q : Exit → Env → World → Prop) : Prop :=
  S3 pr Q k (emb3 p_0 q_1 places_2 last_7 k_8) w
def L3 (pr : Prims) (p_0 : Sl) (q_1 : Sl) (places_2 : Sl) (last_7 : Int) (k_8 : Int) (w : World) (Q : Exit → Env → World → Prop) : Prop :=
  pr.loop (S3 pr Q) (emb3 p_0 q_1 places_2 last_7 k_8) w
def E (pr : Prims) (p_0 : Sl) (q_1 : Sl) (places_2 : Sl) (w : World) (R : Ending → World → Prop) : Prop :=
  wpC pr PP cfg (DD pr) (codeOf Try.f130) (retQ Try.f130.results.toList R) (argE 0 [Sl.v p_0, Sl.v q_1, Sl.v places_2]) w
theorem B3_eq (pr : Prims) (p_0 : Sl) (q_1 : Sl) (places_2 : Sl) (last_7 : Int) (k_8 : Int) (w : World) (k : Env → World → Prop) (Q : Exit → Env → World → Prop) : B3 pr p_0 q_1 places_2 last_7 k_8 w k Q = (
  bif decide (k_8 < last_7) then (
  pr.idxK 1 q_1 k_8 fun (a2 : Addr) =>
  pr.load1 (.int .i64) a2 w fun (ξ3 : Int) =>
  pr.idxK 1 q_1 last_7 fun (a4 : Addr) =>
  pr.load1 (.int .i64) a4 w fun (ξ5 : Int) =>
  pr.idxK 1 places_2 k_8 fun (a6 : Addr) =>
  pr.load1 (.int .i64) a6 w fun (ξ7 : Int) =>
  pr.idxK 1 p_0 (w64 (ξ7 - 1)) fun (a8 : Addr) =>
  pr.load1 (.int .i64) a8 w fun (ξ9 : Int) =>
  pr.idxK 1 places_2 last_7 fun (a10 : Addr) =>
  pr.load1 (.int .i64) a10 w fun (ξ11 : Int) =>
  pr.idxK 1 p_0 (w64 (ξ11 - 1)) fun (a12 : Addr) =>
  pr.load1 (.int .i64) a12 w fun (ξ13 : Int) =>
  pr.drewAll w fun ω14 =>
  bif !((decide (ξ3 < ξ5)) == (decide (ξ9 < ξ13))) then (
  Q .ret [(6, .bool false)] ω14)
  else (
  k (emb3 p_0 q_1 places_2 last_7 (w64 (k_8 + 1))) ω14))
  else (
  Q (.exit 0) (x0) w)) := by kernel_rfl
theorem B3_s (p_0 : Sl) (q_1 : Sl) (places_2 : Sl) (last_7 : Int) (k_8 : Int) (w : World) (k : Env → World → Prop) (Q : Exit → Env → World → Prop) : B3 std p_0 q_1 places_2 last_7 k_8 w k Q = (
  bif decide (k_8 < last_7) then (
  idxK 1 q_1 k_8 fun (a2 : Addr) =>
  load1 (.int .i64) a2 w fun (ξ3 : Int) =>
  idxK 1 q_1 last_7 fun (a4 : Addr) =>
  load1 (.int .i64) a4 w fun (ξ5 : Int) =>
  idxK 1 places_2 k_8 fun (a6 : Addr) =>
  load1 (.int .i64) a6 w fun (ξ7 : Int) =>
  idxK 1 p_0 (w64 (ξ7 - 1)) fun (a8 : Addr) =>
  load1 (.int .i64) a8 w fun (ξ9 : Int) =>
  idxK 1 places_2 last_7 fun (a10 : Addr) =>
  load1 (.int .i64) a10 w fun (ξ11 : Int) =>
  idxK 1 p_0 (w64 (ξ11 - 1)) fun (a12 : Addr) =>
  load1 (.int .i64) a12 w fun (ξ13 : Int) =>
  drewAll w fun ω14 =>
  bif !((decide (ξ3 < ξ5)) == (decide (ξ9 < ξ13))) then (
  Q .ret [(6, .bool false)] ω14)
  else (
  k (emb3 p_0 q_1 places_2 last_7 (w64 (k_8 + 1))) ω14))
  else (
  Q (.exit 0) (x0) w)) := B3_eq std p_0 q_1 places_2 last_7 k_8 w k Q
theorem L3_rule (p_0 : Sl) (q_1 : Sl) (places_2 : Sl) (last_7 : Int) (k_8 : Int) (w : World) (Q : Exit → Env → World → Prop) (I : Int → World → Prop) (μ : Int → World → Nat) (h0 : I k_8 w)
    (h : ∀ (k_8 : Int) (w' : World), I k_8 w' → B3 std p_0 q_1 places_2 last_7 k_8 w' (fun e2 w2 => ∃ k_8_n, e2 = emb3 p_0 q_1 places_2 last_7 k_8_n ∧ I k_8_n w2 ∧ μ k_8_n w2 < μ k_8 w') Q) :
    L3 std p_0 q_1 places_2 last_7 k_8 w Q := by
  unfold L3
  refine LoopE.intro (σ := Int) (step := S3 std Q) (fun s => emb3 p_0 q_1 places_2 last_7 s) (fun s w => I s w) (fun s w => μ s w) k_8 rfl h0 ?_
  intro s w' hI
  have h1 := h s w' hI
  unfold B3 at h1
  exact h1
theorem A3_0_eq (pr : Prims) (w : World) (R : Ending → World → Prop) : (q1 pr R) (.exit 0) (x0) w = (
  R (.returned (.bool true)) w) := by kernel_rfl
theorem A3_0_s (w : World) (R : Ending → World → Prop) : (q1 std R) (.exit 0) (x0) w = (
  R (.returned (.bool true)) w) := A3_0_eq std w R
theorem R3_eq (pr : Prims) (v6 : Value) (w : World) (R : Ending → World → Prop) : (q1 pr R) .ret [(6, v6)] w = (
  R (.returned (v6)) w) := by kernel_rfl
theorem R3_s (v6 : Value) (w : World) (R : Ending → World → Prop) : (q1 std R) .ret [(6, v6)] w = (
  R (.returned (v6)) w) := R3_eq std v6 w R
theorem E_eq (pr : Prims) (p_0 : Sl) (q_1 : Sl) (places_2 : Sl) (w : World) (R : Ending → World → Prop) : E pr p_0 q_1 places_2 w R = (
  L3 pr p_0 q_1 places_2 (w64 ((places_2.n : Int) - 1)) 0 w (q1 pr R)) := by kernel_rfl
theorem E_s (p_0 : Sl) (q_1 : Sl) (places_2 : Sl) (w : World) (R : Ending → World → Prop) : E std p_0 q_1 places_2 w R = (
  L3 std p_0 q_1 places_2 (w64 ((places_2.n : Int) - 1)) 0 w (q1 std R)) := E_eq std p_0 q_1 places_2 w R
theorem drawsOk : drawsOk PP cfg okD (codeOf Try.f130) = true := by kernel_rfl
theorem calls (p_0 : Sl) (q_1 : Sl) (places_2 : Sl) {w : World} {R : Ending → World → Prop} (h : E std p_0 q_1 places_2 w R) : Calls PP F.spec_l7Fits #[Sl.v p_0, Sl.v q_1, Sl.v places_2] w R :=
  calls_of noCount mixed drawOk Try.func130 rfl (c := cfg) (args := [Sl.v p_0, Sl.v q_1, Sl.v places_2]) rfl (Nat.le_of_ble_eq_true (by kernel_rfl)) drawsOk h
end spec_l7Fits

namespace impl_has
@[reducible] def cfg : Cfg := ⟨83, [(12, [0, 1, 2, 8, 9, 10, 42, 43, 44]), (8, [0, 1, 2, 8, 9])], [(3, [0, 1, 2, 8, 9, 10, 42, 43, 44]), (2, [0, 1, 2, 8, 9, 10]), (1, [0, 1, 2, 8, 9]), (0, [])], [(6, [0, 1, 2, 7])], [6], [14], [101, 107, 112, 15, 21, 124, 76, 137, 28, 115, 91, 81, 130], [138, 140, 82, 6, 86, 85, 132]⟩
def q0 (pr : Prims) (R : Ending → World → Prop) : Exit → Env → World → Prop := fun ex e w => normQ ex (fun e w => contE pr cfg (sub (codeOf Try.f87) [1, 1, 1, 1]) (fun e w => wpC pr PP cfg (DD pr) (sub (codeOf Try.f87) [1, 1, 1, 1]) (retQ Try.f87.results.toList R) e w) e w) (retQ Try.f87.results.toList R) e w
def q3 (pr : Prims) (R : Ending → World → Prop) : Exit → Env → World → Prop := fun ex e w => normQ ex (fun e w => contE pr cfg (sub (codeOf Try.f87) [1, 1, 1, 1, 1, 1]) (fun e w => wpC pr PP cfg (DD pr) (sub (codeOf Try.f87) [1, 1, 1, 1, 1, 1]) (retQ Try.f87.results.toList R) e w) e w) (retQ Try.f87.results.toList R) e w
def q4 (pr : Prims) (R : Ending → World → Prop) : Exit → Env → World → Prop := fun ex e w => blockQ ex 0 (q3 pr R) e w
def q5 (pr : Prims) (k : Env → World → Prop) (Q : Exit → Env → World → Prop) : Exit → Env → World → Prop := fun ex e w => normQ ex (fun e w => contE pr cfg (sub (codeOf Try.f87) [1, 1, 1, 1, 1, 0, 1, 0, 0, 1, 1]) (fun e w => wpC pr PP cfg (DD pr) (sub (codeOf Try.f87) [1, 1, 1, 1, 1, 0, 1, 0, 0, 1, 1]) (fun ex e w => normQ ex (fun e' w' => k (Env.restr e' (lookN cfg.loops (keyOf (sub (codeOf Try.f87) [1, 1, 1, 1, 1, 0, 1, 0, 0])))) w') Q e w) e w) e w) (fun ex e w => normQ ex (fun e' w' => k (Env.restr e' (lookN cfg.loops (keyOf (sub (codeOf Try.f87) [1, 1, 1, 1, 1, 0, 1, 0, 0])))) w') Q e w) e w
def q6 (pr : Prims) (k : Env → World → Prop) (Q : Exit → Env → World → Prop) : Exit → Env → World → Prop := fun ex e w => blockQ ex 1 (q5 pr k Q) e w
def q7 (pr : Prims) (k : Env → World → Prop) (Q : Exit → Env → World → Prop) : Exit → Env → World → Prop := fun ex e w => normQ ex (fun e w => contE pr cfg (sub (codeOf Try.f87) [1, 1, 1, 1, 1, 0, 1, 0, 0, 1, 0, 0, 1, 1]) (fun e w => wpC pr PP cfg (DD pr) (sub (codeOf Try.f87) [1, 1, 1, 1, 1, 0, 1, 0, 0, 1, 0, 0, 1, 1]) (q6 pr k Q) e w) e w) (q6 pr k Q) e w
def q8 (pr : Prims) (k : Env → World → Prop) (Q : Exit → Env → World → Prop) : Exit → Env → World → Prop := fun ex e w => blockQ ex 2 (q7 pr k Q) e w
def j6 (p_0 : Sl) (q_1 : Sl) (chosen_2 : Sl) (from_7 : Int) : Env := [(0, Sl.v p_0), (1, Sl.v q_1), (2, Sl.v chosen_2), (7, vI from_7)]
def emb8 (p_0 : Sl) (q_1 : Sl) (chosen_2 : Sl) (k_8 : Int) (i_9 : Int) : Env := [(0, Sl.v p_0), (1, Sl.v q_1), (2, Sl.v chosen_2), (8, vI k_8), (9, vI i_9)]
def emb12 (p_0 : Sl) (q_1 : Sl) (chosen_2 : Sl) (k_8 : Int) (i_9 : Int) (fits_10 : Bool) (t42 : Sl) (t43 : Int) (t44 : Int) : Env := [(0, Sl.v p_0), (1, Sl.v q_1), (2, Sl.v chosen_2), (8, vI k_8), (9, vI i_9), (10, .bool fits_10), (42, Sl.v t42), (43, vI t43), (44, vI t44)]
def x2 (p_0 : Sl) (q_1 : Sl) (chosen_2 : Sl) (k_8 : Int) (i_9 : Int) (fits_10 : Bool) : Env := [(0, Sl.v p_0), (1, Sl.v q_1), (2, Sl.v chosen_2), (8, vI k_8), (9, vI i_9), (10, .bool fits_10)]
def x0 : Env := []
def S12 (pr : Prims) (Q : Exit → Env → World → Prop) : (Env → World → Prop) → Env → World → Prop := fun k e w => wpC pr PP cfg (DD pr) (sub (codeOf Try.f87) [1, 1, 1, 1, 1, 0, 1, 0, 0, 1, 0, 0, 1, 0, 1, 0, 0]) (fun ex e w => normQ ex (fun e' w' => k (Env.restr e' (lookN cfg.loops (keyOf (sub (codeOf Try.f87) [1, 1, 1, 1, 1, 0, 1, 0, 0, 1, 0, 0, 1, 0, 1, 0, 0])))) w') Q e w) e w
def S8 (pr : Prims) (Q : Exit → Env → World → Prop) : (Env → World → Prop) → Env → World → Prop := fun k e w => wpC pr PP cfg (DD pr) (sub (codeOf Try.f87) [1, 1, 1, 1, 1, 0, 1, 0, 0]) (fun ex e w => normQ ex (fun e' w' => k (Env.restr e' (lookN cfg.loops (keyOf (sub (codeOf Try.f87) [1, 1, 1, 1, 1, 0, 1, 0, 0])))) w') Q e w) e w
def B12 (pr : Prims) (p_0 : Sl) (q_1 : Sl) (chosen_2 : Sl) (k_8 : Int) (i_9 : Int) (fits_10 : Bool) (t42 : Sl) (t43 : Int) (t44 : Int) (w : World) (k : Env → World → Prop) (Q : Exit → Env → World → Prop) : Prop :=
  S12 pr Q k (emb12 p_0 q_1 chosen_2 k_8 i_9 fits_10 t42 t43 t44) w
def L12 (pr : Prims) (p_0 : Sl) (q_1 : Sl) (chosen_2 : Sl) (k_8 : Int) (i_9 : Int) (fits_10 : Bool) (t42 : Sl) (t43 : Int) (t44 : Int) (w : World) (Q : Exit → Env → World → Prop) : Prop :=
  pr.loop (S12 pr Q) (emb12 p_0 q_1 chosen_2 k_8 i_9 fits_10 t42 t43 t44) w
def B8 (pr : Prims) (p_0 : Sl) (q_1 : Sl) (chosen_2 : Sl) (k_8 : Int) (i_9 : Int) (w : World) (k : Env → World → Prop) (Q : Exit → Env → World → Prop) : Prop :=
  S8 pr Q k (emb8 p_0 q_1 chosen_2 k_8 i_9) w
def L8 (pr : Prims) (p_0 : Sl) (q_1 : Sl) (chosen_2 : Sl) (k_8 : Int) (i_9 : Int) (w : World) (Q : Exit → Env → World → Prop) : Prop :=
  pr.loop (S8 pr Q) (emb8 p_0 q_1 chosen_2 k_8 i_9) w
def J6 (pr : Prims) (p_0 : Sl) (q_1 : Sl) (chosen_2 : Sl) (from_7 : Int) (w : World) (R : Ending → World → Prop) : Prop :=
  pr.seg (fun e w => wpC pr PP cfg (DD pr) (sub (codeOf Try.f87) [1, 1, 1, 1]) (retQ Try.f87.results.toList R) e w) (j6 p_0 q_1 chosen_2 from_7) w
def E (pr : Prims) (p_0 : Sl) (q_1 : Sl) (chosen_2 : Sl) (w : World) (R : Ending → World → Prop) : Prop :=
  wpC pr PP cfg (DD pr) (codeOf Try.f87) (retQ Try.f87.results.toList R) (argE 0 [Sl.v p_0, Sl.v q_1, Sl.v chosen_2]) w
theorem B12_eq (pr : Prims) (p_0 : Sl) (q_1 : Sl) (chosen_2 : Sl) (k_8 : Int) (i_9 : Int) (fits_10 : Bool) (t42 : Sl) (t43 : Int) (t44 : Int) (w : World) (k : Env → World → Prop) (Q : Exit → Env → World → Prop) : B12 pr p_0 q_1 chosen_2 k_8 i_9 fits_10 t42 t43 t44 w k Q = (
  bif decide (t44 < t43) then (
  pr.idxK 1 t42 t44 fun (a9 : Addr) =>
  pr.load1 (.int .i64) a9 w fun (ξ10 : Int) =>
  bif fits_10 then (
  pr.idxK 1 p_0 ξ10 fun (a11 : Addr) =>
  pr.load1 (.int .i64) a11 w fun (ξ12 : Int) =>
  pr.idxK 1 p_0 i_9 fun (a13 : Addr) =>
  pr.load1 (.int .i64) a13 w fun (ξ14 : Int) =>
  pr.idxK 1 q_1 t44 fun (a15 : Addr) =>
  pr.load1 (.int .i64) a15 w fun (ξ16 : Int) =>
  pr.idxK 1 q_1 k_8 fun (a17 : Addr) =>
  pr.load1 (.int .i64) a17 w fun (ξ18 : Int) =>
  pr.drewAll w fun ω19 =>
  k (emb12 p_0 q_1 chosen_2 k_8 i_9 ((decide (ξ12 < ξ14)) == (decide (ξ16 < ξ18))) t42 t43 (w64 (t44 + 1))) ω19)
  else (
  pr.drewAll w fun ω20 =>
  k (emb12 p_0 q_1 chosen_2 k_8 i_9 false t42 t43 (w64 (t44 + 1))) ω20))
  else (
  Q (.exit 2) (x2 p_0 q_1 chosen_2 k_8 i_9 fits_10) w)) := by kernel_rfl
theorem B12_s (p_0 : Sl) (q_1 : Sl) (chosen_2 : Sl) (k_8 : Int) (i_9 : Int) (fits_10 : Bool) (t42 : Sl) (t43 : Int) (t44 : Int) (w : World) (k : Env → World → Prop) (Q : Exit → Env → World → Prop) : B12 std p_0 q_1 chosen_2 k_8 i_9 fits_10 t42 t43 t44 w k Q = (
  bif decide (t44 < t43) then (
  idxK 1 t42 t44 fun (a9 : Addr) =>
  load1 (.int .i64) a9 w fun (ξ10 : Int) =>
  bif fits_10 then (
  idxK 1 p_0 ξ10 fun (a11 : Addr) =>
  load1 (.int .i64) a11 w fun (ξ12 : Int) =>
  idxK 1 p_0 i_9 fun (a13 : Addr) =>
  load1 (.int .i64) a13 w fun (ξ14 : Int) =>
  idxK 1 q_1 t44 fun (a15 : Addr) =>
  load1 (.int .i64) a15 w fun (ξ16 : Int) =>
  idxK 1 q_1 k_8 fun (a17 : Addr) =>
  load1 (.int .i64) a17 w fun (ξ18 : Int) =>
  drewAll w fun ω19 =>
  k (emb12 p_0 q_1 chosen_2 k_8 i_9 ((decide (ξ12 < ξ14)) == (decide (ξ16 < ξ18))) t42 t43 (w64 (t44 + 1))) ω19)
  else (
  drewAll w fun ω20 =>
  k (emb12 p_0 q_1 chosen_2 k_8 i_9 false t42 t43 (w64 (t44 + 1))) ω20))
  else (
  Q (.exit 2) (x2 p_0 q_1 chosen_2 k_8 i_9 fits_10) w)) := B12_eq std p_0 q_1 chosen_2 k_8 i_9 fits_10 t42 t43 t44 w k Q
theorem L12_rule (p_0 : Sl) (q_1 : Sl) (chosen_2 : Sl) (k_8 : Int) (i_9 : Int) (fits_10 : Bool) (t42 : Sl) (t43 : Int) (t44 : Int) (w : World) (Q : Exit → Env → World → Prop) (I : Bool → Int → World → Prop) (μ : Bool → Int → World → Nat) (h0 : I fits_10 t44 w)
    (h : ∀ (fits_10 : Bool) (t44 : Int) (w' : World), I fits_10 t44 w' → B12 std p_0 q_1 chosen_2 k_8 i_9 fits_10 t42 t43 t44 w' (fun e2 w2 => ∃ fits_10_n t44_n, e2 = emb12 p_0 q_1 chosen_2 k_8 i_9 fits_10_n t42 t43 t44_n ∧ I fits_10_n t44_n w2 ∧ μ fits_10_n t44_n w2 < μ fits_10 t44 w') Q) :
    L12 std p_0 q_1 chosen_2 k_8 i_9 fits_10 t42 t43 t44 w Q := by
  unfold L12
  refine LoopE.intro (σ := Bool × Int) (step := S12 std Q) (fun s => emb12 p_0 q_1 chosen_2 k_8 i_9 s.1 t42 t43 s.2) (fun s w => I s.1 s.2 w) (fun s w => μ s.1 s.2 w) (fits_10, t44) rfl h0 ?_
  intro s w' hI
  have h1 := h s.1 s.2 w' hI
  unfold B12 at h1
  simp only [Prod.exists]
  exact h1
theorem A12_2_eq (pr : Prims) (p_0 : Sl) (q_1 : Sl) (chosen_2 : Sl) (k_8 : Int) (i_9 : Int) (fits_10 : Bool) (w : World) (k : Env → World → Prop) (Q : Exit → Env → World → Prop) : (q8 pr k Q) (.exit 2) (x2 p_0 q_1 chosen_2 k_8 i_9 fits_10) w = (
  bif fits_10 then (
  pr.call1 .sl PP F.slices_Clone___int_int_ #[Sl.v chosen_2] w fun (ρ21 : Sl) ω22 =>
  pr.sem1 .sl PP (Instr.buildSlice T_Sint 1 #[(0, vI i_9)]) ω22 fun (ρ23 : Sl) ω24 =>
  pr.sem1 .sl PP (Builtin.append_ #[T_Sint, T_Sint] T_Sint #[Sl.v ρ21, Sl.v ρ23]) ω24 fun (ρ25 : Sl) ω26 =>
  pr.call1 .bool PP F.impl_has #[Sl.v p_0, Sl.v q_1, Sl.v ρ25] ω26 fun (ρ27 : Bool) ω28 =>
  bif ρ27 then (
  Q .ret [(6, .bool true)] ω28)
  else (
  k (emb8 p_0 q_1 chosen_2 k_8 (w64 (i_9 + 1))) ω28))
  else (
  k (emb8 p_0 q_1 chosen_2 k_8 (w64 (i_9 + 1))) w)) := by kernel_rfl
theorem A12_2_s (p_0 : Sl) (q_1 : Sl) (chosen_2 : Sl) (k_8 : Int) (i_9 : Int) (fits_10 : Bool) (w : World) (k : Env → World → Prop) (Q : Exit → Env → World → Prop) : (q8 std k Q) (.exit 2) (x2 p_0 q_1 chosen_2 k_8 i_9 fits_10) w = (
  bif fits_10 then (
  call1 .sl PP F.slices_Clone___int_int_ #[Sl.v chosen_2] w fun (ρ21 : Sl) ω22 =>
  sem1 .sl PP (Instr.buildSlice T_Sint 1 #[(0, vI i_9)]) ω22 fun (ρ23 : Sl) ω24 =>
  sem1 .sl PP (Builtin.append_ #[T_Sint, T_Sint] T_Sint #[Sl.v ρ21, Sl.v ρ23]) ω24 fun (ρ25 : Sl) ω26 =>
  call1 .bool PP F.impl_has #[Sl.v p_0, Sl.v q_1, Sl.v ρ25] ω26 fun (ρ27 : Bool) ω28 =>
  bif ρ27 then (
  Q .ret [(6, .bool true)] ω28)
  else (
  k (emb8 p_0 q_1 chosen_2 k_8 (w64 (i_9 + 1))) ω28))
  else (
  k (emb8 p_0 q_1 chosen_2 k_8 (w64 (i_9 + 1))) w)) := A12_2_eq std p_0 q_1 chosen_2 k_8 i_9 fits_10 w k Q
theorem B8_eq (pr : Prims) (p_0 : Sl) (q_1 : Sl) (chosen_2 : Sl) (k_8 : Int) (i_9 : Int) (w : World) (k : Env → World → Prop) (Q : Exit → Env → World → Prop) : B8 pr p_0 q_1 chosen_2 k_8 i_9 w k Q = (
  bif decide (i_9 ≤ (w64 ((p_0.n : Int) - (w64 ((q_1.n : Int) - k_8))))) then (
  L12 pr p_0 q_1 chosen_2 k_8 i_9 true chosen_2 (chosen_2.n : Int) 0 w (q8 pr k Q))
  else (
  Q (.exit 0) (x0) w)) := by kernel_rfl
theorem B8_s (p_0 : Sl) (q_1 : Sl) (chosen_2 : Sl) (k_8 : Int) (i_9 : Int) (w : World) (k : Env → World → Prop) (Q : Exit → Env → World → Prop) : B8 std p_0 q_1 chosen_2 k_8 i_9 w k Q = (
  bif decide (i_9 ≤ (w64 ((p_0.n : Int) - (w64 ((q_1.n : Int) - k_8))))) then (
  L12 std p_0 q_1 chosen_2 k_8 i_9 true chosen_2 (chosen_2.n : Int) 0 w (q8 std k Q))
  else (
  Q (.exit 0) (x0) w)) := B8_eq std p_0 q_1 chosen_2 k_8 i_9 w k Q
theorem L8_rule (p_0 : Sl) (q_1 : Sl) (chosen_2 : Sl) (k_8 : Int) (i_9 : Int) (w : World) (Q : Exit → Env → World → Prop) (I : Int → World → Prop) (μ : Int → World → Nat) (h0 : I i_9 w)
    (h : ∀ (i_9 : Int) (w' : World), I i_9 w' → B8 std p_0 q_1 chosen_2 k_8 i_9 w' (fun e2 w2 => ∃ i_9_n, e2 = emb8 p_0 q_1 chosen_2 k_8 i_9_n ∧ I i_9_n w2 ∧ μ i_9_n w2 < μ i_9 w') Q) :
    L8 std p_0 q_1 chosen_2 k_8 i_9 w Q := by
  unfold L8
  refine LoopE.intro (σ := Int) (step := S8 std Q) (fun s => emb8 p_0 q_1 chosen_2 k_8 s) (fun s w => I s w) (fun s w => μ s w) i_9 rfl h0 ?_
  intro s w' hI
  have h1 := h s w' hI
  unfold B8 at h1
  exact h1
theorem A8_0_eq (pr : Prims) (w : World) (R : Ending → World → Prop) : (q4 pr R) (.exit 0) (x0) w = (
  R (.returned (.bool false)) w) := by kernel_rfl
theorem A8_0_s (w : World) (R : Ending → World → Prop) : (q4 std R) (.exit 0) (x0) w = (
  R (.returned (.bool false)) w) := A8_0_eq std w R
theorem R8_eq (pr : Prims) (v6 : Value) (w : World) (R : Ending → World → Prop) : (q4 pr R) .ret [(6, v6)] w = (
  R (.returned (v6)) w) := by kernel_rfl
theorem R8_s (v6 : Value) (w : World) (R : Ending → World → Prop) : (q4 std R) .ret [(6, v6)] w = (
  R (.returned (v6)) w) := R8_eq std v6 w R
theorem J6_gen (pr : Prims) (p_0 : Sl) (q_1 : Sl) (chosen_2 : Sl) (from_7 : Int) (w : World) (R : Ending → World → Prop) : wpC pr PP cfg (DD pr) (sub (codeOf Try.f87) [1, 1, 1, 1]) (retQ Try.f87.results.toList R) (j6 p_0 q_1 chosen_2 from_7) w = (
  L8 pr p_0 q_1 chosen_2 (chosen_2.n : Int) from_7 w (q4 pr R)) := by kernel_rfl
theorem J6_s (p_0 : Sl) (q_1 : Sl) (chosen_2 : Sl) (from_7 : Int) (w : World) (R : Ending → World → Prop) : J6 std p_0 q_1 chosen_2 from_7 w R = (
  L8 std p_0 q_1 chosen_2 (chosen_2.n : Int) from_7 w (q4 std R)) := J6_gen std p_0 q_1 chosen_2 from_7 w R
theorem E_eq (pr : Prims) (p_0 : Sl) (q_1 : Sl) (chosen_2 : Sl) (w : World) (R : Ending → World → Prop) : E pr p_0 q_1 chosen_2 w R = (
  bif (chosen_2.n : Int) == (q_1.n : Int) then (
  R (.returned (.bool true)) w)
  else (
  bif decide ((chosen_2.n : Int) > 0) then (
  pr.idxK 1 chosen_2 (w64 ((chosen_2.n : Int) - 1)) fun (a1 : Addr) =>
  pr.load1 (.int .i64) a1 w fun (ξ2 : Int) =>
  J6 pr p_0 q_1 chosen_2 (w64 (ξ2 + 1)) w R)
  else (
  J6 pr p_0 q_1 chosen_2 0 w R))) := by kernel_rfl
theorem E_s (p_0 : Sl) (q_1 : Sl) (chosen_2 : Sl) (w : World) (R : Ending → World → Prop) : E std p_0 q_1 chosen_2 w R = (
  bif (chosen_2.n : Int) == (q_1.n : Int) then (
  R (.returned (.bool true)) w)
  else (
  bif decide ((chosen_2.n : Int) > 0) then (
  idxK 1 chosen_2 (w64 ((chosen_2.n : Int) - 1)) fun (a1 : Addr) =>
  load1 (.int .i64) a1 w fun (ξ2 : Int) =>
  J6 std p_0 q_1 chosen_2 (w64 (ξ2 + 1)) w R)
  else (
  J6 std p_0 q_1 chosen_2 0 w R))) := E_eq std p_0 q_1 chosen_2 w R
theorem drawsOk : drawsOk PP cfg okD (codeOf Try.f87) = true := by kernel_rfl
theorem calls (p_0 : Sl) (q_1 : Sl) (chosen_2 : Sl) {w : World} {R : Ending → World → Prop} (h : E std p_0 q_1 chosen_2 w R) : Calls PP F.impl_has #[Sl.v p_0, Sl.v q_1, Sl.v chosen_2] w R :=
  calls_of noCount mixed drawOk Try.func87 rfl (c := cfg) (args := [Sl.v p_0, Sl.v q_1, Sl.v chosen_2]) rfl (Nat.le_of_ble_eq_true (by kernel_rfl)) drawsOk h
end impl_has

end Go.Proofs.Ytdchjhhpbdekeaa

/- What each function does, step by step, written by a program (Gen.lean); each equation is checked by the kernel. -/
namespace Go.Proofs.Ytdchjhhpbdekeaa
open Go
set_option linter.unusedVariables false
set_option maxRecDepth 100000
namespace slices_Clone___int_int_
@[reducible] def cfg : Cfg := ⟨8, [], [], [], [2], [], [101, 107, 112, 15, 21, 124, 76, 137, 28, 115, 91, 81, 130], [138, 140, 82, 6, 86, 85, 132]⟩
def E (pr : Prims) (s_0 : Sl) (w : World) (R : Ending → World → Prop) : Prop :=
  wpC pr PP cfg (DD pr) (codeOf Try.f125) (retQ Try.f125.results.toList R) (argE 0 [Sl.v s_0]) w
theorem E_eq (pr : Prims) (s_0 : Sl) (w : World) (R : Ending → World → Prop) : E pr s_0 w R = (
  bif s_0.a.isNone then (
  R (.returned (Sl.v Sl.nil)) w)
  else (
  pr.sem1 .sl PP (Instr.buildSlice T_Sint 0 #[]) w fun (ρ0 : Sl) ω1 =>
  pr.sem1 .sl PP (Builtin.append_ #[T_Sint, T_Sint] T_Sint #[Sl.v ρ0, Sl.v s_0]) ω1 fun (ρ2 : Sl) ω3 =>
  R (.returned (Sl.v ρ2)) ω3)) := by kernel_rfl
theorem E_s (s_0 : Sl) (w : World) (R : Ending → World → Prop) : E std s_0 w R = (
  bif s_0.a.isNone then (
  R (.returned (Sl.v Sl.nil)) w)
  else (
  sem1 .sl PP (Instr.buildSlice T_Sint 0 #[]) w fun (ρ0 : Sl) ω1 =>
  sem1 .sl PP (Builtin.append_ #[T_Sint, T_Sint] T_Sint #[Sl.v ρ0, Sl.v s_0]) ω1 fun (ρ2 : Sl) ω3 =>
  R (.returned (Sl.v ρ2)) ω3)) := E_eq std s_0 w R
theorem drawsOk : drawsOk PP cfg okD (codeOf Try.f125) = true := by kernel_rfl
theorem calls (s_0 : Sl) {w : World} {R : Ending → World → Prop} (h : E std s_0 w R) : Calls PP F.slices_Clone___int_int_ #[Sl.v s_0] w R :=
  calls_of noCount mixed drawOk Try.func125 rfl (c := cfg) (args := [Sl.v s_0]) rfl (Nat.le_of_ble_eq_true (by kernel_rfl)) drawsOk h
end slices_Clone___int_int_

end Go.Proofs.Ytdchjhhpbdekeaa

/- The library's Clone of a row of ints. -/
namespace Go.Proofs.Ytdchjhhpbdekeaa
open Go Go.RowKit
set_option maxRecDepth 100000

theorem c_Clone {w : World} {a : Sl} {L : List Int} (ha : RowI w a L) (hL : L.length < 2^38) :
    Calls PP F.slices_Clone___int_int_ #[a.v] w fun e w' => ∃ s : Sl, e = .returned s.v ∧ OwnI w' w.heap.size s L ∧ Below w.heap.size w w' := by
  refine slices_Clone___int_int_.calls a ?_
  rw [slices_Clone___int_int_.E_s]
  refine bif_intro (fun h => ?_) (fun h => ?_)
  · have : L = [] := by
      cases L with
      | nil => rfl
      | cons x r => obtain ⟨b, hb, _⟩ := ha.cell 0 (vI x) rfl; rw [hb] at h; cases h
    subst this
    exact ⟨Sl.nil, rfl, Own.nil _ _ _, Below.refl _ _⟩
  · refine lit0 oneInt (B := w.heap.size) (Nat.le_refl _) ?_
    intro t w1 ht hg _
    have hb := below_of_grow hg
    refine append_row oneInt ht hb.size (ha.grow hb) (fun v hv => by obtain ⟨x, _, rfl⟩ := List.mem_map.1 hv; exact One.int x) (by simp; omega) ?_
    intro s w2 hs hg2 _ _
    exact ⟨s, rfl, by simpa using hs, hb.grown hg2 hb.size (fun g hg => (ht.lt g hg).1)⟩
end Go.Proofs.Ytdchjhhpbdekeaa

/- Occurrences of a pattern: the model's search and the program's. -/
namespace Go.Proofs.Ytdchjhhpbdekeaa
open Go Go.RowKit
set_option maxRecDepth 100000

theorem getD_snoc_lt {h : List Int} {x : Int} {k : Nat} (hk : k < h.length) : (h ++ [x]).getD k 0 = h.getD k 0 := by
  simp [List.getD_eq_getElem?_getD, List.getElem?_append_left hk]
theorem getD_snoc_eq (h : List Int) (x : Int) : (h ++ [x]).getD h.length 0 = x := by simp [List.getD_eq_getElem?_getD]
theorem Places.at_ {P h : List Int} (hh : Places P h) {k : Nat} (hk : k < h.length) : 1 ≤ h.getD k 0 ∧ h.getD k 0 ≤ P.length := by
  rw [getD_lt hk]; exact hh _ (List.getElem_mem hk)

theorem c_l7Fits {w : World} {p q pl : Sl} {P Q h : List Int} {x : Int} (hp : RowI w p P) (hq : RowI w q Q) (hpl : RowI w pl (h ++ [x])) (hP : P.length < 2^38) (hQ : h.length < Q.length) (hQ2 : Q.length < 2^38) (hh : Places P (h ++ [x])) :
    Quiet F.spec_l7Fits #[p.v, q.v, pl.v] w (.bool (fitsB P Q h x)) := by
  intro w1 hd
  have hpn : pl.n = h.length + 1 := by have := hpl.n; simpa using this
  have hx := hh x (by simp)
  refine spec_l7Fits.calls p q pl ?_
  rw [spec_l7Fits.E_s, hpn, w64_id (by omega) (by omega)]
  rw [show ((h.length + 1 : Nat) : Int) - 1 = (h.length : Int) by omega]
  refine spec_l7Fits.L3_rule _ _ _ _ _ _ _ (I := fun k w' => 0 ≤ k ∧ k ≤ h.length ∧ (∀ j, j < k.toNat → fitsAt P Q h x j = true) ∧ Drew w1 w') (μ := fun k _ => (h.length - k).toNat)
    ⟨by omega, by omega, fun j hj => by simp at hj, Drew.refl _⟩ ?_
  rintro k w' ⟨h0, hk, hall, hd2⟩
  have hhp : w'.heap = w.heap := (hd.trans hd2).heap'
  rw [spec_l7Fits.B3_s]
  refine bif_dec (fun h3 => ?_) (fun h3 => ?_)
  · have hlt : k.toNat < h.length := by omega
    have hat := Places.at_ (P := P) (h := h) (fun y hy => hh y (by simp [hy])) hlt
    refine RowI.get (hq.heap hhp) h0 (by omega) ?_
    refine RowI.get (hq.heap hhp) (by omega) (by omega) ?_
    refine RowI.get (hpl.heap hhp) h0 (by simp; omega) ?_
    rw [getD_snoc_lt hlt, w64_id (n := h.getD k.toNat 0 - 1) (by omega) (by omega)]
    refine RowI.get (hp.heap hhp) (by omega) (by omega) ?_
    refine RowI.get (hpl.heap hhp) (by omega) (by simp; omega) ?_
    rw [Int.toNat_natCast, getD_snoc_eq, w64_id (n := x - 1) (by omega) (by omega)]
    refine RowI.get (hp.heap hhp) (by omega) (by omega) ?_
    refine drew_intro fun w3 hd3 => ?_
    have e1 : fitsAt P Q h x k.toNat = (decide (Q.getD k.toNat 0 < Q.getD h.length 0) == decide (P.getD (h.getD k.toNat 0 - 1).toNat 0 < P.getD (x - 1).toNat 0)) := by
      rw [fitsAt, Bool.beq_comm]
    rw [← e1]
    refine bif_intro (fun h4 => ?_) (fun h4 => ?_)
    · rw [spec_l7Fits.R3_s]
      have : fitsB P Q h x = false := by
        cases hb : fitsB P Q h x
        · rfl
        · have := fitsB_iff.1 hb k.toNat hlt
          rw [this] at h4; simp at h4
      exact ⟨by rw [this], hd2.trans hd3⟩
    · refine ⟨k + 1, by rw [w64_succ h0 (by omega)], ⟨by omega, by omega, fun j hj => ?_, hd2.trans hd3⟩, by omega⟩
      by_cases e : j = k.toNat
      · rw [e]; simpa using h4
      · exact hall j (by omega)
  · rw [spec_l7Fits.A3_0_s]
    have : fitsB P Q h x = true := fitsB_iff.2 fun j hj => hall j (by omega)
    exact ⟨by rw [this], hd2⟩

theorem c_l7Find {w0 : World} {p q : Sl} {P Q : List Int} (hp : RowI w0 p P) (hq : RowI w0 q Q) (hP : P.length ≤ 8) (hQ : Q.length ≤ 8) : ∀ (m : Nat) (w : World) (hd out : Sl) (rs : List Sl) (h : List Int) (LL : List (List Int)),
    Below w0.heap.size w0 w → OwnRows w w0.heap.size out rs LL → OwnI w w0.heap.size hd h → (∀ t ∈ rs, Apt t hd) → h.length + m = Q.length → Places P h → LL.length + 8 ^ m ≤ 2^30 →
    Calls PP F.spec_l7Find #[p.v, q.v, hd.v, out.v] w fun e w' => ∃ s : Sl, e = .returned s.v ∧ OwnSS w' w0.heap.size s (LL ++ occN P Q m h) ∧ w.grownBy w' out.blk ∧ Next w out s
  | 0, w, hd, out, rs, h, LL, hb, ho, hh, hap, hl, hpl, hc => by
    have hdn : hd.n = h.length := by have := hh.n; simpa using this
    have hqn : q.n = Q.length := by have := hq.n; simpa using this
    refine spec_l7Find.calls p q hd out ?_
    rw [spec_l7Find.E_s]
    refine bif_t (by simp; omega) ?_
    refine append_sl ho hb.size hh hap (by omega) ?_
    intro s' w' h1 h2 h3
    exact ⟨s', rfl, ⟨_, h1⟩, h2, h3⟩
  | m + 1, w, hd, out, rs, h, LL, hb, ho, hh, hap, hl, hpl, hc => by
    have hdn : hd.n = h.length := by have := hh.n; simpa using this
    have hqn : q.n = Q.length := by have := hq.n; simpa using this
    have hpn : p.n = P.length := by have := hp.n; simpa using this
    have h0 := hpl.last
    have main : spec_l7Find.J6 std p q hd out (lastD h + 1) w (fun e w' => ∃ s : Sl, e = .returned s.v ∧ OwnSS w' w0.heap.size s (LL ++ occN P Q (m + 1) h) ∧ w.grownBy w' out.blk ∧ Next w out s) := by
      rw [spec_l7Find.J6_s]
      refine spec_l7Find.L7_rule _ _ _ _ _ _ _ (I := fun s x w' => lastD h + 1 ≤ x ∧ x ≤ P.length + 1 ∧ OwnSS w' w0.heap.size s (LL ++ (seqI (lastD h + 1) (x - (lastD h + 1)).toNat).flatMap fun x => if fitsB P Q h x then occN P Q m (h ++ [x]) else []) ∧ w.grownBy w' out.blk ∧ Next w out s) (μ := fun _ x _ => (P.length + 1 - x).toNat)
        ⟨by omega, by omega, by simpa [seqI] using ⟨rs, ho⟩, grownBy_refl _ _, fun g hg => .inl hg⟩ ?_
      rintro s x w' ⟨hx0, hx, hs, hg, hn⟩
      have hbw : Below w0.heap.size w0 w' := hb.grown hg hb.size (fun g hg => (ho.out.lt g hg).1)
      have hh' : OwnI w' w0.heap.size hd h := hh.kept hg (fun g hg' e => (ho.out.apt hh (by decide)) g e hg')
      rw [spec_l7Find.B7_s]
      refine bif_dec (fun h3 => ?_) (fun h3 => ?_)
      · rw [hpn] at h3
        obtain ⟨rs', hs⟩ := hs
        refine lit0 oneInt (B := w'.heap.size) (Nat.le_refl _) ?_
        intro t1 w1 ht1 hg1 _
        have hb1 := below_of_grow hg1
        refine append_row oneInt ht1 hb1.size (hh'.row.grow hb1) (fun v hv => by obtain ⟨y, _, rfl⟩ := List.mem_map.1 hv; exact One.int y) (by simp; omega) ?_
        intro t2 w2 ht2 hg2 _ _
        have ht2 : OwnI w2 w'.heap.size t2 h := by simpa [OwnI] using ht2
        have hb2 := hb1.grown hg2 hb1.size (fun g hg => (ht1.lt g hg).1)
        refine append_int ht2 hb2.size (by omega) ?_
        intro t3 w3 ht3 hg3 _
        have hb3 := hb2.grown hg3 hb2.size (fun g hg => (ht2.lt g hg).1)
        have hb03 : Below w0.heap.size w0 w3 := hbw.trans (hb3.mono hbw.size)
        have hpl2 : Places P (h ++ [x]) := hpl.snoc (by omega) h3
        refine Quiet.call1 (s := .bool) (c_l7Fits (hp.grow hb03) (hq.grow hb03) ht3.row (by omega) (by omega) (by omega) hpl2) ?_
        intro w4 hd4
        have hb4 : Below w'.heap.size w' w4 := hb3.trans (hd4.below _)
        have esq : ∀ f : Int → List (List Int), (seqI (lastD h + 1) (x + 1 - (lastD h + 1)).toNat).flatMap f = (seqI (lastD h + 1) (x - (lastD h + 1)).toNat).flatMap f ++ f x := fun f => by
          rw [show (x + 1 - (lastD h + 1)).toNat = (x - (lastD h + 1)).toNat + 1 by omega, seqI_succ, List.flatMap_append]
          simp only [List.flatMap_cons, List.flatMap_nil, List.append_nil]
          congr 2; omega
        have hcnt : ((seqI (lastD h + 1) (x - (lastD h + 1)).toNat).flatMap fun x => if fitsB P Q h x then occN P Q m (h ++ [x]) else []).length ≤ 7 * 8 ^ m := by
          refine Nat.le_trans (length_flatMap_le _ _ (8 ^ m) (fun y hy => ?_)) ?_
          · rw [mem_seqI] at hy
            split
            · exact Nat.le_trans (occN_length m (h ++ [y]) (hpl.snoc (by omega) (by omega))) (Nat.pow_le_pow_left hP m)
            · simp
          · rw [seqI_length]; exact Nat.mul_le_mul_right _ (by omega)
        have hpow : 8 ^ (m + 1) = 8 * 8 ^ m := by rw [Nat.pow_succ]; omega
        refine bif_intro (fun h5 => ?_) (fun h5 => ?_)
        · have hs4 := hs.grow hb4
          refine (c_l7Find hp hq hP hQ m w4 t3 s rs' (h ++ [x]) _ (hb03.trans (hd4.below _)) hs4 ((ht3.heap hd4.heap').mono hbw.size) (fun t ht => Apt.of_lt (fun g hg => (hs.lt ht hg).2) (fun g hg => (ht3.lt g hg).1)) (by simp; omega) hpl2 (by rw [List.length_append]; omega)).mono ?_
          rintro e w5 ⟨s5, rfl, hs5, hg5, hn5⟩
          refine ⟨s5, rfl, s5, x + 1, by rw [w64_id (by omega) (by omega)], ⟨by omega, by omega, ?_, ?_, ?_⟩, by omega⟩
          · rw [esq, if_pos h5, ← List.append_assoc]; exact hs5
          · refine ⟨hg5.os.trans (hb4.os.trans hg.os), hg5.tape.trans (hb4.tape.trans hg.tape), hg5.output.trans (hb4.output.trans hg.output), Nat.le_trans hg.size (Nat.le_trans hb4.size hg5.size), fun k hk hne => ?_⟩
            have hk' : k < w'.heap.size := Nat.lt_of_lt_of_le hk hg.size
            rw [hg5.block k (Nat.lt_of_lt_of_le hk' hb4.size) (fun e => by
              rcases hn k e.symm with h6 | h6
              · exact hne h6.symm
              · omega), hb4.block k hk', hg.block k hk hne]
          · intro g hg'
            rcases hn5 g hg' with h6 | h6
            · exact hn g h6
            · have := hg.size; have := hb4.size; exact .inr (by omega)
        · refine ⟨s, x + 1, by rw [w64_id (by omega) (by omega)], ⟨by omega, by omega, ?_, ?_, hn⟩, by omega⟩
          · rw [esq, if_neg (by simp [h5]), List.append_nil]; exact ⟨rs', hs.grow hb4⟩
          · refine ⟨hb4.os.trans hg.os, hb4.tape.trans hg.tape, hb4.output.trans hg.output, Nat.le_trans hg.size hb4.size, fun k hk hne => ?_⟩
            rw [hb4.block k (Nat.lt_of_lt_of_le hk hg.size), hg.block k hk hne]
      · rw [spec_l7Find.A7_0_s]
        rw [hpn] at h3
        have e : x = P.length + 1 := by omega
        subst e
        refine ⟨s, rfl, ?_, hg, hn⟩
        rw [occN, show ((P.length : Int) - lastD h).toNat = ((P.length : Int) + 1 - (lastD h + 1)).toNat by omega]
        exact hs
    refine spec_l7Find.calls p q hd out ?_
    rw [spec_l7Find.E_s]
    refine bif_f (by simp; omega) ?_
    refine bif_dec (fun h4 => ?_) (fun h4 => ?_)
    · rw [hdn, w64_id (by omega) (by omega)]
      refine RowI.get hh.row (by omega) (by omega) ?_
      rw [show ((h.length : Int) - 1).toNat = h.length - 1 by omega]
      show spec_l7Find.J6 std p q hd out (w64 (lastD h + 1)) w _
      rw [w64_id (by omega) (by omega)]
      exact main
    · have : h = [] := List.eq_nil_of_length_eq_zero (by omega)
      subst this
      exact main

theorem c_l7Has {w : World} {p q : Sl} {P Q : List Int} (hp : RowI w p P) (hq : RowI w q Q) (hP : P.length ≤ 8) (hQ : Q.length ≤ 8) :
    Calls PP F.spec_l7Has #[p.v, q.v] w fun e w' => e = .returned (.bool (hasP P Q)) ∧ Below w.heap.size w w' := by
  refine spec_l7Has.calls p q ?_
  rw [spec_l7Has.E_s]
  refine lit0 oneInt (B := w.heap.size) (Nat.le_refl _) ?_
  intro s w1 hs hg1 hc1
  refine lit0 oneSint (B := w.heap.size) (by have := hg1.size; omega) ?_
  intro t w2 ht hg2 hc2
  have hb1 := below_of_grow hg1
  have hb2 := hb1.grown hg2 hb1.size (by simp)
  have h8 : 8 ^ Q.length ≤ 8 ^ 8 := Nat.pow_le_pow_right (by omega) hQ
  refine (c_l7Find hp hq hP hQ Q.length w2 s t [] [] [] hb2 (OwnRows.nil ht) (hs.kept hg2 (by simp)) (fun t ht => by simp at ht) (by simp) (Places.nil P) (by simp only [List.length_nil]; omega)).mono ?_
  rintro e w3 ⟨u, rfl, hu, hg3, _⟩
  refine ⟨u, rfl, ?_, hb2.grown hg3 hb2.size (fun g hg => (ht.lt g hg).1)⟩
  have hn := hu.row.n
  rw [List.nil_append] at hn
  rw [hn]
  congr 2
  unfold hasP hasB
  cases occN P Q Q.length [] <;> simp <;> omega

theorem c_has {w0 : World} {p q : Sl} {P Q : List Int} (hp : RowI w0 p P) (hq : RowI w0 q Q) (hP : P.length < 2^37) (hQ : Q.length < 2^37) : ∀ (m : Nat) (w : World) (ch : Sl) (h : List Int),
    Below w0.heap.size w0 w → RowI w ch (h.map (· - 1)) → h.length + m = Q.length → Places P h →
    Calls PP F.impl_has #[p.v, q.v, ch.v] w fun e w' => e = .returned (.bool (hasB P Q m h)) ∧ Below w.heap.size w w'
  | 0, w, ch, h, hb, hh, hl, hpl => by
    have hdn : ch.n = h.length := by have := hh.n; simpa using this
    have hqn : q.n = Q.length := by have := hq.n; simpa using this
    refine impl_has.calls p q ch ?_
    rw [impl_has.E_s]
    refine bif_t (by simp; omega) ?_
    exact ⟨by rw [hasB_zero], Below.refl _ _⟩
  | m + 1, w, ch, h, hb, hh, hl, hpl => by
    have hdn : ch.n = h.length := by have := hh.n; simpa using this
    have hqn : q.n = Q.length := by have := hq.n; simpa using this
    have hpn : p.n = P.length := by have := hp.n; simpa using this
    have h0 := hpl.last
    have main : impl_has.J6 std p q ch (lastD h) w (fun e w' => e = .returned (.bool (hasB P Q (m + 1) h)) ∧ Below w.heap.size w w') := by
      rw [impl_has.J6_s]
      refine impl_has.L8_rule _ _ _ _ _ _ _ (I := fun i w' => lastD h ≤ i ∧ i ≤ P.length + 1 ∧ Below w.heap.size w w' ∧ ∀ x, lastD h < x → x ≤ i → x ≤ P.length → fitsB P Q h x = true → hasB P Q m (h ++ [x]) = false) (μ := fun i _ => (P.length + 2 - i).toNat)
        ⟨by omega, by omega, Below.refl _ _, fun x h1 h2 => by omega⟩ ?_
      rintro i w' ⟨hi0, hi, hbw, hall⟩
      have hb0 : Below w0.heap.size w0 w' := hb.trans (hbw.mono hb.size)
      have hh' := hh.grow hbw
      have elen : (List.map (fun x => x - 1) h).length = h.length := by simp
      rw [impl_has.B8_s, hpn, hqn, hdn]
      rw [w64_id (n := (Q.length : Int) - h.length) (by omega) (by omega), w64_id (n := (P.length : Int) - ((Q.length : Int) - h.length)) (by omega) (by omega)]
      refine bif_dec (fun h3 => ?_) (fun h3 => ?_)
      · have hx1 : 1 ≤ i + 1 := by omega
        refine impl_has.L12_rule _ _ _ _ _ _ _ _ _ _ _ (I := fun f k w2 => 0 ≤ k ∧ k ≤ h.length ∧ f = (List.range k.toNat).all (fitsAt P Q h (i + 1)) ∧ Drew w' w2) (μ := fun _ k _ => (h.length - k).toNat)
          ⟨by omega, by omega, by simp, Drew.refl _⟩ ?_
        rintro f k w2 ⟨hk0, hk, hf, hd⟩
        have hhp2 := hd.heap'
        rw [impl_has.B12_s]
        refine bif_dec (fun h4 => ?_) (fun h4 => ?_)
        · have hlt : k.toNat < h.length := by omega
          have hat := hpl.at_ hlt
          refine RowI.get (hh'.heap hhp2) hk0 (by rw [elen]; omega) ?_
          have e0 : (List.map (fun x => x - 1) h).getD k.toNat 0 = h.getD k.toNat 0 - 1 := by
            rw [getD_lt (by rw [elen]; exact hlt), getD_lt hlt, List.getElem_map]
          rw [e0]
          have hs : (List.range (k + 1).toNat).all (fitsAt P Q h (i + 1)) = (f && fitsAt P Q h (i + 1) k.toNat) := by
            rw [show (k + 1).toNat = k.toNat + 1 by omega, List.range_succ, List.all_append, ← hf]; simp
          refine bif_intro (fun h5 => ?_) (fun h5 => ?_)
          · refine RowI.get ((hp.grow hb0).heap hhp2) (by omega) (by omega) ?_
            refine RowI.get ((hp.grow hb0).heap hhp2) (by omega) (by omega) ?_
            refine RowI.get ((hq.grow hb0).heap hhp2) hk0 (by omega) ?_
            refine RowI.get ((hq.grow hb0).heap hhp2) (by omega) (by omega) ?_
            refine drew_intro fun w3 hd3 => ?_
            refine ⟨_, k + 1, by rw [w64_succ hk0 (by omega)], ⟨by omega, by omega, ?_, hd.trans hd3⟩, by omega⟩
            rw [hs, h5, Bool.true_and, fitsAt, Int.toNat_natCast, show i + 1 - 1 = i by omega]
          · refine drew_intro fun w3 hd3 => ?_
            refine ⟨_, k + 1, by rw [w64_succ hk0 (by omega)], ⟨by omega, by omega, ?_, hd.trans hd3⟩, by omega⟩
            rw [hs, h5, Bool.false_and]
        · rw [impl_has.A12_2_s]
          have ek : k.toNat = h.length := by omega
          rw [ek] at hf
          have hf : f = fitsB P Q h (i + 1) := hf
          have hbw2 := hbw.trans (hd.below _)
          refine bif_intro (fun h5 => ?_) (fun h5 => ?_)
          · refine (c_Clone (hh'.heap hhp2) (by rw [elen]; omega)).mono ?_
            rintro e w3 ⟨s, rfl, hs, hb3⟩
            refine ⟨s, rfl, ?_⟩
            refine append_int hs hb3.size (by rw [elen]; omega) ?_
            intro t w4 ht hg4 _
            have hb4 : Below w2.heap.size w2 w4 := hb3.grown hg4 hb3.size (fun g hg => (hs.lt g hg).1)
            have hb04 : Below w0.heap.size w0 w4 := (hb0.trans (hd.below _)).trans (hb4.mono (by have := hb0.size; have := hhp2; rw [hhp2]; exact this |> fun _ => hb0.size))
            have hpl2 : Places P (h ++ [i + 1]) := hpl.snoc (by omega) (by omega)
            have ht' : RowI w4 t ((h ++ [i + 1]).map (· - 1)) := by
              have := ht.row
              rw [List.map_append, List.map_cons, List.map_nil, show i + 1 - 1 = i by omega]
              exact this
            refine (c_has hp hq hP hQ m w4 t (h ++ [i + 1]) hb04 ht' (by simp; omega) hpl2).mono ?_
            rintro e w5 ⟨rfl, hb5⟩
            refine ⟨_, rfl, ?_⟩
            have hb15 : Below w.heap.size w w5 := (hbw2.trans (hb4.mono hbw2.size)).trans (hb5.mono (Nat.le_trans hbw2.size hb4.size))
            refine bif_intro (fun h6 => ?_) (fun h6 => ?_)
            · rw [impl_has.R8_s]
              have : hasB P Q (m + 1) h = true := hasB_succ.2 ⟨i + 1, by omega, by omega, by rw [← hf]; exact h5, h6⟩
              exact ⟨by rw [this], hb15⟩
            · refine ⟨i + 1, by rw [w64_succ (by omega) (by omega)], ⟨by omega, by omega, hb15, fun x h7 h8 h9 h10 => ?_⟩, by omega⟩
              by_cases e : x = i + 1
              · rw [e]; exact h6
              · exact hall x h7 (by omega) h9 h10
          · refine ⟨i + 1, by rw [w64_succ (by omega) (by omega)], ⟨by omega, by omega, hbw2, fun x h7 h8 h9 h10 => ?_⟩, by omega⟩
            by_cases e : x = i + 1
            · rw [e, ← hf, h5] at h10; cases h10
            · exact hall x h7 (by omega) h9 h10
      · rw [impl_has.A8_0_s]
        have : hasB P Q (m + 1) h = false := by
          cases hb2 : hasB P Q (m + 1) h
          · rfl
          · obtain ⟨x, h7, h8, h9, h10⟩ := hasB_succ.1 hb2
            have h11 := hasB_room m (h ++ [x]) (hpl.snoc (by omega) h8) h10
            rw [lastD_snoc] at h11
            rw [hall x h7 (by omega) h8 h9] at h10
            cases h10
        exact ⟨by rw [this], hbw⟩
    refine impl_has.calls p q ch ?_
    rw [impl_has.E_s]
    refine bif_f (by simp; omega) ?_
    refine bif_dec (fun h4 => ?_) (fun h4 => ?_)
    · rw [hdn, w64_id (by omega) (by omega)]
      refine RowI.get hh (by omega) (by simp; omega) ?_
      have e0 : (List.map (fun x => x - 1) h).getD ((h.length : Int) - 1).toNat 0 = lastD h - 1 := by
        rw [getD_lt (by simp; omega), List.getElem_map, lastD, getD_lt (by omega)]
        congr 2; omega
      rw [e0, show lastD h - 1 + 1 = lastD h by omega, w64_id (by omega) (by omega)]
      exact main
    · have : h = [] := List.eq_nil_of_length_eq_zero (by omega)
      subst this
      exact main
theorem c_has_nil {w : World} {p q : Sl} {P Q : List Int} (hp : RowI w p P) (hq : RowI w q Q) (hP : P.length < 2^37) (hQ : Q.length < 2^37) :
    Calls PP F.impl_has #[p.v, q.v, Sl.nil.v] w fun e w' => e = .returned (.bool (hasP P Q)) ∧ Below w.heap.size w w' :=
  c_has hp hq hP hQ Q.length w Sl.nil [] (Below.refl _ _) ⟨rfl, Nat.le_refl _, fun i v hv => by simp at hv⟩ (by simp) (Places.nil P)
end Go.Proofs.Ytdchjhhpbdekeaa

/- What each function does, step by step, written by a program (Gen.lean); each equation is checked by the kernel. -/
namespace Go.Proofs.Ytdchjhhpbdekeaa
open Go
set_option linter.unusedVariables false
set_option maxRecDepth 100000
namespace slices_IsSorted___int_int_
@[reducible] def cfg : Cfg := ⟨21, [(2, [0, 3])], [(1, [0, 3]), (0, [])], [], [2], [4], [101, 107, 112, 15, 21, 124, 76, 137, 28, 115, 91, 81, 130], [138, 140, 82, 6, 86, 85, 132]⟩
def q0 (pr : Prims) (R : Ending → World → Prop) : Exit → Env → World → Prop := fun ex e w => normQ ex (fun e w => contE pr cfg (sub (codeOf Try.f126) [1, 1]) (fun e w => wpC pr PP cfg (DD pr) (sub (codeOf Try.f126) [1, 1]) (retQ Try.f126.results.toList R) e w) e w) (retQ Try.f126.results.toList R) e w
def q1 (pr : Prims) (R : Ending → World → Prop) : Exit → Env → World → Prop := fun ex e w => blockQ ex 0 (q0 pr R) e w
def emb2 (x_0 : Sl) (i_3 : Int) : Env := [(0, Sl.v x_0), (3, vI i_3)]
def x0 : Env := []
def S2 (pr : Prims) (Q : Exit → Env → World → Prop) : (Env → World → Prop) → Env → World → Prop := fun k e w => wpC pr PP cfg (DD pr) (sub (codeOf Try.f126) [1, 0, 1, 0, 0]) (fun ex e w => normQ ex (fun e' w' => k (Env.restr e' (lookN cfg.loops (keyOf (sub (codeOf Try.f126) [1, 0, 1, 0, 0])))) w') Q e w) e w
def B2 (pr : Prims) (x_0 : Sl) (i_3 : Int) (w : World) (k : Env → World → Prop) (Q : Exit → Env → World → Prop) : Prop :=
  S2 pr Q k (emb2 x_0 i_3) w
def L2 (pr : Prims) (x_0 : Sl) (i_3 : Int) (w : World) (Q : Exit → Env → World → Prop) : Prop :=
  pr.loop (S2 pr Q) (emb2 x_0 i_3) w
def E (pr : Prims) (x_0 : Sl) (w : World) (R : Ending → World → Prop) : Prop :=
  wpC pr PP cfg (DD pr) (codeOf Try.f126) (retQ Try.f126.results.toList R) (argE 0 [Sl.v x_0]) w
theorem B2_eq (pr : Prims) (x_0 : Sl) (i_3 : Int) (w : World) (k : Env → World → Prop) (Q : Exit → Env → World → Prop) : B2 pr x_0 i_3 w k Q = (
  bif decide (i_3 > 0) then (
  pr.idxK 1 x_0 i_3 fun (a2 : Addr) =>
  pr.load1 (.int .i64) a2 w fun (ξ3 : Int) =>
  pr.idxK 1 x_0 (w64 (i_3 - 1)) fun (a4 : Addr) =>
  pr.load1 (.int .i64) a4 w fun (ξ5 : Int) =>
  pr.pcall1 .bool PP F.cmp_Less_int_ #[vI ξ3, vI ξ5] fun (ρ6 : Bool) =>
  pr.drewAll w fun ω7 =>
  bif ρ6 then (
  Q .ret [(2, .bool false)] ω7)
  else (
  k (emb2 x_0 (w64 (i_3 - 1))) ω7))
  else (
  Q (.exit 0) (x0) w)) := by kernel_rfl
theorem B2_s (x_0 : Sl) (i_3 : Int) (w : World) (k : Env → World → Prop) (Q : Exit → Env → World → Prop) : B2 std x_0 i_3 w k Q = (
  bif decide (i_3 > 0) then (
  idxK 1 x_0 i_3 fun (a2 : Addr) =>
  load1 (.int .i64) a2 w fun (ξ3 : Int) =>
  idxK 1 x_0 (w64 (i_3 - 1)) fun (a4 : Addr) =>
  load1 (.int .i64) a4 w fun (ξ5 : Int) =>
  pcall1 .bool PP F.cmp_Less_int_ #[vI ξ3, vI ξ5] fun (ρ6 : Bool) =>
  drewAll w fun ω7 =>
  bif ρ6 then (
  Q .ret [(2, .bool false)] ω7)
  else (
  k (emb2 x_0 (w64 (i_3 - 1))) ω7))
  else (
  Q (.exit 0) (x0) w)) := B2_eq std x_0 i_3 w k Q
theorem L2_rule (x_0 : Sl) (i_3 : Int) (w : World) (Q : Exit → Env → World → Prop) (I : Int → World → Prop) (μ : Int → World → Nat) (h0 : I i_3 w)
    (h : ∀ (i_3 : Int) (w' : World), I i_3 w' → B2 std x_0 i_3 w' (fun e2 w2 => ∃ i_3_n, e2 = emb2 x_0 i_3_n ∧ I i_3_n w2 ∧ μ i_3_n w2 < μ i_3 w') Q) :
    L2 std x_0 i_3 w Q := by
  unfold L2
  refine LoopE.intro (σ := Int) (step := S2 std Q) (fun s => emb2 x_0 s) (fun s w => I s w) (fun s w => μ s w) i_3 rfl h0 ?_
  intro s w' hI
  have h1 := h s w' hI
  unfold B2 at h1
  exact h1
theorem A2_0_eq (pr : Prims) (w : World) (R : Ending → World → Prop) : (q1 pr R) (.exit 0) (x0) w = (
  R (.returned (.bool true)) w) := by kernel_rfl
theorem A2_0_s (w : World) (R : Ending → World → Prop) : (q1 std R) (.exit 0) (x0) w = (
  R (.returned (.bool true)) w) := A2_0_eq std w R
theorem R2_eq (pr : Prims) (v2 : Value) (w : World) (R : Ending → World → Prop) : (q1 pr R) .ret [(2, v2)] w = (
  R (.returned (v2)) w) := by kernel_rfl
theorem R2_s (v2 : Value) (w : World) (R : Ending → World → Prop) : (q1 std R) .ret [(2, v2)] w = (
  R (.returned (v2)) w) := R2_eq std v2 w R
theorem E_eq (pr : Prims) (x_0 : Sl) (w : World) (R : Ending → World → Prop) : E pr x_0 w R = (
  L2 pr x_0 (w64 ((x_0.n : Int) - 1)) w (q1 pr R)) := by kernel_rfl
theorem E_s (x_0 : Sl) (w : World) (R : Ending → World → Prop) : E std x_0 w R = (
  L2 std x_0 (w64 ((x_0.n : Int) - 1)) w (q1 std R)) := E_eq std x_0 w R
theorem drawsOk : drawsOk PP cfg okD (codeOf Try.f126) = true := by kernel_rfl
theorem calls (x_0 : Sl) {w : World} {R : Ending → World → Prop} (h : E std x_0 w R) : Calls PP F.slices_IsSorted___int_int_ #[Sl.v x_0] w R :=
  calls_of noCount mixed drawOk Try.func126 rfl (c := cfg) (args := [Sl.v x_0]) rfl (Nat.le_of_ble_eq_true (by kernel_rfl)) drawsOk h
end slices_IsSorted___int_int_

namespace cmp_Less_int_
@[reducible] def cfg : Cfg := ⟨17, [], [], [], [4], [], [101, 107, 112, 15, 21, 124, 76, 137, 28, 115, 91, 81, 130], [138, 140, 82, 6, 86, 85, 132]⟩
def E (pr : Prims) (x_0 : Int) (y_1 : Int) (w : World) (R : Ending → World → Prop) : Prop :=
  wpC pr PP cfg (DD pr) (codeOf Try.f138) (retQ Try.f138.results.toList R) (argE 0 [vI x_0, vI y_1]) w
theorem E_eq (pr : Prims) (x_0 : Int) (y_1 : Int) (w : World) (R : Ending → World → Prop) : E pr x_0 y_1 w R = (
  pr.pcall1 .bool PP F.cmp_isNaN_int_ #[vI x_0] fun (ρ0 : Bool) =>
  bif ρ0 then (
  pr.pcall1 .bool PP F.cmp_isNaN_int_ #[vI y_1] fun (ρ1 : Bool) =>
  bif !ρ1 then (
  R (.returned (.bool true)) w)
  else (
  R (.returned (.bool (decide (x_0 < y_1)))) w))
  else (
  R (.returned (.bool (decide (x_0 < y_1)))) w)) := by kernel_rfl
theorem E_s (x_0 : Int) (y_1 : Int) (w : World) (R : Ending → World → Prop) : E std x_0 y_1 w R = (
  pcall1 .bool PP F.cmp_isNaN_int_ #[vI x_0] fun (ρ0 : Bool) =>
  bif ρ0 then (
  pcall1 .bool PP F.cmp_isNaN_int_ #[vI y_1] fun (ρ1 : Bool) =>
  bif !ρ1 then (
  R (.returned (.bool true)) w)
  else (
  R (.returned (.bool (decide (x_0 < y_1)))) w))
  else (
  R (.returned (.bool (decide (x_0 < y_1)))) w)) := E_eq std x_0 y_1 w R
theorem drawsOk : drawsOk PP cfg okD (codeOf Try.f138) = true := by kernel_rfl
theorem calls (x_0 : Int) (y_1 : Int) {w : World} {R : Ending → World → Prop} (h : E std x_0 y_1 w R) : Calls PP F.cmp_Less_int_ #[vI x_0, vI y_1] w R :=
  calls_of noCount mixed drawOk Try.func138 rfl (c := cfg) (args := [vI x_0, vI y_1]) rfl (Nat.le_of_ble_eq_true (by kernel_rfl)) drawsOk h
end cmp_Less_int_

namespace impl_isRising
@[reducible] def cfg : Cfg := ⟨5, [], [], [], [2], [], [101, 107, 112, 15, 21, 124, 76, 137, 28, 115, 91, 81, 130], [138, 140, 82, 6, 86, 85, 132]⟩
def E (pr : Prims) (p_0 : Sl) (w : World) (R : Ending → World → Prop) : Prop :=
  wpC pr PP cfg (DD pr) (codeOf Try.f77) (retQ Try.f77.results.toList R) (argE 0 [Sl.v p_0]) w
theorem E_eq (pr : Prims) (p_0 : Sl) (w : World) (R : Ending → World → Prop) : E pr p_0 w R = (
  pr.call1 .bool PP F.slices_IsSorted___int_int_ #[Sl.v p_0] w fun (ρ0 : Bool) ω1 =>
  R (.returned (.bool ρ0)) ω1) := by kernel_rfl
theorem E_s (p_0 : Sl) (w : World) (R : Ending → World → Prop) : E std p_0 w R = (
  call1 .bool PP F.slices_IsSorted___int_int_ #[Sl.v p_0] w fun (ρ0 : Bool) ω1 =>
  R (.returned (.bool ρ0)) ω1) := E_eq std p_0 w R
theorem drawsOk : drawsOk PP cfg okD (codeOf Try.f77) = true := by kernel_rfl
theorem calls (p_0 : Sl) {w : World} {R : Ending → World → Prop} (h : E std p_0 w R) : Calls PP F.impl_isRising #[Sl.v p_0] w R :=
  calls_of noCount mixed drawOk Try.func77 rfl (c := cfg) (args := [Sl.v p_0]) rfl (Nat.le_of_ble_eq_true (by kernel_rfl)) drawsOk h
end impl_isRising

namespace spec_l13Straight
@[reducible] def cfg : Cfg := ⟨8, [], [], [], [2], [], [101, 107, 112, 15, 21, 124, 76, 137, 28, 115, 91, 81, 130], [138, 140, 82, 6, 86, 85, 132]⟩
def E (pr : Prims) (p_0 : Sl) (w : World) (R : Ending → World → Prop) : Prop :=
  wpC pr PP cfg (DD pr) (codeOf Try.f78) (retQ Try.f78.results.toList R) (argE 0 [Sl.v p_0]) w
theorem E_eq (pr : Prims) (p_0 : Sl) (w : World) (R : Ending → World → Prop) : E pr p_0 w R = (
  pr.call1 .sl PP F.spec_IdentityPerm #[vI (p_0.n : Int)] w fun (ρ0 : Sl) ω1 =>
  pr.call1 .bool PP F.spec_l2Same #[Sl.v p_0, Sl.v ρ0] ω1 fun (ρ2 : Bool) ω3 =>
  R (.returned (.bool ρ2)) ω3) := by kernel_rfl
theorem E_s (p_0 : Sl) (w : World) (R : Ending → World → Prop) : E std p_0 w R = (
  call1 .sl PP F.spec_IdentityPerm #[vI (p_0.n : Int)] w fun (ρ0 : Sl) ω1 =>
  call1 .bool PP F.spec_l2Same #[Sl.v p_0, Sl.v ρ0] ω1 fun (ρ2 : Bool) ω3 =>
  R (.returned (.bool ρ2)) ω3) := E_eq std p_0 w R
theorem drawsOk : drawsOk PP cfg okD (codeOf Try.f78) = true := by kernel_rfl
theorem calls (p_0 : Sl) {w : World} {R : Ending → World → Prop} (h : E std p_0 w R) : Calls PP F.spec_l13Straight #[Sl.v p_0] w R :=
  calls_of noCount mixed drawOk Try.func78 rfl (c := cfg) (args := [Sl.v p_0]) rfl (Nat.le_of_ble_eq_true (by kernel_rfl)) drawsOk h
end spec_l13Straight

end Go.Proofs.Ytdchjhhpbdekeaa

/- What each function does, step by step, written by a program (Gen.lean); each equation is checked by the kernel. -/
namespace Go.Proofs.Ytdchjhhpbdekeaa
open Go
set_option linter.unusedVariables false
set_option maxRecDepth 100000
namespace spec_l2Same
@[reducible] def cfg : Cfg := ⟨26, [(4, [0, 1, 5])], [(1, [0, 1, 5]), (0, [])], [], [4], [6], [101, 107, 112, 15, 21, 124, 76, 137, 28, 115, 91, 81, 130], [138, 140, 82, 6, 86, 85, 132]⟩
def q0 (pr : Prims) (R : Ending → World → Prop) : Exit → Env → World → Prop := fun ex e w => normQ ex (fun e w => contE pr cfg (sub (codeOf Try.f81) [1, 1, 1]) (fun e w => wpC pr PP cfg (DD pr) (sub (codeOf Try.f81) [1, 1, 1]) (retQ Try.f81.results.toList R) e w) e w) (retQ Try.f81.results.toList R) e w
def q1 (pr : Prims) (R : Ending → World → Prop) : Exit → Env → World → Prop := fun ex e w => blockQ ex 0 (q0 pr R) e w
def emb4 (a_0 : Sl) (b_1 : Sl) (k_5 : Int) : Env := [(0, Sl.v a_0), (1, Sl.v b_1), (5, vI k_5)]
def x0 : Env := []
def S4 (pr : Prims) (Q : Exit → Env → World → Prop) : (Env → World → Prop) → Env → World → Prop := fun k e w => wpC pr PP cfg (DD pr) (sub (codeOf Try.f81) [1, 1, 0, 1, 0, 0]) (fun ex e w => normQ ex (fun e' w' => k (Env.restr e' (lookN cfg.loops (keyOf (sub (codeOf Try.f81) [1, 1, 0, 1, 0, 0])))) w') Q e w) e w
def B4 (pr : Prims) (a_0 : Sl) (b_1 : Sl) (k_5 : Int) (w : World) (k : Env → World → Prop) (Q : Exit → Env → World → Prop) : Prop :=
  S4 pr Q k (emb4 a_0 b_1 k_5) w
def L4 (pr : Prims) (a_0 : Sl) (b_1 : Sl) (k_5 : Int) (w : World) (Q : Exit → Env → World → Prop) : Prop :=
  pr.loop (S4 pr Q) (emb4 a_0 b_1 k_5) w
def E (pr : Prims) (a_0 : Sl) (b_1 : Sl) (w : World) (R : Ending → World → Prop) : Prop :=
  wpC pr PP cfg (DD pr) (codeOf Try.f81) (retQ Try.f81.results.toList R) (argE 0 [Sl.v a_0, Sl.v b_1]) w
theorem B4_eq (pr : Prims) (a_0 : Sl) (b_1 : Sl) (k_5 : Int) (w : World) (k : Env → World → Prop) (Q : Exit → Env → World → Prop) : B4 pr a_0 b_1 k_5 w k Q = (
  bif decide (k_5 < (a_0.n : Int)) then (
  pr.idxK 1 a_0 k_5 fun (a2 : Addr) =>
  pr.load1 (.int .i64) a2 w fun (ξ3 : Int) =>
  pr.idxK 1 b_1 k_5 fun (a4 : Addr) =>
  pr.load1 (.int .i64) a4 w fun (ξ5 : Int) =>
  pr.drewAll w fun ω6 =>
  bif ξ3 != ξ5 then (
  Q .ret [(4, .bool false)] ω6)
  else (
  k (emb4 a_0 b_1 (w64 (k_5 + 1))) ω6))
  else (
  Q (.exit 0) (x0) w)) := by kernel_rfl
theorem B4_s (a_0 : Sl) (b_1 : Sl) (k_5 : Int) (w : World) (k : Env → World → Prop) (Q : Exit → Env → World → Prop) : B4 std a_0 b_1 k_5 w k Q = (
  bif decide (k_5 < (a_0.n : Int)) then (
  idxK 1 a_0 k_5 fun (a2 : Addr) =>
  load1 (.int .i64) a2 w fun (ξ3 : Int) =>
  idxK 1 b_1 k_5 fun (a4 : Addr) =>
  load1 (.int .i64) a4 w fun (ξ5 : Int) =>
  drewAll w fun ω6 =>
  bif ξ3 != ξ5 then (
  Q .ret [(4, .bool false)] ω6)
  else (
  k (emb4 a_0 b_1 (w64 (k_5 + 1))) ω6))
  else (
  Q (.exit 0) (x0) w)) := B4_eq std a_0 b_1 k_5 w k Q
theorem L4_rule (a_0 : Sl) (b_1 : Sl) (k_5 : Int) (w : World) (Q : Exit → Env → World → Prop) (I : Int → World → Prop) (μ : Int → World → Nat) (h0 : I k_5 w)
    (h : ∀ (k_5 : Int) (w' : World), I k_5 w' → B4 std a_0 b_1 k_5 w' (fun e2 w2 => ∃ k_5_n, e2 = emb4 a_0 b_1 k_5_n ∧ I k_5_n w2 ∧ μ k_5_n w2 < μ k_5 w') Q) :
    L4 std a_0 b_1 k_5 w Q := by
  unfold L4
  refine LoopE.intro (σ := Int) (step := S4 std Q) (fun s => emb4 a_0 b_1 s) (fun s w => I s w) (fun s w => μ s w) k_5 rfl h0 ?_
  intro s w' hI
  have h1 := h s w' hI
  unfold B4 at h1
  exact h1
theorem A4_0_eq (pr : Prims) (w : World) (R : Ending → World → Prop) : (q1 pr R) (.exit 0) (x0) w = (
  R (.returned (.bool true)) w) := by kernel_rfl
theorem A4_0_s (w : World) (R : Ending → World → Prop) : (q1 std R) (.exit 0) (x0) w = (
  R (.returned (.bool true)) w) := A4_0_eq std w R
theorem R4_eq (pr : Prims) (v4 : Value) (w : World) (R : Ending → World → Prop) : (q1 pr R) .ret [(4, v4)] w = (
  R (.returned (v4)) w) := by kernel_rfl
theorem R4_s (v4 : Value) (w : World) (R : Ending → World → Prop) : (q1 std R) .ret [(4, v4)] w = (
  R (.returned (v4)) w) := R4_eq std v4 w R
theorem E_eq (pr : Prims) (a_0 : Sl) (b_1 : Sl) (w : World) (R : Ending → World → Prop) : E pr a_0 b_1 w R = (
  bif (a_0.n : Int) != (b_1.n : Int) then (
  R (.returned (.bool false)) w)
  else (
  L4 pr a_0 b_1 0 w (q1 pr R))) := by kernel_rfl
theorem E_s (a_0 : Sl) (b_1 : Sl) (w : World) (R : Ending → World → Prop) : E std a_0 b_1 w R = (
  bif (a_0.n : Int) != (b_1.n : Int) then (
  R (.returned (.bool false)) w)
  else (
  L4 std a_0 b_1 0 w (q1 std R))) := E_eq std a_0 b_1 w R
theorem drawsOk : drawsOk PP cfg okD (codeOf Try.f81) = true := by kernel_rfl
theorem calls (a_0 : Sl) (b_1 : Sl) {w : World} {R : Ending → World → Prop} (h : E std a_0 b_1 w R) : Calls PP F.spec_l2Same #[Sl.v a_0, Sl.v b_1] w R :=
  calls_of noCount mixed drawOk Try.func81 rfl (c := cfg) (args := [Sl.v a_0, Sl.v b_1]) rfl (Nat.le_of_ble_eq_true (by kernel_rfl)) drawsOk h
end spec_l2Same

end Go.Proofs.Ytdchjhhpbdekeaa

/- The model's equality of rows. -/
namespace Go.Proofs.Ytdchjhhpbdekeaa
open Go Go.RowKit
set_option maxRecDepth 100000

theorem c_l2Same {w : World} {a b : Sl} {L M : List Int} (ha : RowI w a L) (hb : RowI w b M) (hL : L.length < 2^39) : Quiet F.spec_l2Same #[a.v, b.v] w (.bool (decide (L = M))) := by
  intro w1 hd
  have han : a.n = L.length := by have := ha.n; simpa using this
  have hbn : b.n = M.length := by have := hb.n; simpa using this
  refine spec_l2Same.calls a b ?_
  rw [spec_l2Same.E_s]
  refine bif_intro (fun h => ?_) (fun h => ?_)
  · have : L.length ≠ M.length := by simp at h; omega
    have : L ≠ M := fun e => this (by rw [e])
    exact ⟨by simp [this], Drew.refl _⟩
  have hlen : L.length = M.length := by simp at h; omega
  refine spec_l2Same.L4_rule _ _ _ _ _ (I := fun i w' => 0 ≤ i ∧ i ≤ L.length ∧ (∀ k, k < i.toNat → L[k]? = M[k]?) ∧ Drew w1 w') (μ := fun i _ => (L.length - i).toNat)
    ⟨by omega, by omega, fun k hk => by simp at hk, Drew.refl _⟩ ?_
  rintro i w' ⟨h0, hi, hall, hd2⟩
  have hh : w'.heap = w.heap := (hd.trans hd2).heap'
  rw [spec_l2Same.B4_s]
  refine bif_dec (fun h3 => ?_) (fun h3 => ?_)
  · have hlt : i.toNat < L.length := by omega
    have hlt2 : i.toNat < M.length := by omega
    refine RowI.get (ha.heap hh) h0 (by omega) ?_
    refine RowI.get (hb.heap hh) h0 (by omega) ?_
    refine drew_intro fun w3 hd3 => ?_
    rw [getD_eq hlt, getD_eq hlt2]
    refine bif_intro (fun h4 => ?_) (fun h4 => ?_)
    · have : L ≠ M := fun e => by subst e; simp at h4
      rw [spec_l2Same.R4_s]
      exact ⟨by simp [this], hd2.trans hd3⟩
    · have h4 : L[i.toNat] = M[i.toNat] := by simpa using h4
      refine ⟨i + 1, by rw [w64_succ h0 (by omega)], ⟨by omega, by omega, fun k hk => ?_, hd2.trans hd3⟩, by omega⟩
      by_cases hk2 : k < i.toNat
      · exact hall k hk2
      · have : k = i.toNat := by omega
        subst this
        rw [List.getElem?_eq_getElem hlt, List.getElem?_eq_getElem hlt2, h4]
  · rw [spec_l2Same.A4_0_s]
    have : L = M := by
      apply List.ext_getElem?
      intro k
      by_cases hk : k < L.length
      · exact hall k (by omega)
      · rw [List.getElem?_eq_none (by omega), List.getElem?_eq_none (by omega)]
    exact ⟨by simp [this], hd2⟩
end Go.Proofs.Ytdchjhhpbdekeaa

/- Is a row in ascending order: both texts; equality of rows; the identity. -/
namespace Go.Proofs.Ytdchjhhpbdekeaa
open Go Go.RowKit
set_option maxRecDepth 100000

theorem c_isNaN (n : Int) : Pure F.cmp_isNaN_int_ #[vI n] (.bool false) := by
  intro w
  refine cmp_isNaN_int_.calls n ?_
  rw [cmp_isNaN_int_.E_s]
  exact ⟨by simp, rfl⟩
theorem c_Less (a b : Int) : Pure F.cmp_Less_int_ #[vI a, vI b] (.bool (decide (a < b))) := by
  intro w
  refine cmp_Less_int_.calls a b ?_
  rw [cmp_Less_int_.E_s]
  refine Pure.pcall1 (s := .bool) (c_isNaN a) ?_
  exact bif_f rfl ⟨rfl, rfl⟩
open Classical in
theorem c_IsSorted {w : World} {a : Sl} {L : List Int} (ha : RowI w a L) (hL : L.length < 2^38) : Quiet F.slices_IsSorted___int_int_ #[a.v] w (.bool (decide (Rising L))) := by
  intro w1 hd
  have han : a.n = L.length := by have := ha.n; simpa using this
  refine slices_IsSorted___int_int_.calls a ?_
  rw [slices_IsSorted___int_int_.E_s, han, w64_id (by omega) (by omega)]
  refine slices_IsSorted___int_int_.L2_rule _ _ _ _ (I := fun i w' => Drew w1 w' ∧ i < L.length ∧ -1 ≤ i ∧ ∀ j : Nat, i ≤ j → j + 1 < L.length → L.getD j 0 ≤ L.getD (j + 1) 0) (μ := fun i _ => (i + 1).toNat)
    ⟨Drew.refl _, by omega, by omega, fun j h1 h2 => by omega⟩ ?_
  rintro i w' ⟨hd2, hi, h0, hall⟩
  rw [slices_IsSorted___int_int_.B2_s]
  refine bif_dec (fun h3 => ?_) (fun h3 => ?_)
  · refine RowI.get (ha.heap (hd.trans hd2).heap') (by omega) (by omega) ?_
    rw [w64_id (n := i - 1) (by omega) (by omega)]
    refine RowI.get (ha.heap (hd.trans hd2).heap') (by omega) (by omega) ?_
    refine Pure.pcall1 (s := .bool) (c_Less _ _) ?_
    refine drew_intro fun w2 hd3 => ?_
    have e1 : i.toNat = (i - 1).toNat + 1 := by omega
    refine bif_dec (fun h4 => ?_) (fun h4 => ?_)
    · rw [slices_IsSorted___int_int_.R2_s]
      have : ¬ Rising L := fun h => by
        have := h (i - 1).toNat (by omega)
        rw [e1] at h4; omega
      exact ⟨by simp [this], hd2.trans hd3⟩
    · refine ⟨i - 1, rfl, ⟨hd2.trans hd3, by omega, by omega, fun j h1 h2 => ?_⟩, by omega⟩
      by_cases h5 : i ≤ j
      · exact hall j h5 h2
      · have : j = (i - 1).toNat := by omega
        rw [this, ← e1]; omega
  · rw [slices_IsSorted___int_int_.A2_0_s]
    have : Rising L := fun j h => hall j (by omega) h
    exact ⟨by simp [this], hd2⟩
open Classical in
theorem c_isRising {w : World} {a : Sl} {L : List Int} (ha : RowI w a L) (hL : L.length < 2^38) : Quiet F.impl_isRising #[a.v] w (.bool (decide (Rising L))) := by
  intro w1 hd
  refine impl_isRising.calls a ?_
  rw [impl_isRising.E_s]
  refine (c_IsSorted ha hL w1 hd).mono ?_
  rintro e w2 ⟨rfl, hd2⟩
  exact ⟨_, rfl, rfl, hd2⟩

theorem c_IdentityPerm {w : World} (n : Nat) (hn : n ≤ 8) :
    Calls PP F.spec_IdentityPerm #[vI n] w fun e w' => ∃ s : Sl, e = .returned s.v ∧ OwnI w' w.heap.size s (idn n) ∧ Below w.heap.size w w' := by
  refine spec_IdentityPerm.calls n ?_
  rw [spec_IdentityPerm.E_s]
  refine lit0 oneInt (B := w.heap.size) (Nat.le_refl _) ?_
  intro t0 w1 hown hg _
  refine spec_IdentityPerm.L3_rule _ _ _ _ _ (I := fun t k w' => 1 ≤ k ∧ k ≤ n + 1 ∧ OwnI w' w.heap.size t (idn (k - 1).toNat) ∧ Below w.heap.size w w') (μ := fun _ k _ => (n + 1 - k).toNat)
    ⟨by omega, by omega, hown, below_of_grow hg⟩ ?_
  rintro t k w' ⟨h1, hk, ht, hb⟩
  rw [spec_IdentityPerm.B3_s]
  refine bif_dec (fun h3 => ?_) (fun h3 => ?_)
  · refine bif_dec (fun h4 => ?_) (fun h4 => by omega)
    refine append_int ht hb.size (by rw [idn_length]; omega) ?_
    intro t' w2 ht2 hg2 _
    refine ⟨t', k + 1, by rw [w64_succ (by omega) (by omega)], ⟨by omega, by omega, ?_, hb.grown hg2 hb.size (fun g hg => (ht.lt g hg).1)⟩, by omega⟩
    rw [show (k + 1 - 1).toNat = (k - 1).toNat + 1 by omega, idn_succ, show (((k - 1).toNat : Nat) : Int) + 1 = k by omega]
    exact ht2
  · rw [spec_IdentityPerm.A3_0_s]
    rw [show (k - 1).toNat = n by omega] at ht
    exact ⟨t, rfl, ht, hb⟩
open Classical in
theorem c_l13Straight {w : World} {a : Sl} {L : List Int} (ha : RowI w a L) (hL : L.length ≤ 8) :
    Calls PP F.spec_l13Straight #[a.v] w fun e w' => e = .returned (.bool (decide (L = idn L.length))) ∧ Below w.heap.size w w' := by
  have han : a.n = L.length := by have := ha.n; simpa using this
  refine spec_l13Straight.calls a ?_
  rw [spec_l13Straight.E_s, han]
  refine (c_IdentityPerm L.length hL).mono ?_
  rintro e w1 ⟨s, rfl, hs, hb⟩
  refine ⟨s, rfl, ?_⟩
  refine Quiet.call1 (s := .bool) (c_l2Same (ha.grow hb) hs.row (by omega)) ?_
  intro w2 hd
  exact ⟨by congr, hb.trans (hd.below _)⟩
end Go.Proofs.Ytdchjhhpbdekeaa

/- CountLongestUp and FirstLongestUp: the counts, both texts, and the laws. -/
namespace Go.Proofs.Ytdchjhhpbdekeaa
open Go Go.RowKit
set_option maxRecDepth 100000

theorem cn_none {L : List Int} {k m : Nat} {x : Int} (hk : k < L.length) (h : Most (Fr L k) x) (hm : x ≤ m) : cn L k m = 0 := by
  apply Classical.byContradiction
  intro hne
  obtain ⟨p, rfl, hf, hmax⟩ := h
  have := hmax _ ((cn_Fr m hk).1 (by omega))
  omega
theorem sumUp_none {L : List Int} {v : Int} {i m : Nat} : ∀ {c}, (∀ k, i ≤ k → k < i + c → v < L.getD k 0 → cn L k m = 0) → sumUp L v i m c = 0
  | 0, _ => rfl
  | c + 1, h => by
    rw [sumUp, sumUp_none (fun k h1 h2 h3 => h k h1 (by omega) h3)]
    split
    · rename_i h4; rw [h (i + c) (by omega) (by omega) h4]
    · rfl
theorem sumUp_le {L : List Int} {v : Int} {i m : Nat} : ∀ {c}, i + c ≤ L.length → sumUp L v i m c ≤ c * 2 ^ L.length
  | 0, _ => by simp [sumUp]
  | c + 1, h => by
    rw [sumUp, Nat.succ_mul]
    have h1 := sumUp_le (L := L) (v := v) (i := i) (m := m) (c := c) (by omega)
    have h2 := cn_bound (P := L) m (i := i + c) (by omega)
    have h3 : 2 ^ (L.length - 1 - (i + c)) ≤ 2 ^ L.length := Nat.pow_le_pow_right (by omega) (by omega)
    split <;> omega
theorem inn_count {L : List Int} (hp : ∀ i j, i < j → j < L.length → L.getD i 0 ≠ L.getD j 0) (h8 : L.length ≤ 8) {val : Nat → Int × Int} {i : Nat} (hi : i < L.length)
    (hv : ∀ k, i < k → k < L.length → Most (Fr L k) (val k).1) (hc : ∀ k, i < k → k < L.length → (val k).2 = cn L k ((val k).1.toNat - 1)) : ∀ c, i + c < L.length →
    (inn L val i c).2 = if (inn L val i c).1 = 1 then 1 else (sumUp L (L.getD i 0) (i + 1) ((inn L val i c).1.toNat - 2) c : Int)
  | 0, _ => by simp [inn]
  | c + 1, hlt => by
    have ih := inn_count hp h8 hi hv hc c (by omega)
    obtain ⟨h1, h2, h3, h4⟩ := inn_spec hp hi (by omega) hv c (by omega)
    have hmk := hv (i + 1 + c) (by omega) (by omega)
    have hck := hc (i + 1 + c) (by omega) (by omega)
    obtain ⟨m, hm, hf, hmax⟩ := id hmk
    have hle := hf.le
    have hpos := hf.pos
    have hw : w64 ((val (i + 1 + c)).1 + 1) = (val (i + 1 + c)).1 + 1 := w64_id (by omega) (by omega)
    have hne := hp i (i + 1 + c) (by omega) (by omega)
    rw [inn, hw]
    split
    · rename_i hs
      rw [ih]
      split
      · rfl
      · rename_i hl
        rw [sumUp]
        congr 1
        split
        · rename_i hgt
          rw [cn_none (by omega) hmk (by omega)]; rfl
        · rfl
    · rename_i hs
      have hgt : L.getD i 0 < L.getD (i + 1 + c) 0 := by omega
      split
      · rename_i hs2
        simp only
        rw [if_neg (by omega), sumUp, if_pos hgt, sumUp_none (fun k a b d => cn_none (by omega) (hv k (by omega) (by omega)) (by have := h4 k (by omega) (by omega) d; omega)), hck]
        rw [show ((val (i + 1 + c)).1 + 1).toNat - 2 = (val (i + 1 + c)).1.toNat - 1 by omega]
        omega
      · rename_i hs2
        simp only
        rw [if_neg (by omega), sumUp, if_pos hgt, ih, if_neg (by omega), hck]
        rw [show (inn L val i c).1.toNat - 2 = (val (i + 1 + c)).1.toNat - 1 by omega]
        have b1 := sumUp_le (L := L) (v := L.getD i 0) (i := i + 1) (m := (val (i + 1 + c)).1.toNat - 1) (c := c) (by omega)
        have b2 := cn_bound (P := L) ((val (i + 1 + c)).1.toNat - 1) (i := i + 1 + c) (by omega)
        have b3 : 2 ^ (L.length - 1 - (i + 1 + c)) ≤ 2 ^ 8 := Nat.pow_le_pow_right (by omega) (by omega)
        have b4 : 2 ^ L.length ≤ 2 ^ 8 := Nat.pow_le_pow_right (by omega) h8
        have b5 : c * 2 ^ L.length ≤ 8 * 2 ^ 8 := Nat.mul_le_mul (by omega) b4
        rw [w64_id (by omega) (by omega)]
        omega
theorem gl_count {L : List Int} (hp : ∀ i j, i < j → j < L.length → L.getD i 0 ≠ L.getD j 0) (h8 : L.length ≤ 8) : ∀ d, d ≤ L.length → ∀ j, L.length ≤ j + d → j < L.length → (gl L d j).2 = cn L j ((gl L d j).1.toNat - 1)
  | 0, _, j, h1, h2 => by omega
  | d + 1, hd, j, h1, h2 => by
    rw [gl]
    split
    · rename_i hj
      have hspec := fun k (hk1 : j < k) (hk2 : k < L.length) => gl_spec hp (by omega) d (by omega) k (by omega) hk2
      obtain ⟨a1, a2, a3, a4⟩ := inn_spec hp h2 (by omega) (val := gl L d) hspec d (by omega)
      rw [inn_count hp h8 h2 hspec (fun k hk1 hk2 => gl_count hp h8 d (by omega) k (by omega) hk2) d (by omega)]
      split
      · rename_i h; rw [h]; rfl
      · rename_i h
        have : (inn L (gl L d) j d).1.toNat - 1 = ((inn L (gl L d) j d).1.toNat - 2) + 1 := by omega
        rw [this, cn_succ L _ h2, show L.length - 1 - j = d by omega]
    · exact gl_count hp h8 d (by omega) j (by omega) h2
theorem luV_gl {L : List Int} (hp : ∀ i j, i < j → j < L.length → L.getD i 0 ≠ L.getD j 0) (hL : L.length < 2^38) : luV L = mx (fun j => (gl L L.length j).1) L.length := by
  rw [luV, lis_eq (L := L) (fun i hi => gl_spec hp hL L.length (Nat.le_refl _) i (by omega) hi) (fun k hk => enT_spec hL L.length (Nat.le_refl _) k hk)]
/-- What the lengths and numbers of a permutation are. -/
theorem lu_facts {L : List Int} (h : IsP L) : 0 ≤ luV L ∧ luV L ≤ L.length ∧ (∀ i, i < L.length → Most (Fr L i) (gl L L.length i).1 ∧ (gl L L.length i).1 ≤ luV L ∧ (gl L L.length i).2 = cn L i ((gl L L.length i).1.toNat - 1)) ∧ (0 < L.length → 1 ≤ luV L) := by
  have h8 := h.1
  have hsp := fun i (hi : i < L.length) => gl_spec h.2.ne (by omega) L.length (Nat.le_refl _) i (by omega) hi
  have hle := fun i (hi : i < L.length) => (show (gl L L.length i).1 ≤ luV L by rw [luV_gl h.2.ne (by omega)]; exact mx_ge (f := fun j => (gl L L.length j).1) hi)
  have hup : luV L ≤ L.length := by
    rw [luV_gl h.2.ne (by omega)]
    rcases mx_mem (f := fun j => (gl L L.length j).1) (n := L.length) with h1 | ⟨k, hk, h1⟩
    · omega
    · obtain ⟨m, hm, hf, _⟩ := hsp k hk
      have := hf.le
      omega
  refine ⟨by rw [luV_gl h.2.ne (by omega)]; exact mx_nonneg, hup, fun i hi => ⟨hsp i hi, hle i hi, gl_count h.2.ne h8 L.length (Nat.le_refl _) i (by omega) hi⟩, fun h0 => ?_⟩
  obtain ⟨m, hm, hf, _⟩ := hsp 0 h0
  have := hf.pos
  have := hle 0 h0
  omega
theorem isP_pos {L : List Int} (h : IsP L) : ∀ x : Int, 1 ≤ x → x ≤ L.length → 0 < L.getD (x - 1).toNat 0 := fun x h1 h2 => by
  have := (h.2 (x - 1).toNat (by omega)).1; omega
open Classical in
noncomputable def CountLongestUpV (L : List Int) : Int := if IsP L then ((upN L (luV L).toNat 0 0).length : Int) else -1
theorem c_specCountLongestUp {w : World} {a : Sl} {L : List Int} (ha : RowI w a L) (hL : L.length < 2^38) :
    Calls PP F.spec_CountLongestUp #[a.v] w fun e w' => e = .returned (vI (CountLongestUpV L)) ∧ Below w.heap.size w w' := by
  refine spec_CountLongestUp.calls a ?_
  rw [spec_CountLongestUp.E_s]
  refine Quiet.call1 (s := .bool) (c_specIsPerm ha hL) ?_
  intro w1 hd
  have hb1 : Below w.heap.size w w1 := hd.below _
  refine bif_intro (fun h => ?_) (fun h => ?_)
  · have h : ¬ IsP L := by simpa using h
    exact ⟨by rw [CountLongestUpV, if_neg h], hb1⟩
  have h : IsP L := by simpa using h
  obtain ⟨hl0, hln, hf, _⟩ := lu_facts h
  have h8 := h.1
  refine (c_l20Up (ha.grow hb1) hL).mono ?_
  rintro e w2 ⟨rfl, hb12⟩
  refine ⟨_, rfl, ?_⟩
  have hb2 := hb1.trans (hb12.mono hb1.size)
  obtain ⟨K, hK⟩ : ∃ K : Nat, luV L = K := ⟨(luV L).toNat, by omega⟩
  rw [hK]
  refine (c_IdentityPerm K (by omega)).mono ?_
  rintro e w3 ⟨q, rfl, hq, hb23⟩
  refine ⟨q, rfl, ?_⟩
  have hb3 := hb2.trans (hb23.mono hb2.size)
  refine lit0 oneInt (B := w3.heap.size) (Nat.le_refl _) ?_
  intro s w4 hs hg4 hc4
  have hb34 := below_of_grow hg4
  refine lit0 oneSint (B := w3.heap.size) hb34.size ?_
  intro t w5 ht hg5 hc5
  have hb35 := hb34.grown hg5 hb34.size (by simp)
  have h88 : 8 ^ K ≤ 8 ^ 8 := Nat.pow_le_pow_right (by omega) (by omega)
  refine (c_l7Find (w0 := w3) (ha.grow hb3) hq.row h.1 (by rw [idn_length]; omega) K w5 s t [] [] [] hb35 (OwnRows.nil ht) (hs.kept hg5 (by simp)) (fun t ht => by simp at ht) (by rw [idn_length]; simp) (Places.nil L) (by simp only [List.length_nil]; omega)).mono ?_
  rintro e w6 ⟨u, rfl, hu, hg6, _⟩
  refine ⟨u, rfl, ?_, (hb3.trans (hb35.mono hb3.size)).grown hg6 (Nat.le_trans hb3.size hb35.size) (fun g hg => Nat.le_trans hb3.size (ht.lt g hg).1)⟩
  have hn := hu.row.n
  rw [List.nil_append, occ_up_nil (isP_pos h)] at hn
  rw [hn, CountLongestUpV, if_pos h, hK, Int.toNat_natCast]
theorem c_implCountLongestUp {w : World} {a : Sl} {L : List Int} (ha : RowI w a L) (hL : L.length < 2^38) :
    Calls PP F.impl_CountLongestUp #[a.v] w fun e w' => e = .returned (vI (CountLongestUpV L)) ∧ Below w.heap.size w w' := by
  have han : a.n = L.length := by have := ha.n; simpa using this
  refine impl_CountLongestUp.calls a ?_
  rw [impl_CountLongestUp.E_s, han]
  refine (c_implIsPerm ha hL).mono ?_
  rintro e w1 ⟨rfl, hb1⟩
  refine ⟨_, rfl, ?_⟩
  refine bif_intro (fun h => ?_) (fun h => ?_)
  · have h : ¬ IsP L := by simpa using h
    exact ⟨by rw [CountLongestUpV, if_neg h], hb1⟩
  have h : IsP L := by simpa using h
  obtain ⟨hl0, hln, hf, hl1⟩ := lu_facts h
  have h8 := h.1
  refine bif_intro (fun hz => ?_) (fun hz => ?_)
  · have : L = [] := by simpa using hz
    subst this
    have hz : luV [] = 0 := by simp at hln; omega
    exact ⟨by rw [CountLongestUpV, if_pos h, hz]; rfl, hb1⟩
  have hpos : 0 < L.length := List.length_pos_iff.2 (by simpa using hz)
  have hl1 := hl1 hpos
  refine (c_lengths (ha.grow hb1) hL).mono ?_
  rintro e w2 ⟨s, t, rfl, hs, ht, hb12⟩
  refine ⟨s, t, rfl, ?_⟩
  have hb2 := hb1.trans (hb12.mono hb1.size)
  have hsn : s.n = L.length := by have := hs.n; simpa [tab_length] using this
  show impl_CountLongestUp.L8 std a t 0 s (s.n : Int) 0 w2 _
  rw [hsn]
  refine impl_CountLongestUp.L8_rule _ _ _ _ _ _ _ _ (I := fun m i w' => 0 ≤ i ∧ i ≤ L.length ∧ Below w2.heap.size w2 w' ∧ m = sumUp L 0 0 ((luV L).toNat - 1) i.toNat) (μ := fun _ i _ => (L.length - i).toNat)
    ⟨by omega, by omega, Below.refl _ _, rfl⟩ ?_
  rintro m i w' ⟨hi0, hi, hb, hm⟩
  rw [impl_CountLongestUp.B8_s]
  refine bif_dec (fun h3 => ?_) (fun h3 => ?_)
  · have hlt : i.toNat < L.length := by omega
    obtain ⟨f1, f2, f3⟩ := hf i.toNat hlt
    refine RowI.get (hs.grow hb).row hi0 (by rw [tab_length]; omega) ?_
    rw [tab_getD _ hlt]
    refine (c_longestUp (ha.grow (hb2.trans (hb.mono hb2.size))) hL h.2.ne).mono ?_
    rintro e w3 ⟨rfl, hb3⟩
    refine ⟨_, rfl, ?_⟩
    have hb23 := hb.trans (hb3.mono hb.size)
    have hv := isP_pos h (i + 1) (by omega) (by omega)
    rw [show i + 1 - 1 = i by omega] at hv
    have hsc : (i + 1).toNat = i.toNat + 1 := by omega
    have hst : sumUp L 0 0 ((luV L).toNat - 1) (i + 1).toNat = sumUp L 0 0 ((luV L).toNat - 1) i.toNat + cn L i.toNat ((luV L).toNat - 1) := by
      rw [hsc, sumUp, Nat.zero_add, if_pos hv]
    have b1 := sumUp_le (L := L) (v := 0) (i := 0) (m := (luV L).toNat - 1) (c := i.toNat) (by omega)
    have b2 := cn_bound (P := L) ((luV L).toNat - 1) hlt
    have b3 : 2 ^ (L.length - 1 - i.toNat) ≤ 2 ^ 8 := Nat.pow_le_pow_right (by omega) (by omega)
    have b4 : 2 ^ L.length ≤ 2 ^ 8 := Nat.pow_le_pow_right (by omega) h8
    have b5 : i.toNat * 2 ^ L.length ≤ 8 * 2 ^ 8 := Nat.mul_le_mul (by omega) b4
    refine bif_intro (fun h4 => ?_) (fun h4 => ?_)
    · have h4 : (gl L L.length i.toNat).1 = luV L := by simpa using h4
      rw [h4] at f3
      refine RowI.get (ht.grow hb23).row hi0 (by rw [tab_length]; omega) ?_
      rw [tab_getD _ hlt, f3]
      refine ⟨_, i + 1, by rw [w64_succ hi0 (by omega)], ⟨by omega, by omega, hb23, ?_⟩, by omega⟩
      rw [w64_id (by omega) (by omega), hst]; omega
    · have h4 : (gl L L.length i.toNat).1 ≠ luV L := by simpa using h4
      refine ⟨m, i + 1, by rw [w64_succ hi0 (by omega)], ⟨by omega, by omega, hb23, ?_⟩, by omega⟩
      rw [hst, cn_none hlt f1 (by omega)]; omega
  · rw [impl_CountLongestUp.A8_0_s]
    have e : i.toNat = L.length := by omega
    rw [e] at hm
    refine ⟨?_, hb2.trans (hb.mono hb2.size)⟩
    rw [hm, CountLongestUpV, if_pos h]
    have := upN_count L ((luV L).toNat - 1) 0 L.length 0 (by omega)
    rw [show (luV L).toNat - 1 + 1 = (luV L).toNat by omega] at this
    rw [show (((0 : Nat) : Int)) = 0 from rfl] at this
    rw [this]

/-! ### The first one -/
theorem upN_cons_ne {L : List Int} {m : Nat} {k : Nat} (h : 0 < cn L k m) : upN L m ((k : Int) + 1) (L.getD k 0) ≠ [] := by
  intro e; rw [cn, e] at h; simp at h
open Classical in
noncomputable def FirstLongestUpV (L : List Int) : List Int := if IsP L then ((upN L (luV L).toNat 0 0).head?).getD [] else []
theorem head_len {L : List Int} : ∀ (m : Nat) (p v : Int) (r : List Int), r ∈ upN L m p v → r.length = m
  | 0, p, v, r, h => by simp [upN] at h; subst h; rfl
  | m + 1, p, v, r, h => by
    rw [upN, List.mem_flatMap] at h
    obtain ⟨x, _, hx⟩ := h
    split at hx
    · rw [List.mem_map] at hx
      obtain ⟨r', hr, rfl⟩ := hx
      simp [head_len m _ _ r' hr]
    · simp at hx
theorem upN_ne {L : List Int} (h : IsP L) : upN L (luV L).toNat 0 0 ≠ [] := by
  obtain ⟨hl0, hln, hf, hl1⟩ := lu_facts h
  by_cases hz : luV L = 0
  · rw [hz]; simp [upN]
  · obtain ⟨K, hK⟩ : ∃ K : Nat, luV L = (K : Int) + 1 := ⟨(luV L - 1).toNat, by omega⟩
    rw [hK, show ((K : Int) + 1).toNat = K + 1 by omega]
    intro e
    have hc := upN_count L K 0 L.length 0 (by omega)
    rw [show (((0 : Nat) : Int)) = 0 from rfl, e] at hc
    have h8 := h.1
    rcases mx_mem (f := fun j => (gl L L.length j).1) (n := L.length) with h1 | ⟨k, hk, h1⟩
    · rw [← luV_gl h.2.ne (by omega)] at h1; omega
    · rw [← luV_gl h.2.ne (by omega)] at h1
      obtain ⟨⟨m, hm, hfr, _⟩, _, _⟩ := hf k hk
      have : m = K + 1 := by omega
      subst this
      have hp := isP_pos h (k + 1) (by omega) (by omega)
      rw [show (k : Int) + 1 - 1 = k by omega, Int.toNat_natCast] at hp
      have := (sumUp_pos (P := L) (v := 0) (i := 0) (m := K) (c := L.length)).2 ⟨k, by omega, by omega, hp, (cn_Fr K hk).2 hfr⟩
      rw [← hc] at this
      simp at this
theorem FirstLongestUpV_len (L : List Int) : (FirstLongestUpV L).length < 2^38 := by
  unfold FirstLongestUpV
  split
  · rename_i h
    obtain ⟨hl0, hln, _, _⟩ := lu_facts h
    have h8 := h.1
    cases hh : (upN L (luV L).toNat 0 0).head? with
    | none => simp
    | some r =>
      have := head_len _ _ _ r (List.mem_of_mem_head? hh)
      simp only [Option.getD_some]
      omega
  · simp
theorem c_specFirstLongestUp {w : World} {a : Sl} {L : List Int} (ha : RowI w a L) (hL : L.length < 2^38) :
    Calls PP F.spec_FirstLongestUp #[a.v] w fun e w' => ∃ s : Sl, e = .returned s.v ∧ RowI w' s (FirstLongestUpV L) ∧ Below w.heap.size w w' := by
  refine spec_FirstLongestUp.calls a ?_
  rw [spec_FirstLongestUp.E_s]
  refine Quiet.call1 (s := .bool) (c_specIsPerm ha hL) ?_
  intro w1 hd
  have hb1 : Below w.heap.size w w1 := hd.below _
  refine bif_intro (fun h => ?_) (fun h => ?_)
  · have h : ¬ IsP L := by simpa using h
    refine lit0 oneInt (B := w.heap.size) hb1.size ?_
    intro s w2 hs hg _
    exact ⟨s, rfl, by rw [FirstLongestUpV, if_neg h]; exact hs.row, hb1.grown hg hb1.size (by simp)⟩
  have h : IsP L := by simpa using h
  obtain ⟨hl0, hln, hf, _⟩ := lu_facts h
  have h8 := h.1
  refine (c_l20Up (ha.grow hb1) hL).mono ?_
  rintro e w2 ⟨rfl, hb12⟩
  refine ⟨_, rfl, ?_⟩
  have hb2 := hb1.trans (hb12.mono hb1.size)
  obtain ⟨K, hK⟩ : ∃ K : Nat, luV L = K := ⟨(luV L).toNat, by omega⟩
  rw [hK]
  refine (c_IdentityPerm K (by omega)).mono ?_
  rintro e w3 ⟨q, rfl, hq, hb23⟩
  refine ⟨q, rfl, ?_⟩
  have hb3 := hb2.trans (hb23.mono hb2.size)
  refine lit0 oneInt (B := w3.heap.size) (Nat.le_refl _) ?_
  intro s w4 hs hg4 hc4
  have hb34 := below_of_grow hg4
  refine lit0 oneSint (B := w3.heap.size) hb34.size ?_
  intro t w5 ht hg5 hc5
  have hb35 := hb34.grown hg5 hb34.size (by simp)
  have h88 : 8 ^ K ≤ 8 ^ 8 := Nat.pow_le_pow_right (by omega) (by omega)
  refine (c_l7Find (w0 := w3) (ha.grow hb3) hq.row h.1 (by rw [idn_length]; omega) K w5 s t [] [] [] hb35 (OwnRows.nil ht) (hs.kept hg5 (by simp)) (fun t ht => by simp at ht) (by rw [idn_length]; simp) (Places.nil L) (by simp only [List.length_nil]; omega)).mono ?_
  rintro e w6 ⟨u, rfl, hu, hg6, _⟩
  refine ⟨u, rfl, ?_⟩
  rw [List.nil_append, occ_up_nil (isP_pos h)] at hu
  have hne := upN_ne h
  rw [hK, Int.toNat_natCast] at hne
  refine RowSS.get hu.row (by omega) (by have := List.length_pos_iff.2 hne; omega) fun r hr => ?_
  refine ⟨r, rfl, ?_, (hb3.trans (hb35.mono hb3.size)).grown hg6 (Nat.le_trans hb3.size hb35.size) (fun g hg => Nat.le_trans hb3.size (ht.lt g hg).1)⟩
  rw [FirstLongestUpV, if_pos h, hK, Int.toNat_natCast]
  have e1 : (upN L K 0 0).head?.getD [] = (upN L K 0 0).getD (0 : Int).toNat [] := by
    cases upN L K 0 0 <;> rfl
  rw [e1]; exact hr
theorem c_implFirstLongestUp {w : World} {a : Sl} {L : List Int} (ha : RowI w a L) (hL : L.length < 2^38) :
    Calls PP F.impl_FirstLongestUp #[a.v] w fun e w' => ∃ s : Sl, e = .returned s.v ∧ OwnI w' w.heap.size s (FirstLongestUpV L) ∧ Below w.heap.size w w' := by
  have han : a.n = L.length := by have := ha.n; simpa using this
  refine impl_FirstLongestUp.calls a ?_
  rw [impl_FirstLongestUp.E_s, han]
  refine (c_implIsPerm ha hL).mono ?_
  rintro e w1 ⟨rfl, hb1⟩
  refine ⟨_, rfl, ?_⟩
  refine bif_intro (fun h => ?_) (fun h => ?_)
  · have h : ¬ IsP L := by simpa using h
    exact ⟨Sl.nil, rfl, by rw [FirstLongestUpV, if_neg h]; exact Own.nil _ _ _, hb1⟩
  have h : IsP L := by simpa using h
  obtain ⟨hl0, hln, hf, _⟩ := lu_facts h
  have h8 := h.1
  refine (c_lengths (ha.grow hb1) hL).mono ?_
  rintro e w2 ⟨s, t, rfl, hs, ht, hb12⟩
  refine ⟨s, t, rfl, ?_⟩
  have hb2 := hb1.trans (hb12.mono hb1.size)
  refine lit0 oneInt (B := w2.heap.size) (Nat.le_refl _) ?_
  intro o0 w3 ho0 hg3 _
  have hb23 := below_of_grow hg3
  refine (c_longestUp (ha.grow (hb2.trans (hb23.mono hb2.size))) hL h.2.ne).mono ?_
  rintro e w4 ⟨rfl, hb34⟩
  refine ⟨_, rfl, ?_⟩
  have hb24 := hb23.trans (hb34.mono hb23.size)
  refine impl_FirstLongestUp.L7_rule _ _ _ _ _ _ _ _ _ (I := fun o want last i w' => 0 ≤ i ∧ i ≤ L.length ∧ Below w2.heap.size w2 w' ∧ 0 ≤ want ∧ want ≤ 8 ∧ 0 ≤ last ∧ ∃ M, OwnI w' w2.heap.size o M ∧ M.length ≤ i ∧ upN L want.toNat i last ≠ [] ∧
      (upN L (luV L).toNat 0 0).head? = ((upN L want.toNat i last).head?).map (M ++ ·) ∧ ∀ k : Nat, i ≤ k → k < L.length → last < L.getD k 0 → (gl L L.length k).1 ≤ want) (μ := fun _ _ _ i _ => (L.length - i).toNat)
    ⟨by omega, by omega, hb24, hl0, by omega, by omega, [], ho0.grow hb34, by simp, upN_ne h, by simp, fun k _ hk _ => (hf k hk).2.1⟩ ?_
  rintro o want last i w' ⟨hi0, hi, hb, hw0, hw8, hla, M, ho, hMl, hne, hhead, hall⟩
  rw [impl_FirstLongestUp.B7_s]
  refine bif_dec (fun h3 => ?_) (fun h3 => ?_)
  · have hlt : i.toNat < L.length := by omega
    obtain ⟨f1, f2, f3⟩ := hf i.toNat hlt
    refine RowI.get (ha.grow (hb2.trans (hb.mono hb2.size))) hi0 (by omega) ?_
    -- the place is passed by
    have skip : (0 < want → last < L.getD i.toNat 0 → (gl L L.length i.toNat).1 ≠ want) → upN L want.toNat i last = upN L want.toNat (i + 1) last := fun hc => by
      by_cases hz : want = 0
      · subst hz; rfl
      · obtain ⟨m, rfl⟩ : ∃ m : Nat, want = (m : Int) + 1 := ⟨(want - 1).toNat, by omega⟩
        rw [show ((m : Int) + 1).toNat = m + 1 by omega, upN_split L m last hi0 (by omega)]
        split
        · rename_i hv
          have h1 := hc (by omega) hv
          have h2 := hall i.toNat (by omega) hlt hv
          have h3 := cn_none (m := m) hlt f1 (by omega)
          rw [cn, show ((i.toNat : Nat) : Int) + 1 = i + 1 by omega] at h3
          rw [List.eq_nil_of_length_eq_zero h3]; rfl
        · rfl
    have pass : (0 < want → last < L.getD i.toNat 0 → (gl L L.length i.toNat).1 ≠ want) → ∃ out_5_n want_6_n last_7_n t23_n, impl_FirstLongestUp.emb7 s o want last a (L.length : Int) (w64 (i + 1)) = impl_FirstLongestUp.emb7 s out_5_n want_6_n last_7_n a (L.length : Int) t23_n ∧
        (0 ≤ t23_n ∧ t23_n ≤ L.length ∧ Below w2.heap.size w2 w' ∧ 0 ≤ want_6_n ∧ want_6_n ≤ 8 ∧ 0 ≤ last_7_n ∧ ∃ M, OwnI w' w2.heap.size out_5_n M ∧ M.length ≤ t23_n ∧ upN L want_6_n.toNat t23_n last_7_n ≠ [] ∧
          (upN L (luV L).toNat 0 0).head? = ((upN L want_6_n.toNat t23_n last_7_n).head?).map (M ++ ·) ∧ ∀ k : Nat, t23_n ≤ k → k < L.length → last_7_n < L.getD k 0 → (gl L L.length k).1 ≤ want_6_n) ∧ (L.length - t23_n).toNat < (L.length - i).toNat := by
      intro hc
      have hsk := skip hc
      refine ⟨o, want, last, i + 1, by rw [w64_succ hi0 (by omega)], ⟨by omega, by omega, hb, hw0, hw8, hla, M, ho, by omega, by rw [← hsk]; exact hne, by rw [← hsk]; exact hhead, fun k hk1 hk2 hk3 => hall k (by omega) hk2 hk3⟩, by omega⟩
    refine bif_dec (fun h4 => ?_) (fun h4 => pass fun h => by omega)
    refine RowI.get (hs.grow hb).row hi0 (by rw [tab_length]; omega) ?_
    rw [tab_getD _ hlt]
    refine bif_intro (fun h5 => ?_) (fun h5 => pass fun _ _ => by simpa using h5)
    have h5 : (gl L L.length i.toNat).1 = want := by simpa using h5
    refine bif_dec (fun h6 => ?_) (fun h6 => pass fun _ h => by omega)
    clear pass skip
    rw [w64_succ (n := i) hi0 (by omega)]
    refine append_int ho hb.size (by omega) ?_
    intro o' w5 ho5 hg5 _
    obtain ⟨m, rfl⟩ : ∃ m : Nat, want = (m : Int) + 1 := ⟨(want - 1).toNat, by omega⟩
    obtain ⟨p, hp, hfr, hmax⟩ := id f1
    have hpm : p = m + 1 := by omega
    subst hpm
    have hne2 := upN_cons_ne ((cn_Fr m hlt).2 hfr)
    rw [show ((i.toNat : Nat) : Int) + 1 = i + 1 by omega] at hne2
    refine ⟨o', m, L.getD i.toNat 0, i + 1, by rw [w64_id (n := (m : Int) + 1 - 1) (by omega) (by omega), show (m : Int) + 1 - 1 = m by omega], ⟨by omega, by omega, hb.grown hg5 hb.size (fun g hg => (ho.lt g hg).1), by omega, by omega, by omega, M ++ [i + 1], ho5, by simp; omega, by simpa using hne2, ?_, fun k hk1 hk2 hk3 => ?_⟩, by omega⟩
    · rw [hhead, show ((m : Int) + 1).toNat = m + 1 by omega, upN_split L m last hi0 (by omega), if_pos h6, Int.toNat_natCast]
      cases hu : upN L m (i + 1) (L.getD i.toNat 0) with
      | nil => exact absurd hu hne2
      | cons x r => simp
    · obtain ⟨p2, hp2, hfr2, _⟩ := (hf k hk2).1
      have := hmax (p2 + 1) (.cons (by omega) hk2 hk3 hfr2)
      omega
  · rw [impl_FirstLongestUp.A7_0_s]
    have hi : i = L.length := by omega
    subst hi
    have hw : want = 0 := by
      apply Classical.byContradiction
      intro hz
      obtain ⟨m, rfl⟩ : ∃ m : Nat, want = (m : Int) + 1 := ⟨(want - 1).toNat, by omega⟩
      exact hne (by rw [show ((m : Int) + 1).toNat = m + 1 by omega, upN_end L m last (by omega)])
    subst hw
    refine ⟨o, rfl, ?_, hb2.trans (hb.mono hb2.size)⟩
    rw [FirstLongestUpV, if_pos h, hhead]
    simp only [upN, Int.toNat_zero, List.head?_cons, Option.map_some, List.append_nil, Option.getD_some]
    exact ho.mono hb2.size
end Go.Proofs.Ytdchjhhpbdekeaa

/- The first longest ascent has the length of the longest: plain facts. -/
namespace Go.Proofs.Ytdchjhhpbdekeaa
open Go
set_option maxRecDepth 100000

theorem upN_mem_len {P : List Int} : ∀ (m : Nat) (p v : Int) {l : List Int}, l ∈ upN P m p v → l.length = m
  | 0, p, v, l, h => by simp [upN] at h; subst h; rfl
  | m + 1, p, v, l, h => by
    rw [upN, List.mem_flatMap] at h
    obtain ⟨x, _, h⟩ := h
    split at h
    · obtain ⟨r, hr, rfl⟩ := List.mem_map.1 h
      rw [List.length_cons, upN_mem_len m _ _ hr]
    · cases h
theorem first_len {L : List Int} (h : IsP L) : ((FirstLongestUpV L).length : Int) = LongestUpV L ∧ 1 ≤ CountLongestUpV L := by
  have hne := upN_ne h
  have h0 := (lu_facts h).1
  rw [FirstLongestUpV, if_pos h, LongestUpV, if_pos h, CountLongestUpV, if_pos h]
  cases hu : upN L (luV L).toNat 0 0 with
  | nil => exact absurd hu hne
  | cons a r =>
    have := upN_mem_len (P := L) (luV L).toNat 0 0 (l := a) (by rw [hu]; simp)
    refine ⟨?_, by simp only [List.length_cons]; omega⟩
    show (a.length : Int) = _
    omega
end Go.Proofs.Ytdchjhhpbdekeaa

/- Longest ascents and descents, and the tableau: plain facts. -/
namespace Go.Proofs.Ytdchjhhpbdekeaa
open Go
set_option maxRecDepth 100000

theorem en_take {L : List Int} {j i m : Nat} (h : En (L.take j) i m) : En L i m := by
  have e : ∀ k, k < (L.take j).length → (L.take j).getD k 0 = L.getD k 0 := fun k hk => by
    rw [List.length_take] at hk
    simp only [List.getD_eq_getElem?_getD]
    rw [List.getElem?_take_of_lt (by omega)]
  induction h with
  | one hk => rw [List.length_take] at hk; exact En.one (by omega)
  | @snoc a b m hab hb hlt h1 ih =>
    have h2 := e b hb
    have h3 := e a (by omega)
    rw [List.length_take] at hb
    exact En.snoc hab (by omega) (by rw [← h2, ← h3]; exact hlt) ih
theorem snoc_at {V L : List Int} {x : Int} (h : (V ++ [x]).Sublist L) : ∃ j, j < L.length ∧ L.getD j 0 = x ∧ V.Sublist (L.take j) := by
  obtain ⟨r1, r2, rfl, h1, h2⟩ := List.append_sublist_iff.1 h
  obtain ⟨s, t, rfl⟩ := List.append_of_mem (List.singleton_sublist.1 h2)
  refine ⟨(r1 ++ s).length, by simp, ?_, ?_⟩
  · rw [← List.append_assoc, List.getD_eq_getElem?_getD, List.getElem?_append_right (Nat.le_refl _)]; simp
  · rw [← List.append_assoc, List.take_left']
    · exact h1.trans (List.sublist_append_left ..)
    · rfl
theorem en_of_sub : ∀ (n : Nat) {V L : List Int} {x : Int}, V.length = n → (V ++ [x]).Sublist L → (V ++ [x]).Pairwise (· < ·) → ∃ j, j < L.length ∧ L.getD j 0 = x ∧ En L j (n + 1)
  | 0, V, L, x, hn, h, _ => by
    obtain ⟨j, h1, h2, _⟩ := snoc_at h
    exact ⟨j, h1, h2, En.one h1⟩
  | n + 1, V, L, x, hn, h, hp => by
    obtain ⟨j, h1, h2, h3⟩ := snoc_at h
    obtain ⟨V', y, rfl⟩ : ∃ V' y, V = V' ++ [y] := ⟨V.dropLast, V.getLast (by intro e; rw [e] at hn; simp at hn), (List.dropLast_concat_getLast _).symm⟩
    have hp2 := List.pairwise_append.1 hp
    obtain ⟨i, h4, h5, h6⟩ := en_of_sub n (V := V') (x := y) (by simpa using hn) h3 hp2.1
    have h7 := en_take h6
    rw [List.length_take] at h4
    refine ⟨j, h1, h2, En.snoc (i := i) (by omega) h1 ?_ h7⟩
    have : (L.take j).getD i 0 = L.getD i 0 := by
      simp only [List.getD_eq_getElem?_getD]
      rw [List.getElem?_take_of_lt (by omega)]
    rw [← this, h5, h2]
    exact hp2.2.2 y (by simp) x (by simp)
/-- No ascent is longer. -/
theorem lu_ge {L V : List Int} (hl : L.length < 2^38) (h : V.Sublist L) (hp : V.Pairwise (· < ·)) : (V.length : Int) ≤ luV L := by
  rcases Nat.eq_zero_or_pos V.length with h0 | h0
  · have := mx_nonneg (f := enT L L.length) (n := L.length); unfold luV; omega
  · obtain ⟨V', y, rfl⟩ : ∃ V' y, V = V' ++ [y] := ⟨V.dropLast, V.getLast (by intro e; rw [e] at h0; simp at h0), (List.dropLast_concat_getLast _).symm⟩
    obtain ⟨j, h1, _, h3⟩ := en_of_sub V'.length rfl h hp
    obtain ⟨m, h4, _, h6⟩ := enT_spec hl L.length (Nat.le_refl _) j h1
    have h6 := h6 _ h3
    have h5 := mx_ge (f := enT L L.length) h1
    unfold luV
    simp
    omega
/-- One is as long. -/
theorem lu_ex {L : List Int} (hl : L.length < 2^38) : ∃ V : List Int, V.Sublist L ∧ V.Pairwise (· < ·) ∧ (V.length : Int) = luV L := by
  unfold luV
  rcases mx_mem (f := enT L L.length) (n := L.length) with h | ⟨j, hj, he⟩
  · exact ⟨[], by simp, List.Pairwise.nil, by rw [h]; rfl⟩
  · obtain ⟨m, h2, h1, _⟩ := enT_spec hl L.length (Nat.le_refl _) j hj
    have hw : wd (L.map fun x => (x, 1)) = L := by simp [wd, Function.comp_def]
    obtain ⟨V, h3, h4, h5, _⟩ := chain_cols (R := L.map fun x => (x, 1)) (by rw [hw]; exact h1)
    refine ⟨wd V, ?_, ?_, ?_⟩
    · have := (h3.trans (List.take_sublist _ _)).map (·.1)
      rw [← hw]; exact this
    · rw [wd, List.pairwise_map]; exact h5
    · rw [he, h2]; simp [wd, h4]
theorem mark_sub {V L : List Int} (h : V.Sublist L) : ∃ W : List (Int × Nat), wd W = L ∧ colored W = V.map (fun x => (x, 1)) ∧ ∀ x ∈ W, x.2 ≤ 1 := by
  induction h with
  | slnil => exact ⟨[], rfl, rfl, by simp⟩
  | @cons l1 l2 a _ ih =>
    obtain ⟨W, h1, h2, h3⟩ := ih
    refine ⟨(a, 0) :: W, by rw [← h1]; rfl, by rw [← h2]; simp [colored], fun x hx => ?_⟩
    rcases List.mem_cons.1 hx with rfl | hx
    · simp
    · exact h3 x hx
  | @cons_cons l1 l2 a _ ih =>
    obtain ⟨W, h1, h2, h3⟩ := ih
    refine ⟨(a, 1) :: W, by rw [← h1]; rfl, by rw [List.map_cons, ← h2]; simp [colored], fun x hx => ?_⟩
    rcases List.mem_cons.1 hx with rfl | hx
    · simp
    · exact h3 x hx
theorem cnt_colored (W : List (Int × Nat)) : cnt W = (colored W).length := rfl
/-- The first row is as long as the longest ascent. -/
theorem first_row {L : List Int} (hn : L.Nodup) (hl : L.length < 2^38) : (tots ((insP L).take 1) : Int) = luV L := by
  obtain ⟨⟨W, h1, h2, h3, h4⟩, g2⟩ := greene hn 1
  have hW : ∀ x ∈ colored W, x.2 = 1 := fun x hx => by
    have h5 := List.mem_filter.1 hx
    have h6 := h3 x h5.1
    have h7 := of_decide_eq_true h5.2
    omega
  have hle : (tots ((insP L).take 1) : Int) ≤ luV L := by
    have hs : (wd (colored W)).Sublist L := by rw [← h1]; exact (List.filter_sublist).map _
    have hp : (wd (colored W)).Pairwise (· < ·) := by
      rw [wd, List.pairwise_map]
      exact (asc_colored.2 h2).imp_of_mem fun {a b} ha hb hab => hab (by rw [hW a ha, hW b hb]) (by rw [hW a ha]; decide)
    have := lu_ge hl hs hp
    rw [← h4, cnt_colored]
    simpa [wd] using this
  obtain ⟨V, k1, k2, k3⟩ := lu_ex hl
  obtain ⟨U, u1, u2, u3⟩ := mark_sub k1
  have hr : Reach 1 L V.length := ⟨U, u1, asc_colored.1 (by
    rw [u2, AscW, List.pairwise_map]
    exact k2.imp fun {a b} hab _ _ => hab), u3, by rw [cnt_colored, u2, List.length_map]⟩
  have := g2 _ hr
  omega
theorem tots_flat : ∀ T : List (List Int), tots T = T.flatten.length
  | [] => rfl
  | R :: T => by rw [tots_cons, tots_flat T, List.flatten_cons, List.length_append]
theorem tots_pos : ∀ {T : List (List Int)}, Tab T → ∀ k, k < T.length → tots (T.take k) < tots T
  | [], _, k, hk => by simp at hk
  | R :: T, h, 0, _ => by
    have := List.length_pos_iff.2 h.1
    rw [List.take_zero, tots_cons]; simp [tots]; omega
  | R :: T, h, k + 1, hk => by
    have := tots_pos h.tail k (by simpa using hk)
    rw [List.take_succ_cons, tots_cons, tots_cons]; omega
/-- There are as many rows as the longest descent has members. -/
theorem row_count {L : List Int} (hn : L.Nodup) (hl : L.length < 2^38) : ((insP L).length : Int) = luV L.reverse := by
  obtain ⟨ht, hp, hk⟩ := insP_all hn
  have htot : tots (insP L) = L.length := by rw [tots_flat, hp.length_eq]
  have h0 : 0 ≤ luV L.reverse := mx_nonneg
  obtain ⟨d, hd⟩ : ∃ d : Nat, luV L.reverse = d := ⟨(luV L.reverse).toNat, by omega⟩
  have hle1 : (insP L).length ≤ d := by
    obtain ⟨W, h1, h2, h3⟩ := cols_of hn hl (k := d) (by omega)
    have hc : cnt W = L.length := by
      rw [cnt_colored, colored, List.filter_eq_self.2 (fun x hx => decide_eq_true (h3 x hx).1), ← h1]; simp [wd]
    have := (greene hn d).2 _ ⟨W, h1, h2, fun x hx => (h3 x hx).2, hc⟩
    rcases Nat.lt_or_ge d (insP L).length with h5 | h5
    · have := tots_pos ht d h5; omega
    · exact h5
  have hle2 : d ≤ (insP L).length := by
    obtain ⟨W, h1, h2, h3, h4⟩ := (greene hn (insP L).length).1
    rw [List.take_length, htot] at h4
    have hall : ∀ x ∈ W, x.2 ≠ 0 ∧ x.2 ≤ (insP L).length := fun x hx => by
      refine ⟨?_, h3 x hx⟩
      have hWl : W.length = L.length := by rw [← h1]; simp [wd]
      have h5 : (W.filter fun x => decide (x.2 ≠ 0)).length = W.length := by rw [hWl]; exact h4
      have h6 := List.length_filter_eq_length_iff.1 h5 x hx
      exact of_decide_eq_true h6
    have := few_cols h2 hall (by have : W.length = L.length := by rw [← h1]; simp [wd]
                                 omega)
    rw [h1] at this
    omega
  omega
theorem tots_le_mul : ∀ {T : List (List Int)} {m : Nat}, (∀ R ∈ T, R.length ≤ m) → tots T ≤ T.length * m
  | [], m, _ => by simp [tots]
  | R :: T, m, h => by
    have h1 := h R (by simp)
    have h2 := tots_le_mul (T := T) (m := m) fun S hS => h S (by simp [hS])
    rw [tots_cons, List.length_cons, Nat.succ_mul]; omega
/-- A long list has a long ascent or a long descent. -/
theorem long_run {L : List Int} (hn : L.Nodup) (hl : L.length < 2^38) {a b : Nat} (h : a * b < L.length) : (a : Int) < luV L ∨ (b : Int) < luV L.reverse := by
  obtain ⟨ht, hp, hk⟩ := insP_all hn
  have htot : tots (insP L) = L.length := by rw [tots_flat, hp.length_eq]
  have h1 := first_row hn hl
  have h2 := row_count hn hl
  refine Classical.byContradiction fun hno => ?_
  have h3 : tots (insP L) ≤ (insP L).length * a := by
    refine tots_le_mul fun R hR => ?_
    cases hT : insP L with
    | nil => rw [hT] at hR; cases hR
    | cons R0 T =>
      rw [hT] at hR h1
      have hu := (hT ▸ ht : Tab (R0 :: T)).under
      have h4 : R.length ≤ R0.length := by
        rcases List.mem_cons.1 hR with rfl | hR
        · exact Nat.le_refl _
        · exact ((List.pairwise_cons.1 hu).1 R hR).1
      simp [tots] at h1
      omega
  have h4 : (insP L).length ≤ b := by omega
  have := Nat.mul_le_mul_right a h4
  rw [Nat.mul_comm b a] at this
  omega
end Go.Proofs.Ytdchjhhpbdekeaa

/- What each function does, step by step, written by a program (Gen.lean); each equation is checked by the kernel. -/
namespace Go.Proofs.Ytdchjhhpbdekeaa
open Go
set_option linter.unusedVariables false
set_option maxRecDepth 100000
namespace slices_Reverse___int_int_
@[reducible] def cfg : Cfg := ⟨28, [(1, [0, 2, 3])], [(1, [0, 2, 3]), (0, [])], [], [], [], [101, 107, 112, 15, 21, 124, 76, 137, 28, 115, 91, 81, 130], [138, 140, 82, 6, 86, 85, 132]⟩
def q0 (pr : Prims) (R : Ending → World → Prop) : Exit → Env → World → Prop := fun ex e w => blockQ ex 0 (retQ Try.f120.results.toList R) e w
def emb1 (s_0 : Sl) (i_2 : Int) (j_3 : Int) : Env := [(0, Sl.v s_0), (2, vI i_2), (3, vI j_3)]
def x0 : Env := []
def S1 (pr : Prims) (Q : Exit → Env → World → Prop) : (Env → World → Prop) → Env → World → Prop := fun k e w => wpC pr PP cfg (DD pr) (sub (codeOf Try.f120) [1, 0, 0]) (fun ex e w => normQ ex (fun e' w' => k (Env.restr e' (lookN cfg.loops (keyOf (sub (codeOf Try.f120) [1, 0, 0])))) w') Q e w) e w
def B1 (pr : Prims) (s_0 : Sl) (i_2 : Int) (j_3 : Int) (w : World) (k : Env → World → Prop) (Q : Exit → Env → World → Prop) : Prop :=
  S1 pr Q k (emb1 s_0 i_2 j_3) w
def L1 (pr : Prims) (s_0 : Sl) (i_2 : Int) (j_3 : Int) (w : World) (Q : Exit → Env → World → Prop) : Prop :=
  pr.loop (S1 pr Q) (emb1 s_0 i_2 j_3) w
def E (pr : Prims) (s_0 : Sl) (w : World) (R : Ending → World → Prop) : Prop :=
  wpC pr PP cfg (DD pr) (codeOf Try.f120) (retQ Try.f120.results.toList R) (argE 0 [Sl.v s_0]) w
theorem B1_eq (pr : Prims) (s_0 : Sl) (i_2 : Int) (j_3 : Int) (w : World) (k : Env → World → Prop) (Q : Exit → Env → World → Prop) : B1 pr s_0 i_2 j_3 w k Q = (
  bif decide (i_2 < j_3) then (
  pr.drewAll w fun ω1 =>
  pr.idxK 1 s_0 j_3 fun (a2 : Addr) =>
  pr.idxK 1 s_0 i_2 fun (a3 : Addr) =>
  (pr.load1 (.int .i64) a2 ω1 fun (ξ4 : Int) =>
  pr.load1 (.int .i64) a3 ω1 fun (ξ5 : Int) =>
  pr.idxK 1 s_0 i_2 fun (a6 : Addr) =>
  pr.storeC a6 (vI ξ4) ω1 fun ω7 =>
  pr.idxK 1 s_0 j_3 fun (a8 : Addr) =>
  pr.storeC a8 (vI ξ5) ω7 fun ω9 =>
  k (emb1 s_0 (w64 (i_2 + 1)) (w64 (j_3 - 1))) ω9) ∧
  (pr.load1 (.int .i64) a3 ω1 fun (ξ10 : Int) =>
  pr.load1 (.int .i64) a2 ω1 fun (ξ11 : Int) =>
  pr.idxK 1 s_0 i_2 fun (a12 : Addr) =>
  pr.storeC a12 (vI ξ11) ω1 fun ω13 =>
  pr.idxK 1 s_0 j_3 fun (a14 : Addr) =>
  pr.storeC a14 (vI ξ10) ω13 fun ω15 =>
  k (emb1 s_0 (w64 (i_2 + 1)) (w64 (j_3 - 1))) ω15))
  else (
  Q (.exit 0) (x0) w)) := by kernel_rfl
theorem B1_s (s_0 : Sl) (i_2 : Int) (j_3 : Int) (w : World) (k : Env → World → Prop) (Q : Exit → Env → World → Prop) : B1 std s_0 i_2 j_3 w k Q = (
  bif decide (i_2 < j_3) then (
  drewAll w fun ω1 =>
  idxK 1 s_0 j_3 fun (a2 : Addr) =>
  idxK 1 s_0 i_2 fun (a3 : Addr) =>
  (load1 (.int .i64) a2 ω1 fun (ξ4 : Int) =>
  load1 (.int .i64) a3 ω1 fun (ξ5 : Int) =>
  idxK 1 s_0 i_2 fun (a6 : Addr) =>
  storeC a6 (vI ξ4) ω1 fun ω7 =>
  idxK 1 s_0 j_3 fun (a8 : Addr) =>
  storeC a8 (vI ξ5) ω7 fun ω9 =>
  k (emb1 s_0 (w64 (i_2 + 1)) (w64 (j_3 - 1))) ω9) ∧
  (load1 (.int .i64) a3 ω1 fun (ξ10 : Int) =>
  load1 (.int .i64) a2 ω1 fun (ξ11 : Int) =>
  idxK 1 s_0 i_2 fun (a12 : Addr) =>
  storeC a12 (vI ξ11) ω1 fun ω13 =>
  idxK 1 s_0 j_3 fun (a14 : Addr) =>
  storeC a14 (vI ξ10) ω13 fun ω15 =>
  k (emb1 s_0 (w64 (i_2 + 1)) (w64 (j_3 - 1))) ω15))
  else (
  Q (.exit 0) (x0) w)) := B1_eq std s_0 i_2 j_3 w k Q
theorem L1_rule (s_0 : Sl) (i_2 : Int) (j_3 : Int) (w : World) (Q : Exit → Env → World → Prop) (I : Int → Int → World → Prop) (μ : Int → Int → World → Nat) (h0 : I i_2 j_3 w)
    (h : ∀ (i_2 : Int) (j_3 : Int) (w' : World), I i_2 j_3 w' → B1 std s_0 i_2 j_3 w' (fun e2 w2 => ∃ i_2_n j_3_n, e2 = emb1 s_0 i_2_n j_3_n ∧ I i_2_n j_3_n w2 ∧ μ i_2_n j_3_n w2 < μ i_2 j_3 w') Q) :
    L1 std s_0 i_2 j_3 w Q := by
  unfold L1
  refine LoopE.intro (σ := Int × Int) (step := S1 std Q) (fun s => emb1 s_0 s.1 s.2) (fun s w => I s.1 s.2 w) (fun s w => μ s.1 s.2 w) (i_2, j_3) rfl h0 ?_
  intro s w' hI
  have h1 := h s.1 s.2 w' hI
  unfold B1 at h1
  simp only [Prod.exists]
  exact h1
theorem A1_0_eq (pr : Prims) (w : World) (R : Ending → World → Prop) : (q0 pr R) (.exit 0) (x0) w = (
  R (.returned (.tuple #[])) w) := by kernel_rfl
theorem A1_0_s (w : World) (R : Ending → World → Prop) : (q0 std R) (.exit 0) (x0) w = (
  R (.returned (.tuple #[])) w) := A1_0_eq std w R
theorem E_eq (pr : Prims) (s_0 : Sl) (w : World) (R : Ending → World → Prop) : E pr s_0 w R = (
  L1 pr s_0 0 (w64 ((s_0.n : Int) - 1)) w (q0 pr R)) := by kernel_rfl
theorem E_s (s_0 : Sl) (w : World) (R : Ending → World → Prop) : E std s_0 w R = (
  L1 std s_0 0 (w64 ((s_0.n : Int) - 1)) w (q0 std R)) := E_eq std s_0 w R
theorem drawsOk : drawsOk PP cfg okD (codeOf Try.f120) = true := by kernel_rfl
theorem calls (s_0 : Sl) {w : World} {R : Ending → World → Prop} (h : E std s_0 w R) : Calls PP F.slices_Reverse___int_int_ #[Sl.v s_0] w R :=
  calls_of noCount mixed drawOk Try.func120 rfl (c := cfg) (args := [Sl.v s_0]) rfl (Nat.le_of_ble_eq_true (by kernel_rfl)) drawsOk h
end slices_Reverse___int_int_

end Go.Proofs.Ytdchjhhpbdekeaa

/- The library's Reverse over rows of ints. -/
namespace Go.Proofs.Ytdchjhhpbdekeaa
open Go Go.RowKit
set_option maxRecDepth 100000

def rv (L : List Int) (i : Nat) (k : Nat) : Int := if k < i ∨ L.length ≤ k + i then L.getD (L.length - 1 - k) 0 else L.getD k 0

theorem c_Reverse {w : World} {B : Nat} {a : Sl} {L : List Int} (ha : OwnI w B a L) (hL : L.length < 2^38) :
    Calls PP F.slices_Reverse___int_int_ #[a.v] w fun e w' => e = .returned (.tuple #[]) ∧ OwnI w' B a L.reverse ∧ w.grownBy w' a.blk ∧ w'.heap.size = w.heap.size := by
  have han : a.n = L.length := by have := ha.n; simpa using this
  refine slices_Reverse___int_int_.calls a ?_
  rw [slices_Reverse___int_int_.E_s]
  rw [han, w64_id (by omega) (by omega)]
  refine slices_Reverse___int_int_.L1_rule _ _ _ _ _ (I := fun i j w' => 0 ≤ i ∧ j = L.length - 1 - i ∧ i ≤ j + 2 ∧ OwnI w' B a (tab L.length (rv L i.toNat)) ∧ w.grownBy w' a.blk ∧ w'.heap.size = w.heap.size) (μ := fun i _ _ => (L.length - i).toNat)
    ⟨by omega, by omega, by omega, ?_, grownBy_refl _ _, rfl⟩ ?_
  · rw [tab_congr (g := fun k => L.getD k 0) (fun k hk => by simp only [rv]; rw [if_neg (by omega)]), tab_self]; exact ha
  rintro i j w' ⟨h0, hj, hij, ho, hg, hsz⟩
  rw [slices_Reverse___int_int_.B1_s]
  refine bif_dec (fun h3 => ?_) (fun h3 => ?_)
  · obtain ⟨i, rfl⟩ : ∃ m : Nat, i = m := ⟨i.toNat, by omega⟩
    obtain ⟨j, rfl⟩ : ∃ m : Nat, j = m := ⟨j.toNat, by omega⟩
    simp only [Int.toNat_natCast] at ho
    refine drew_intro fun w1 hd => ?_
    have ho1 : OwnI w1 B a (tab L.length (rv L i)) := ho.heap hd.heap'
    have ei : (tab L.length (rv L i)).getD (i : Int).toNat 0 = L.getD i 0 := by rw [Int.toNat_natCast, tab_getD _ (by omega), rv, if_neg (by omega)]
    have ej : (tab L.length (rv L i)).getD (j : Int).toNat 0 = L.getD j 0 := by rw [Int.toNat_natCast, tab_getD _ (by omega), rv, if_neg (by omega)]
    refine RowI.place ho1.row (by omega) (by rw [tab_length]; omega) fun a2 ha2 => ?_
    refine RowI.place ho1.row (by omega) (by rw [tab_length]; omega) fun a3 ha3 => ?_
    rw [ej] at ha2
    rw [ei] at ha3
    have fin : idxK 1 a (i : Int) fun a6 => storeC a6 (vI (L.getD j 0)) w1 fun w2 => idxK 1 a (j : Int) fun a8 => storeC a8 (vI (L.getD i 0)) w2 fun w3 =>
        ∃ i_2_n j_3_n, slices_Reverse___int_int_.emb1 a (w64 ((i : Int) + 1)) (w64 ((j : Int) - 1)) = slices_Reverse___int_int_.emb1 a i_2_n j_3_n ∧
        (0 ≤ i_2_n ∧ j_3_n = L.length - 1 - i_2_n ∧ i_2_n ≤ j_3_n + 2 ∧ OwnI w3 B a (tab L.length (rv L i_2_n.toNat)) ∧ w.grownBy w3 a.blk ∧ w3.heap.size = w.heap.size) ∧ (L.length - i_2_n).toNat < (L.length - (i : Int)).toNat := by
      refine Own.put ho1 (by omega) (by simp [tab_length]; omega) ?_
      intro w2 ho2 hg2 hs2
      refine Own.put ho2 (by omega) (by simp [tab_length]; omega) ?_
      intro w3 ho3 hg3 hs3
      refine ⟨(i : Int) + 1, (j : Int) - 1, by rw [w64_succ (by omega) (by omega), w64_id (n := (j : Int) - 1) (by omega) (by omega)], ⟨by omega, by omega, by omega, ?_, grownBy_trans (grownBy_trans (grownBy_trans hg (hd.grownBy _)) hg2) hg3, ?_⟩, by omega⟩
      · have e1 : (((tab L.length (rv L i)).map vI).set (i : Int).toNat (vI (L.getD j 0))).set (j : Int).toNat (vI (L.getD i 0)) = (tab L.length (rv L (i + 1))).map vI := by
          rw [Int.toNat_natCast, Int.toNat_natCast, ← List.map_set, ← List.map_set, tab_set, tab_set]
          congr 1
          apply tab_congr
          intro k hk
          simp only [rv]
          by_cases hkj : k = j
          · subst hkj
            rw [if_pos rfl, if_pos (by omega)]
            congr 1; omega
          · rw [if_neg hkj]
            by_cases hki : k = i
            · subst hki
              rw [if_pos rfl, if_pos (by omega)]
              congr 1; omega
            · rw [if_neg hki]
              by_cases h5 : k < i ∨ L.length ≤ k + i
              · rw [if_pos h5, if_pos (by omega)]
              · rw [if_neg h5, if_neg (by omega)]
        rw [e1] at ho3
        rw [show ((i : Int) + 1).toNat = i + 1 by omega]
        exact ho3
      · have := hd.heap'
        rw [hs3, hs2, this, hsz]
    exact ⟨load_int ha2 (load_int ha3 fin), load_int ha3 (load_int ha2 fin)⟩
  · rw [slices_Reverse___int_int_.A1_0_s]
    refine ⟨rfl, ?_, hg, hsz⟩
    rw [tab_congr (g := fun k => L.getD (L.length - 1 - k) 0) (fun k hk => by
      simp only [rv]
      by_cases h5 : k < i.toNat ∨ L.length ≤ k + i.toNat
      · rw [if_pos h5]
      · rw [if_neg h5]; congr 1; omega), tab_reverse] at ho
    exact ho
end Go.Proofs.Ytdchjhhpbdekeaa

/- The library's Reverse and Clone over rows of ints. -/

/- The longest descending pattern and HasLongRun: both texts, and the laws. -/
namespace Go.Proofs.Ytdchjhhpbdekeaa
open Go Go.RowKit
set_option maxRecDepth 100000

theorem c_reverse {w : World} {a : Sl} {L : List Int} (ha : RowI w a L) (hL : L.length < 2^38) :
    Calls PP F.impl_reverse #[a.v] w fun e w' => ∃ s : Sl, e = .returned s.v ∧ OwnI w' w.heap.size s L.reverse ∧ Below w.heap.size w w' := by
  refine impl_reverse.calls a ?_
  rw [impl_reverse.E_s]
  refine (c_Clone ha hL).mono ?_
  rintro e w1 ⟨s, rfl, hs, hb⟩
  refine ⟨s, rfl, ?_⟩
  refine (c_Reverse hs hL).mono ?_
  rintro e w2 ⟨rfl, hs2, hg, _⟩
  exact ⟨rfl, s, rfl, hs2, hb.grown hg hb.size (fun g hg => (hs.lt g hg).1)⟩

open Classical in
noncomputable def LongestDownV (L : List Int) : Int := if IsP L then luV L.reverse else -1
theorem c_implLongestDown {w : World} {a : Sl} {L : List Int} (ha : RowI w a L) (hL : L.length < 2^38) :
    Calls PP F.impl_LongestDown #[a.v] w fun e w' => e = .returned (vI (LongestDownV L)) ∧ Below w.heap.size w w' := by
  refine impl_LongestDown.calls a ?_
  rw [impl_LongestDown.E_s]
  refine (c_implIsPerm ha hL).mono ?_
  rintro e w1 ⟨rfl, hb⟩
  refine ⟨_, rfl, ?_⟩
  refine bif_intro (fun h => ?_) (fun h => ?_)
  · have h : ¬ IsP L := by simpa using h
    exact ⟨by rw [LongestDownV, if_neg h], hb⟩
  · have h : IsP L := by simpa using h
    refine (c_reverse (ha.grow hb) hL).mono ?_
    rintro e w2 ⟨s, rfl, hs, hb2⟩
    refine ⟨s, rfl, ?_⟩
    have hb12 := hb.trans (hb2.mono hb.size)
    refine (c_longestUp hs.row (by simpa using hL) (rev_ne h.2.ne)).mono ?_
    rintro e w3 ⟨rfl, hb3⟩
    exact ⟨_, rfl, by rw [LongestDownV, if_pos h], hb12.trans (hb3.mono hb12.size)⟩
theorem c_specLongestDown {w : World} {a : Sl} {L : List Int} (ha : RowI w a L) (hL : L.length < 2^38) :
    Calls PP F.spec_LongestDown #[a.v] w fun e w' => e = .returned (vI (LongestDownV L)) ∧ Below w.heap.size w w' := by
  refine spec_LongestDown.calls a ?_
  rw [spec_LongestDown.E_s]
  refine Quiet.call1 (s := .bool) (c_specIsPerm ha hL) ?_
  intro w1 hd
  have hb : Below w.heap.size w w1 := hd.below _
  refine bif_intro (fun h => ?_) (fun h => ?_)
  · have h : ¬ IsP L := by simpa using h
    exact ⟨by rw [LongestDownV, if_neg h], hb⟩
  · have h : IsP L := by simpa using h
    refine (c_l3Reverse (ha.grow hb) hL).mono ?_
    rintro e w2 ⟨s, rfl, hs, hb2⟩
    refine ⟨s, rfl, ?_⟩
    have hb12 := hb.trans (hb2.mono hb.size)
    refine (c_l20Up hs.row (by simpa using hL)).mono ?_
    rintro e w3 ⟨rfl, hb3⟩
    exact ⟨_, rfl, by rw [LongestDownV, if_pos h], hb12.trans (hb3.mono hb12.size)⟩

open Classical in
noncomputable def HasLongRunV (L : List Int) (k m : Int) : Bool := decide (IsP L) && (decide (luV L > k) || decide (luV L.reverse > m))
theorem c_implHasLongRun {w : World} {a : Sl} {L : List Int} (ha : RowI w a L) (hL : L.length < 2^38) (k m : Int) :
    Calls PP F.impl_HasLongRun #[a.v, vI k, vI m] w fun e w' => e = .returned (.bool (HasLongRunV L k m)) ∧ Below w.heap.size w w' := by
  refine impl_HasLongRun.calls a k m ?_
  rw [impl_HasLongRun.E_s]
  refine (c_implIsPerm ha hL).mono ?_
  rintro e w1 ⟨rfl, hb⟩
  refine ⟨_, rfl, ?_⟩
  refine bif_intro (fun h => ?_) (fun h => ?_)
  · have h : IsP L := by simpa using h
    refine (c_longestUp (ha.grow hb) hL h.2.ne).mono ?_
    rintro e w2 ⟨rfl, hb2⟩
    have hb12 := hb.trans (hb2.mono hb.size)
    refine ⟨_, rfl, ?_⟩
    refine bif_dec (fun h2 => ⟨by simp [HasLongRunV, h, h2], hb12⟩) (fun h2 => ?_)
    refine (c_reverse (ha.grow hb12) hL).mono ?_
    rintro e w3 ⟨s, rfl, hs, hb3⟩
    refine ⟨s, rfl, ?_⟩
    have hb13 := hb12.trans (hb3.mono hb12.size)
    refine (c_longestUp hs.row (by simpa using hL) (rev_ne h.2.ne)).mono ?_
    rintro e w4 ⟨rfl, hb4⟩
    exact ⟨_, rfl, by simp [HasLongRunV, h, h2], hb13.trans (hb4.mono hb13.size)⟩
  · have h : ¬ IsP L := by simpa using h
    exact ⟨by simp [HasLongRunV, h], hb⟩
theorem c_specHasLongRun {w : World} {a : Sl} {L : List Int} (ha : RowI w a L) (hL : L.length < 2^38) (k m : Int) :
    Calls PP F.spec_HasLongRun #[a.v, vI k, vI m] w fun e w' => e = .returned (.bool (HasLongRunV L k m)) ∧ Below w.heap.size w w' := by
  refine spec_HasLongRun.calls a k m ?_
  rw [spec_HasLongRun.E_s]
  refine Quiet.call1 (s := .bool) (c_specIsPerm ha hL) ?_
  intro w1 hd
  have hb : Below w.heap.size w w1 := hd.below _
  refine bif_intro (fun h => ?_) (fun h => ?_)
  · have h : IsP L := by simpa using h
    refine (c_l20Up (ha.grow hb) hL).mono ?_
    rintro e w2 ⟨rfl, hb2⟩
    have hb12 := hb.trans (hb2.mono hb.size)
    refine ⟨_, rfl, ?_⟩
    refine bif_dec (fun h2 => ⟨by simp [HasLongRunV, h, h2], hb12⟩) (fun h2 => ?_)
    refine (c_l3Reverse (ha.grow hb12) hL).mono ?_
    rintro e w3 ⟨s, rfl, hs, hb3⟩
    refine ⟨s, rfl, ?_⟩
    have hb13 := hb12.trans (hb3.mono hb12.size)
    refine (c_l20Up hs.row (by simpa using hL)).mono ?_
    rintro e w4 ⟨rfl, hb4⟩
    exact ⟨_, rfl, by simp [HasLongRunV, h, h2], hb13.trans (hb4.mono hb13.size)⟩
  · have h : ¬ IsP L := by simpa using h
    exact ⟨by simp [HasLongRunV, h], hb⟩

end Go.Proofs.Ytdchjhhpbdekeaa

/- What each function does, step by step, written by a program (Gen.lean); each equation is checked by the kernel. -/
namespace Go.Proofs.Ytdchjhhpbdekeaa
open Go
set_option linter.unusedVariables false
set_option maxRecDepth 100000
namespace spec_l19Put
@[reducible] def cfg : Cfg := ⟨76, [(5, [0, 1, 6, 7]), (2, [0, 1, 6])], [(3, [0, 1, 6, 7]), (2, [0, 1, 6, 7]), (1, [0, 1, 6]), (0, [0, 1])], [], [4, 5], [], [101, 107, 112, 15, 21, 124, 76, 137, 28, 115, 91, 81, 130], [138, 140, 82, 6, 86, 85, 132]⟩
def q0 (pr : Prims) (R : Ending → World → Prop) : Exit → Env → World → Prop := fun ex e w => normQ ex (fun e w => contE pr cfg (sub (codeOf Try.f133) [1, 1]) (fun e w => wpC pr PP cfg (DD pr) (sub (codeOf Try.f133) [1, 1]) (retQ Try.f133.results.toList R) e w) e w) (retQ Try.f133.results.toList R) e w
def q1 (pr : Prims) (R : Ending → World → Prop) : Exit → Env → World → Prop := fun ex e w => blockQ ex 0 (q0 pr R) e w
def q2 (pr : Prims) (k : Env → World → Prop) (Q : Exit → Env → World → Prop) : Exit → Env → World → Prop := fun ex e w => normQ ex (fun e w => contE pr cfg (sub (codeOf Try.f133) [1, 0, 1, 0, 0, 1, 1]) (fun e w => wpC pr PP cfg (DD pr) (sub (codeOf Try.f133) [1, 0, 1, 0, 0, 1, 1]) (fun ex e w => normQ ex (fun e' w' => k (Env.restr e' (lookN cfg.loops (keyOf (sub (codeOf Try.f133) [1, 0, 1, 0, 0])))) w') Q e w) e w) e w) (fun ex e w => normQ ex (fun e' w' => k (Env.restr e' (lookN cfg.loops (keyOf (sub (codeOf Try.f133) [1, 0, 1, 0, 0])))) w') Q e w) e w
def q3 (pr : Prims) (k : Env → World → Prop) (Q : Exit → Env → World → Prop) : Exit → Env → World → Prop := fun ex e w => blockQ ex 1 (q2 pr k Q) e w
def q4 (pr : Prims) (k : Env → World → Prop) (Q : Exit → Env → World → Prop) : Exit → Env → World → Prop := fun ex e w => normQ ex (fun e w => contE pr cfg (sub (codeOf Try.f133) [1, 0, 1, 0, 0, 1, 0, 0, 1, 1]) (fun e w => wpC pr PP cfg (DD pr) (sub (codeOf Try.f133) [1, 0, 1, 0, 0, 1, 0, 0, 1, 1]) (q3 pr k Q) e w) e w) (q3 pr k Q) e w
def q5 (pr : Prims) (k : Env → World → Prop) (Q : Exit → Env → World → Prop) : Exit → Env → World → Prop := fun ex e w => blockQ ex 2 (q4 pr k Q) e w
def emb2 (t_0 : Sl) (n_1 : Int) (r_6 : Int) : Env := [(0, Sl.v t_0), (1, vI n_1), (6, vI r_6)]
def emb5 (t_0 : Sl) (n_1 : Int) (r_6 : Int) (c_7 : Int) : Env := [(0, Sl.v t_0), (1, vI n_1), (6, vI r_6), (7, vI c_7)]
def x2 (t_0 : Sl) (n_1 : Int) (r_6 : Int) (c_7 : Int) : Env := [(0, Sl.v t_0), (1, vI n_1), (6, vI r_6), (7, vI c_7)]
def x0 (t_0 : Sl) (n_1 : Int) : Env := [(0, Sl.v t_0), (1, vI n_1)]
def S5 (pr : Prims) (Q : Exit → Env → World → Prop) : (Env → World → Prop) → Env → World → Prop := fun k e w => wpC pr PP cfg (DD pr) (sub (codeOf Try.f133) [1, 0, 1, 0, 0, 1, 0, 0, 1, 0, 0, 0]) (fun ex e w => normQ ex (fun e' w' => k (Env.restr e' (lookN cfg.loops (keyOf (sub (codeOf Try.f133) [1, 0, 1, 0, 0, 1, 0, 0, 1, 0, 0, 0])))) w') Q e w) e w
def S2 (pr : Prims) (Q : Exit → Env → World → Prop) : (Env → World → Prop) → Env → World → Prop := fun k e w => wpC pr PP cfg (DD pr) (sub (codeOf Try.f133) [1, 0, 1, 0, 0]) (fun ex e w => normQ ex (fun e' w' => k (Env.restr e' (lookN cfg.loops (keyOf (sub (codeOf Try.f133) [1, 0, 1, 0, 0])))) w') Q e w) e w
def B5 (pr : Prims) (t_0 : Sl) (n_1 : Int) (r_6 : Int) (c_7 : Int) (w : World) (k : Env → World → Prop) (Q : Exit → Env → World → Prop) : Prop :=
  S5 pr Q k (emb5 t_0 n_1 r_6 c_7) w
def L5 (pr : Prims) (t_0 : Sl) (n_1 : Int) (r_6 : Int) (c_7 : Int) (w : World) (Q : Exit → Env → World → Prop) : Prop :=
  pr.loop (S5 pr Q) (emb5 t_0 n_1 r_6 c_7) w
def B2 (pr : Prims) (t_0 : Sl) (n_1 : Int) (r_6 : Int) (w : World) (k : Env → World → Prop) (Q : Exit → Env → World → Prop) : Prop :=
  S2 pr Q k (emb2 t_0 n_1 r_6) w
def L2 (pr : Prims) (t_0 : Sl) (n_1 : Int) (r_6 : Int) (w : World) (Q : Exit → Env → World → Prop) : Prop :=
  pr.loop (S2 pr Q) (emb2 t_0 n_1 r_6) w
def E (pr : Prims) (t_0 : Sl) (n_1 : Int) (w : World) (R : Ending → World → Prop) : Prop :=
  wpC pr PP cfg (DD pr) (codeOf Try.f133) (retQ Try.f133.results.toList R) (argE 0 [Sl.v t_0, vI n_1]) w
theorem B5_eq (pr : Prims) (t_0 : Sl) (n_1 : Int) (r_6 : Int) (c_7 : Int) (w : World) (k : Env → World → Prop) (Q : Exit → Env → World → Prop) : B5 pr t_0 n_1 r_6 c_7 w k Q = (
  pr.idxK 1 t_0 r_6 fun (a6 : Addr) =>
  pr.load1 .sl a6 w fun (ξ7 : Sl) =>
  bif decide (c_7 < (ξ7.n : Int)) then (
  pr.idxK 1 t_0 r_6 fun (a8 : Addr) =>
  pr.load1 .sl a8 w fun (ξ9 : Sl) =>
  pr.idxK 1 ξ9 c_7 fun (a10 : Addr) =>
  pr.load1 (.int .i64) a10 w fun (ξ11 : Int) =>
  bif decide (ξ11 < n_1) then (
  k (emb5 t_0 n_1 r_6 (w64 (c_7 + 1))) w)
  else (
  Q (.exit 2) (x2 t_0 n_1 r_6 c_7) w))
  else (
  Q (.exit 2) (x2 t_0 n_1 r_6 c_7) w)) := by kernel_rfl
theorem B5_s (t_0 : Sl) (n_1 : Int) (r_6 : Int) (c_7 : Int) (w : World) (k : Env → World → Prop) (Q : Exit → Env → World → Prop) : B5 std t_0 n_1 r_6 c_7 w k Q = (
  idxK 1 t_0 r_6 fun (a6 : Addr) =>
  load1 .sl a6 w fun (ξ7 : Sl) =>
  bif decide (c_7 < (ξ7.n : Int)) then (
  idxK 1 t_0 r_6 fun (a8 : Addr) =>
  load1 .sl a8 w fun (ξ9 : Sl) =>
  idxK 1 ξ9 c_7 fun (a10 : Addr) =>
  load1 (.int .i64) a10 w fun (ξ11 : Int) =>
  bif decide (ξ11 < n_1) then (
  k (emb5 t_0 n_1 r_6 (w64 (c_7 + 1))) w)
  else (
  Q (.exit 2) (x2 t_0 n_1 r_6 c_7) w))
  else (
  Q (.exit 2) (x2 t_0 n_1 r_6 c_7) w)) := B5_eq std t_0 n_1 r_6 c_7 w k Q
theorem L5_rule (t_0 : Sl) (n_1 : Int) (r_6 : Int) (c_7 : Int) (w : World) (Q : Exit → Env → World → Prop) (I : Int → World → Prop) (μ : Int → World → Nat) (h0 : I c_7 w)
    (h : ∀ (c_7 : Int) (w' : World), I c_7 w' → B5 std t_0 n_1 r_6 c_7 w' (fun e2 w2 => ∃ c_7_n, e2 = emb5 t_0 n_1 r_6 c_7_n ∧ I c_7_n w2 ∧ μ c_7_n w2 < μ c_7 w') Q) :
    L5 std t_0 n_1 r_6 c_7 w Q := by
  unfold L5
  refine LoopE.intro (σ := Int) (step := S5 std Q) (fun s => emb5 t_0 n_1 r_6 s) (fun s w => I s w) (fun s w => μ s w) c_7 rfl h0 ?_
  intro s w' hI
  have h1 := h s w' hI
  unfold B5 at h1
  exact h1
theorem A5_2_eq (pr : Prims) (t_0 : Sl) (n_1 : Int) (r_6 : Int) (c_7 : Int) (w : World) (k : Env → World → Prop) (Q : Exit → Env → World → Prop) : (q5 pr k Q) (.exit 2) (x2 t_0 n_1 r_6 c_7) w = (
  pr.idxK 1 t_0 r_6 fun (a12 : Addr) =>
  pr.load1 .sl a12 w fun (ξ13 : Sl) =>
  bif c_7 == (ξ13.n : Int) then (
  pr.idxK 1 t_0 r_6 fun (a14 : Addr) =>
  pr.load1 .sl a14 w fun (ξ15 : Sl) =>
  pr.sem1 .sl PP (Instr.buildSlice T_Sint 1 #[(0, vI n_1)]) w fun (ρ16 : Sl) ω17 =>
  pr.sem1 .sl PP (Builtin.append_ #[T_Sint, T_Sint] T_Sint #[Sl.v ξ15, Sl.v ρ16]) ω17 fun (ρ18 : Sl) ω19 =>
  pr.idxK 1 t_0 r_6 fun (a20 : Addr) =>
  pr.storeC a20 (Sl.v ρ18) ω19 fun ω21 =>
  Q .ret [(4, Sl.v t_0), (5, vI r_6)] ω21)
  else (
  pr.idxK 1 t_0 r_6 fun (a22 : Addr) =>
  pr.load1 .sl a22 w fun (ξ23 : Sl) =>
  pr.idxK 1 ξ23 c_7 fun (a24 : Addr) =>
  pr.load1 (.int .i64) a24 w fun (ξ25 : Int) =>
  pr.idxK 1 t_0 r_6 fun (a26 : Addr) =>
  pr.load1 .sl a26 w fun (ξ27 : Sl) =>
  pr.idxK 1 ξ27 c_7 fun (a28 : Addr) =>
  pr.storeC a28 (vI n_1) w fun ω29 =>
  k (emb2 t_0 ξ25 (w64 (r_6 + 1))) ω29)) := by kernel_rfl
theorem A5_2_s (t_0 : Sl) (n_1 : Int) (r_6 : Int) (c_7 : Int) (w : World) (k : Env → World → Prop) (Q : Exit → Env → World → Prop) : (q5 std k Q) (.exit 2) (x2 t_0 n_1 r_6 c_7) w = (
  idxK 1 t_0 r_6 fun (a12 : Addr) =>
  load1 .sl a12 w fun (ξ13 : Sl) =>
  bif c_7 == (ξ13.n : Int) then (
  idxK 1 t_0 r_6 fun (a14 : Addr) =>
  load1 .sl a14 w fun (ξ15 : Sl) =>
  sem1 .sl PP (Instr.buildSlice T_Sint 1 #[(0, vI n_1)]) w fun (ρ16 : Sl) ω17 =>
  sem1 .sl PP (Builtin.append_ #[T_Sint, T_Sint] T_Sint #[Sl.v ξ15, Sl.v ρ16]) ω17 fun (ρ18 : Sl) ω19 =>
  idxK 1 t_0 r_6 fun (a20 : Addr) =>
  storeC a20 (Sl.v ρ18) ω19 fun ω21 =>
  Q .ret [(4, Sl.v t_0), (5, vI r_6)] ω21)
  else (
  idxK 1 t_0 r_6 fun (a22 : Addr) =>
  load1 .sl a22 w fun (ξ23 : Sl) =>
  idxK 1 ξ23 c_7 fun (a24 : Addr) =>
  load1 (.int .i64) a24 w fun (ξ25 : Int) =>
  idxK 1 t_0 r_6 fun (a26 : Addr) =>
  load1 .sl a26 w fun (ξ27 : Sl) =>
  idxK 1 ξ27 c_7 fun (a28 : Addr) =>
  storeC a28 (vI n_1) w fun ω29 =>
  k (emb2 t_0 ξ25 (w64 (r_6 + 1))) ω29)) := A5_2_eq std t_0 n_1 r_6 c_7 w k Q
theorem B2_eq (pr : Prims) (t_0 : Sl) (n_1 : Int) (r_6 : Int) (w : World) (k : Env → World → Prop) (Q : Exit → Env → World → Prop) : B2 pr t_0 n_1 r_6 w k Q = (
  bif decide (r_6 < (t_0.n : Int)) then (
  L5 pr t_0 n_1 r_6 0 w (q5 pr k Q))
  else (
  Q (.exit 0) (x0 t_0 n_1) w)) := by kernel_rfl
theorem B2_s (t_0 : Sl) (n_1 : Int) (r_6 : Int) (w : World) (k : Env → World → Prop) (Q : Exit → Env → World → Prop) : B2 std t_0 n_1 r_6 w k Q = (
  bif decide (r_6 < (t_0.n : Int)) then (
  L5 std t_0 n_1 r_6 0 w (q5 std k Q))
  else (
  Q (.exit 0) (x0 t_0 n_1) w)) := B2_eq std t_0 n_1 r_6 w k Q
theorem L2_rule (t_0 : Sl) (n_1 : Int) (r_6 : Int) (w : World) (Q : Exit → Env → World → Prop) (I : Int → Int → World → Prop) (μ : Int → Int → World → Nat) (h0 : I n_1 r_6 w)
    (h : ∀ (n_1 : Int) (r_6 : Int) (w' : World), I n_1 r_6 w' → B2 std t_0 n_1 r_6 w' (fun e2 w2 => ∃ n_1_n r_6_n, e2 = emb2 t_0 n_1_n r_6_n ∧ I n_1_n r_6_n w2 ∧ μ n_1_n r_6_n w2 < μ n_1 r_6 w') Q) :
    L2 std t_0 n_1 r_6 w Q := by
  unfold L2
  refine LoopE.intro (σ := Int × Int) (step := S2 std Q) (fun s => emb2 t_0 s.1 s.2) (fun s w => I s.1 s.2 w) (fun s w => μ s.1 s.2 w) (n_1, r_6) rfl h0 ?_
  intro s w' hI
  have h1 := h s.1 s.2 w' hI
  unfold B2 at h1
  simp only [Prod.exists]
  exact h1
theorem A2_0_eq (pr : Prims) (t_0 : Sl) (n_1 : Int) (w : World) (R : Ending → World → Prop) : (q1 pr R) (.exit 0) (x0 t_0 n_1) w = (
  pr.sem1 .sl PP (Instr.buildSlice T_Sint 1 #[(0, vI n_1)]) w fun (ρ30 : Sl) ω31 =>
  pr.sem1 .sl PP (Instr.buildSlice T_SSint 1 #[(0, Sl.v ρ30)]) ω31 fun (ρ32 : Sl) ω33 =>
  pr.sem1 .sl PP (Builtin.append_ #[T_SSint, T_SSint] T_SSint #[Sl.v t_0, Sl.v ρ32]) ω33 fun (ρ34 : Sl) ω35 =>
  R (.returned (.tuple #[Sl.v ρ34, vI (t_0.n : Int)])) ω35) := by kernel_rfl
theorem A2_0_s (t_0 : Sl) (n_1 : Int) (w : World) (R : Ending → World → Prop) : (q1 std R) (.exit 0) (x0 t_0 n_1) w = (
  sem1 .sl PP (Instr.buildSlice T_Sint 1 #[(0, vI n_1)]) w fun (ρ30 : Sl) ω31 =>
  sem1 .sl PP (Instr.buildSlice T_SSint 1 #[(0, Sl.v ρ30)]) ω31 fun (ρ32 : Sl) ω33 =>
  sem1 .sl PP (Builtin.append_ #[T_SSint, T_SSint] T_SSint #[Sl.v t_0, Sl.v ρ32]) ω33 fun (ρ34 : Sl) ω35 =>
  R (.returned (.tuple #[Sl.v ρ34, vI (t_0.n : Int)])) ω35) := A2_0_eq std t_0 n_1 w R
theorem R2_eq (pr : Prims) (v4 : Value) (v5 : Value) (w : World) (R : Ending → World → Prop) : (q1 pr R) .ret [(4, v4), (5, v5)] w = (
  R (.returned (.tuple #[v4, v5])) w) := by kernel_rfl
theorem R2_s (v4 : Value) (v5 : Value) (w : World) (R : Ending → World → Prop) : (q1 std R) .ret [(4, v4), (5, v5)] w = (
  R (.returned (.tuple #[v4, v5])) w) := R2_eq std v4 v5 w R
theorem E_eq (pr : Prims) (t_0 : Sl) (n_1 : Int) (w : World) (R : Ending → World → Prop) : E pr t_0 n_1 w R = (
  L2 pr t_0 n_1 0 w (q1 pr R)) := by kernel_rfl
theorem E_s (t_0 : Sl) (n_1 : Int) (w : World) (R : Ending → World → Prop) : E std t_0 n_1 w R = (
  L2 std t_0 n_1 0 w (q1 std R)) := E_eq std t_0 n_1 w R
theorem drawsOk : drawsOk PP cfg okD (codeOf Try.f133) = true := by kernel_rfl
theorem calls (t_0 : Sl) (n_1 : Int) {w : World} {R : Ending → World → Prop} (h : E std t_0 n_1 w R) : Calls PP F.spec_l19Put #[Sl.v t_0, vI n_1] w R :=
  calls_of noCount mixed drawOk Try.func133 rfl (c := cfg) (args := [Sl.v t_0, vI n_1]) rfl (Nat.le_of_ble_eq_true (by kernel_rfl)) drawsOk h
end spec_l19Put

namespace spec_l19Insert
@[reducible] def cfg : Cfg := ⟨46, [(4, [0, 4, 5, 6])], [(1, [0, 4, 5, 6]), (0, [4, 5])], [(10, [0, 4, 5, 6, 7])], [2, 3], [], [101, 107, 112, 15, 21, 124, 76, 137, 28, 115, 91, 81, 130], [138, 140, 82, 6, 86, 85, 132]⟩
def q4 (pr : Prims) (R : Ending → World → Prop) : Exit → Env → World → Prop := fun ex e w => normQ ex (fun e w => contE pr cfg (sub (codeOf Try.f98) [1, 1, 1, 1]) (fun e w => wpC pr PP cfg (DD pr) (sub (codeOf Try.f98) [1, 1, 1, 1]) (retQ Try.f98.results.toList R) e w) e w) (retQ Try.f98.results.toList R) e w
def q5 (pr : Prims) (R : Ending → World → Prop) : Exit → Env → World → Prop := fun ex e w => blockQ ex 0 (q4 pr R) e w
def q6 (pr : Prims) (k : Env → World → Prop) (Q : Exit → Env → World → Prop) : Exit → Env → World → Prop := fun ex e w => normQ ex (fun e w => contE pr cfg (sub (codeOf Try.f98) [1, 1, 1, 0, 1, 0, 0, 1, 1]) (fun e w => wpC pr PP cfg (DD pr) (sub (codeOf Try.f98) [1, 1, 1, 0, 1, 0, 0, 1, 1]) (fun ex e w => normQ ex (fun e' w' => k (Env.restr e' (lookN cfg.loops (keyOf (sub (codeOf Try.f98) [1, 1, 1, 0, 1, 0, 0])))) w') Q e w) e w) e w) (fun ex e w => normQ ex (fun e' w' => k (Env.restr e' (lookN cfg.loops (keyOf (sub (codeOf Try.f98) [1, 1, 1, 0, 1, 0, 0])))) w') Q e w) e w
def q7 (pr : Prims) (k : Env → World → Prop) (Q : Exit → Env → World → Prop) : Exit → Env → World → Prop := fun ex e w => blockQ ex 1 (q6 pr k Q) e w
def q13 (pr : Prims) (k : Env → World → Prop) (Q : Exit → Env → World → Prop) : Exit → Env → World → Prop := fun ex e w => normQ ex (fun e w => contE pr cfg (sub (codeOf Try.f98) [1, 1, 1, 0, 1, 0, 0, 1, 0, 0, 1, 1, 1]) (fun e w => wpC pr PP cfg (DD pr) (sub (codeOf Try.f98) [1, 1, 1, 0, 1, 0, 0, 1, 0, 0, 1, 1, 1]) (q7 pr k Q) e w) e w) (q7 pr k Q) e w
def emb4 (p_0 : Sl) (a_4 : Sl) (b_5 : Sl) (k_6 : Int) : Env := [(0, Sl.v p_0), (4, Sl.v a_4), (5, Sl.v b_5), (6, vI k_6)]
def j10 (p_0 : Sl) (a_4 : Sl) (b_5 : Sl) (k_6 : Int) (r_7 : Int) : Env := [(0, Sl.v p_0), (4, Sl.v a_4), (5, Sl.v b_5), (6, vI k_6), (7, vI r_7)]
def x0 (a_4 : Sl) (b_5 : Sl) : Env := [(4, Sl.v a_4), (5, Sl.v b_5)]
def S4 (pr : Prims) (Q : Exit → Env → World → Prop) : (Env → World → Prop) → Env → World → Prop := fun k e w => wpC pr PP cfg (DD pr) (sub (codeOf Try.f98) [1, 1, 1, 0, 1, 0, 0]) (fun ex e w => normQ ex (fun e' w' => k (Env.restr e' (lookN cfg.loops (keyOf (sub (codeOf Try.f98) [1, 1, 1, 0, 1, 0, 0])))) w') Q e w) e w
def J10 (pr : Prims) (p_0 : Sl) (a_4 : Sl) (b_5 : Sl) (k_6 : Int) (r_7 : Int) (w : World) (k : Env → World → Prop) (Q : Exit → Env → World → Prop) : Prop :=
  pr.seg (fun e w => wpC pr PP cfg (DD pr) (sub (codeOf Try.f98) [1, 1, 1, 0, 1, 0, 0, 1, 0, 0, 1, 1, 1]) (q7 pr k Q) e w) (j10 p_0 a_4 b_5 k_6 r_7) w
def B4 (pr : Prims) (p_0 : Sl) (a_4 : Sl) (b_5 : Sl) (k_6 : Int) (w : World) (k : Env → World → Prop) (Q : Exit → Env → World → Prop) : Prop :=
  S4 pr Q k (emb4 p_0 a_4 b_5 k_6) w
def L4 (pr : Prims) (p_0 : Sl) (a_4 : Sl) (b_5 : Sl) (k_6 : Int) (w : World) (Q : Exit → Env → World → Prop) : Prop :=
  pr.loop (S4 pr Q) (emb4 p_0 a_4 b_5 k_6) w
def E (pr : Prims) (p_0 : Sl) (w : World) (R : Ending → World → Prop) : Prop :=
  wpC pr PP cfg (DD pr) (codeOf Try.f98) (retQ Try.f98.results.toList R) (argE 0 [Sl.v p_0]) w
theorem J10_gen (pr : Prims) (p_0 : Sl) (a_4 : Sl) (b_5 : Sl) (k_6 : Int) (r_7 : Int) (w : World) (k : Env → World → Prop) (Q : Exit → Env → World → Prop) : wpC pr PP cfg (DD pr) (sub (codeOf Try.f98) [1, 1, 1, 0, 1, 0, 0, 1, 0, 0, 1, 1, 1]) (q7 pr k Q) (j10 p_0 a_4 b_5 k_6 r_7) w = (
  pr.idxK 1 b_5 r_7 fun (a20 : Addr) =>
  pr.load1 .sl a20 w fun (ξ21 : Sl) =>
  pr.sem1 .sl PP (Instr.buildSlice T_Sint 1 #[(0, vI (w64 (k_6 + 1)))]) w fun (ρ22 : Sl) ω23 =>
  pr.sem1 .sl PP (Builtin.append_ #[T_Sint, T_Sint] T_Sint #[Sl.v ξ21, Sl.v ρ22]) ω23 fun (ρ24 : Sl) ω25 =>
  pr.idxK 1 b_5 r_7 fun (a26 : Addr) =>
  pr.storeC a26 (Sl.v ρ24) ω25 fun ω27 =>
  k (emb4 p_0 a_4 b_5 (w64 (k_6 + 1))) ω27) := by kernel_rfl
theorem J10_s (p_0 : Sl) (a_4 : Sl) (b_5 : Sl) (k_6 : Int) (r_7 : Int) (w : World) (k : Env → World → Prop) (Q : Exit → Env → World → Prop) : J10 std p_0 a_4 b_5 k_6 r_7 w k Q = (
  idxK 1 b_5 r_7 fun (a20 : Addr) =>
  load1 .sl a20 w fun (ξ21 : Sl) =>
  sem1 .sl PP (Instr.buildSlice T_Sint 1 #[(0, vI (w64 (k_6 + 1)))]) w fun (ρ22 : Sl) ω23 =>
  sem1 .sl PP (Builtin.append_ #[T_Sint, T_Sint] T_Sint #[Sl.v ξ21, Sl.v ρ22]) ω23 fun (ρ24 : Sl) ω25 =>
  idxK 1 b_5 r_7 fun (a26 : Addr) =>
  storeC a26 (Sl.v ρ24) ω25 fun ω27 =>
  k (emb4 p_0 a_4 b_5 (w64 (k_6 + 1))) ω27) := J10_gen std p_0 a_4 b_5 k_6 r_7 w k Q
theorem B4_eq (pr : Prims) (p_0 : Sl) (a_4 : Sl) (b_5 : Sl) (k_6 : Int) (w : World) (k : Env → World → Prop) (Q : Exit → Env → World → Prop) : B4 pr p_0 a_4 b_5 k_6 w k Q = (
  bif decide (k_6 < (p_0.n : Int)) then (
  pr.idxK 1 p_0 k_6 fun (a8 : Addr) =>
  pr.load1 (.int .i64) a8 w fun (ξ9 : Int) =>
  pr.call2 .sl (.int .i64) PP F.spec_l19Put #[Sl.v a_4, vI ξ9] w fun (ρ10 : Sl) (ρ11 : Int) ω12 =>
  bif ρ11 == (b_5.n : Int) then (
  pr.sem1 .sl PP (Instr.buildSlice T_Sint 0 #[]) ω12 fun (ρ14 : Sl) ω15 =>
  pr.sem1 .sl PP (Instr.buildSlice T_SSint 1 #[(0, Sl.v ρ14)]) ω15 fun (ρ16 : Sl) ω17 =>
  pr.sem1 .sl PP (Builtin.append_ #[T_SSint, T_SSint] T_SSint #[Sl.v b_5, Sl.v ρ16]) ω17 fun (ρ18 : Sl) ω19 =>
  J10 pr p_0 ρ10 ρ18 k_6 ρ11 ω19 k Q)
  else (
  J10 pr p_0 ρ10 b_5 k_6 ρ11 ω12 k Q))
  else (
  Q (.exit 0) (x0 a_4 b_5) w)) := by kernel_rfl
theorem B4_s (p_0 : Sl) (a_4 : Sl) (b_5 : Sl) (k_6 : Int) (w : World) (k : Env → World → Prop) (Q : Exit → Env → World → Prop) : B4 std p_0 a_4 b_5 k_6 w k Q = (
  bif decide (k_6 < (p_0.n : Int)) then (
  idxK 1 p_0 k_6 fun (a8 : Addr) =>
  load1 (.int .i64) a8 w fun (ξ9 : Int) =>
  call2 .sl (.int .i64) PP F.spec_l19Put #[Sl.v a_4, vI ξ9] w fun (ρ10 : Sl) (ρ11 : Int) ω12 =>
  bif ρ11 == (b_5.n : Int) then (
  sem1 .sl PP (Instr.buildSlice T_Sint 0 #[]) ω12 fun (ρ14 : Sl) ω15 =>
  sem1 .sl PP (Instr.buildSlice T_SSint 1 #[(0, Sl.v ρ14)]) ω15 fun (ρ16 : Sl) ω17 =>
  sem1 .sl PP (Builtin.append_ #[T_SSint, T_SSint] T_SSint #[Sl.v b_5, Sl.v ρ16]) ω17 fun (ρ18 : Sl) ω19 =>
  J10 std p_0 ρ10 ρ18 k_6 ρ11 ω19 k Q)
  else (
  J10 std p_0 ρ10 b_5 k_6 ρ11 ω12 k Q))
  else (
  Q (.exit 0) (x0 a_4 b_5) w)) := B4_eq std p_0 a_4 b_5 k_6 w k Q
theorem L4_rule (p_0 : Sl) (a_4 : Sl) (b_5 : Sl) (k_6 : Int) (w : World) (Q : Exit → Env → World → Prop) (I : Sl → Sl → Int → World → Prop) (μ : Sl → Sl → Int → World → Nat) (h0 : I a_4 b_5 k_6 w)
    (h : ∀ (a_4 : Sl) (b_5 : Sl) (k_6 : Int) (w' : World), I a_4 b_5 k_6 w' → B4 std p_0 a_4 b_5 k_6 w' (fun e2 w2 => ∃ a_4_n b_5_n k_6_n, e2 = emb4 p_0 a_4_n b_5_n k_6_n ∧ I a_4_n b_5_n k_6_n w2 ∧ μ a_4_n b_5_n k_6_n w2 < μ a_4 b_5 k_6 w') Q) :
    L4 std p_0 a_4 b_5 k_6 w Q := by
  unfold L4
  refine LoopE.intro (σ := Sl × Sl × Int) (step := S4 std Q) (fun s => emb4 p_0 s.1 s.2.1 s.2.2) (fun s w => I s.1 s.2.1 s.2.2 w) (fun s w => μ s.1 s.2.1 s.2.2 w) (a_4, b_5, k_6) rfl h0 ?_
  intro s w' hI
  have h1 := h s.1 s.2.1 s.2.2 w' hI
  unfold B4 at h1
  simp only [Prod.exists]
  exact h1
theorem A4_0_eq (pr : Prims) (a_4 : Sl) (b_5 : Sl) (w : World) (R : Ending → World → Prop) : (q5 pr R) (.exit 0) (x0 a_4 b_5) w = (
  R (.returned (.tuple #[Sl.v a_4, Sl.v b_5])) w) := by kernel_rfl
theorem A4_0_s (a_4 : Sl) (b_5 : Sl) (w : World) (R : Ending → World → Prop) : (q5 std R) (.exit 0) (x0 a_4 b_5) w = (
  R (.returned (.tuple #[Sl.v a_4, Sl.v b_5])) w) := A4_0_eq std a_4 b_5 w R
theorem E_eq (pr : Prims) (p_0 : Sl) (w : World) (R : Ending → World → Prop) : E pr p_0 w R = (
  pr.sem1 .sl PP (Instr.buildSlice T_SSint 0 #[]) w fun (ρ0 : Sl) ω1 =>
  pr.sem1 .sl PP (Instr.buildSlice T_SSint 0 #[]) ω1 fun (ρ2 : Sl) ω3 =>
  L4 pr p_0 ρ0 ρ2 0 ω3 (q5 pr R)) := by kernel_rfl
theorem E_s (p_0 : Sl) (w : World) (R : Ending → World → Prop) : E std p_0 w R = (
  sem1 .sl PP (Instr.buildSlice T_SSint 0 #[]) w fun (ρ0 : Sl) ω1 =>
  sem1 .sl PP (Instr.buildSlice T_SSint 0 #[]) ω1 fun (ρ2 : Sl) ω3 =>
  L4 std p_0 ρ0 ρ2 0 ω3 (q5 std R)) := E_eq std p_0 w R
theorem drawsOk : drawsOk PP cfg okD (codeOf Try.f98) = true := by kernel_rfl
theorem calls (p_0 : Sl) {w : World} {R : Ending → World → Prop} (h : E std p_0 w R) : Calls PP F.spec_l19Insert #[Sl.v p_0] w R :=
  calls_of noCount mixed drawOk Try.func98 rfl (c := cfg) (args := [Sl.v p_0]) rfl (Nat.le_of_ble_eq_true (by kernel_rfl)) drawsOk h
end spec_l19Insert

namespace spec_InsertPerm
@[reducible] def cfg : Cfg := ⟨19, [], [], [], [2, 3, 4], [], [101, 107, 112, 15, 21, 124, 76, 137, 28, 115, 91, 81, 130], [138, 140, 82, 6, 86, 85, 132]⟩
def E (pr : Prims) (p_0 : Sl) (w : World) (R : Ending → World → Prop) : Prop :=
  wpC pr PP cfg (DD pr) (codeOf Try.f45) (retQ Try.f45.results.toList R) (argE 0 [Sl.v p_0]) w
theorem E_eq (pr : Prims) (p_0 : Sl) (w : World) (R : Ending → World → Prop) : E pr p_0 w R = (
  pr.call1 .bool PP F.spec_IsPerm #[Sl.v p_0] w fun (ρ0 : Bool) ω1 =>
  bif !ρ0 then (
  pr.sem1 .sl PP (Instr.buildSlice T_SSint 0 #[]) ω1 fun (ρ2 : Sl) ω3 =>
  pr.sem1 .sl PP (Instr.buildSlice T_SSint 0 #[]) ω3 fun (ρ4 : Sl) ω5 =>
  R (.returned (.tuple #[Sl.v ρ2, Sl.v ρ4, .bool false])) ω5)
  else (
  pr.call2 .sl .sl PP F.spec_l19Insert #[Sl.v p_0] ω1 fun (ρ6 : Sl) (ρ7 : Sl) ω8 =>
  R (.returned (.tuple #[Sl.v ρ6, Sl.v ρ7, .bool true])) ω8)) := by kernel_rfl
theorem E_s (p_0 : Sl) (w : World) (R : Ending → World → Prop) : E std p_0 w R = (
  call1 .bool PP F.spec_IsPerm #[Sl.v p_0] w fun (ρ0 : Bool) ω1 =>
  bif !ρ0 then (
  sem1 .sl PP (Instr.buildSlice T_SSint 0 #[]) ω1 fun (ρ2 : Sl) ω3 =>
  sem1 .sl PP (Instr.buildSlice T_SSint 0 #[]) ω3 fun (ρ4 : Sl) ω5 =>
  R (.returned (.tuple #[Sl.v ρ2, Sl.v ρ4, .bool false])) ω5)
  else (
  call2 .sl .sl PP F.spec_l19Insert #[Sl.v p_0] ω1 fun (ρ6 : Sl) (ρ7 : Sl) ω8 =>
  R (.returned (.tuple #[Sl.v ρ6, Sl.v ρ7, .bool true])) ω8)) := E_eq std p_0 w R
theorem drawsOk : drawsOk PP cfg okD (codeOf Try.f45) = true := by kernel_rfl
theorem calls (p_0 : Sl) {w : World} {R : Ending → World → Prop} (h : E std p_0 w R) : Calls PP F.spec_InsertPerm #[Sl.v p_0] w R :=
  calls_of noCount mixed drawOk Try.func45 rfl (c := cfg) (args := [Sl.v p_0]) rfl (Nat.le_of_ble_eq_true (by kernel_rfl)) drawsOk h
end spec_InsertPerm

end Go.Proofs.Ytdchjhhpbdekeaa

/- InsertPerm: the model's text. -/
namespace Go.Proofs.Ytdchjhhpbdekeaa
open Go Go.RowKit
set_option maxRecDepth 100000

theorem c_l19Put {w : World} {B : Nat} {t : Sl} {rs : List Sl} {T : List (List Int)} (h : OwnRows w B t rs T) (hB : B ≤ w.heap.size) (hT : T.length < 2^38) (hR : ∀ R ∈ T, R.length < 2^38) (n : Int) :
    Calls PP F.spec_l19Put #[t.v, vI n] w fun e w' => ∃ t' rs', e = .returned (.tuple #[t'.v, vI (tabRow T n)]) ∧ OwnRows w' B t' rs' (tabIns T n) ∧ Stp w w' (foot t rs) (foot t' rs') := by
  refine spec_l19Put.calls t n ?_
  rw [spec_l19Put.E_s]
  refine spec_l19Put.L2_rule _ _ _ _ _ (I := fun v r w' => 0 ≤ r ∧ r ≤ T.length ∧ ∃ T1, T1.length = T.length ∧ (∀ R ∈ T1, R.length < 2^38) ∧ OwnRows w' B t rs T1 ∧ B ≤ w'.heap.size ∧ Stp w w' (foot t rs) (foot t rs) ∧ T1.take r.toNat ++ tabIns (T1.drop r.toNat) v = tabIns T n ∧ r.toNat + tabRow (T1.drop r.toNat) v = tabRow T n)
    (μ := fun _ r _ => (T.length - r).toNat) ⟨by omega, by omega, T, rfl, hR, h, hB, Stp.refl _ _, by simp, by simp⟩ ?_
  rintro v r w' ⟨h0, hr, T1, hl, hR1, ho, hB1, hs, e1, e2⟩
  have hn := ho.n
  rw [spec_l19Put.B2_s, hn]
  refine bif_dec (fun h3 => ?_) (fun h3 => ?_)
  · have hr1 : r.toNat < T1.length := by omega
    have hRl : (T1.getD r.toNat []).length < 2^38 := hR1 _ (by rw [getD_SS hr1]; exact List.getElem_mem hr1)
    have hple := rpos_le (T1.getD r.toNat []) v
    refine spec_l19Put.L5_rule _ _ _ _ _ _ (I := fun c w2 => w2 = w' ∧ 0 ≤ c ∧ c ≤ rpos (T1.getD r.toNat []) v) (μ := fun c _ => (rpos (T1.getD r.toNat []) v + 1 - c).toNat) ⟨rfl, by omega, by omega⟩ ?_
    rintro c w2 ⟨rfl, hc0, hc⟩
    rw [spec_l19Put.B5_s]
    refine ho.load h0 (by omega) fun ρ _ hρ => ?_
    have hρn : ρ.n = (T1.getD r.toNat []).length := by have := hρ.n; simpa using this
    rw [hρn]
    -- behind the search
    have fin : c = rpos (T1.getD r.toNat []) v → spec_l19Put.q5 std (fun e2 w2 => ∃ n_1_n r_6_n, e2 = spec_l19Put.emb2 t n_1_n r_6_n ∧ (0 ≤ r_6_n ∧ r_6_n ≤ T.length ∧ ∃ T1, T1.length = T.length ∧ (∀ R ∈ T1, R.length < 2^38) ∧ OwnRows w2 B t rs T1 ∧ B ≤ w2.heap.size ∧ Stp w w2 (foot t rs) (foot t rs) ∧ T1.take r_6_n.toNat ++ tabIns (T1.drop r_6_n.toNat) n_1_n = tabIns T n ∧ r_6_n.toNat + tabRow (T1.drop r_6_n.toNat) n_1_n = tabRow T n) ∧ ((T.length : Int) - r_6_n).toNat < ((T.length : Int) - r).toNat) (spec_l19Put.q1 std fun e w' => ∃ t' rs', e = .returned (.tuple #[t'.v, vI (tabRow T n)]) ∧ OwnRows w' B t' rs' (tabIns T n) ∧ Stp w w' (foot t rs) (foot t' rs')) (.exit 2) (spec_l19Put.x2 t v r c) w2 := by
      intro hcp
      rw [spec_l19Put.A5_2_s]
      refine ho.load h0 (by omega) fun ρ _ hρ => ?_
      have hρn : ρ.n = (T1.getD r.toNat []).length := by have := hρ.n; simpa using this
      rw [hρn]
      refine bif_intro (fun h4 => ?_) (fun h4 => ?_)
      · have h4' : ¬ rpos (T1.getD r.toNat []) v < (T1.getD r.toNat []).length := by have := eq_of_beq h4; omega
        obtain ⟨k1, k2⟩ := tabIns_last hr1 h4'
        refine ho.appendAtF h0 (by omega) hB1 (by omega) fun w3 rs' ho3 hs3 => ?_
        rw [spec_l19Put.R2_s]
        refine ⟨t, rs', ?_, ?_, hs.trans hs3⟩
        · rw [← e2, k2]; congr 5; simp; omega
        · rw [← e1, k1]; exact ho3
      · have h4' : rpos (T1.getD r.toNat []) v < (T1.getD r.toNat []).length := by have := ne_of_beq_false h4; omega
        obtain ⟨k1, k2⟩ := tabIns_step hr1 h4'
        refine ho.load h0 (by omega) fun ρ2 _ hρ2 => ?_
        refine hρ2.row.get (sh := .int .i64) (r := (T1.getD r.toNat []).getD c.toNat 0) hc0 ?_ ?_
        · rw [List.getElem?_map, List.getElem?_eq_getElem (by omega), Option.map_some, getD_lt (by omega)]
        refine ho.setAtF h0 (by omega) hc0 (by omega) fun w3 ho3 hs3 hz3 => ?_
        have hcn : c.toNat = rpos (T1.getD r.toNat []) v := by omega
        rw [hcn] at ho3 ⊢
        refine ⟨_, r + 1, by rw [w64_succ h0 (by omega)], ⟨by omega, by omega, _, by rw [List.length_set]; exact hl, ?_, ho3, by omega, hs.trans hs3, ?_, ?_⟩, by omega⟩
        · intro R hR'
          rcases List.mem_or_eq_of_mem_set hR' with hR' | rfl
          · exact hR1 R hR'
          · rw [List.length_set]; exact hRl
        · rw [show (r + 1).toNat = r.toNat + 1 by omega, ← e1, k1]
        · rw [show (r + 1).toNat = r.toNat + 1 by omega, ← e2, k2]; omega
    refine bif_dec (fun h4 => ?_) (fun h4 => ?_)
    · refine ho.load h0 (by omega) fun ρ2 _ hρ2 => ?_
      refine hρ2.row.get (sh := .int .i64) (r := (T1.getD r.toNat []).getD c.toNat 0) hc0 ?_ ?_
      · rw [List.getElem?_map, List.getElem?_eq_getElem (by omega), Option.map_some, getD_lt (by omega)]
      refine bif_dec (fun h5 => ?_) (fun h5 => ?_)
      · refine ⟨c + 1, by rw [w64_succ hc0 (by omega)], ⟨rfl, by omega, ?_⟩, by omega⟩
        rcases Int.lt_or_le c (rpos (T1.getD r.toNat []) v) with h6 | h6
        · omega
        · have : c.toNat = rpos (T1.getD r.toNat []) v := by omega
          rw [this] at h5
          have := rpos_ge (T1.getD r.toNat []) v (by omega)
          omega
      · refine fin ?_
        rcases Int.lt_or_le c (rpos (T1.getD r.toNat []) v) with h6 | h6
        · have := rpos_lt (T1.getD r.toNat []) v c.toNat (by omega)
          omega
        · omega
    · refine fin (by omega)
  · have hrl : r.toNat = T1.length := by omega
    rw [spec_l19Put.A2_0_s]
    rw [hrl] at e1 e2
    simp only [List.take_length, List.drop_length, tabIns, tabRow, Nat.add_zero] at e1 e2
    refine lit1 oneInt hB1 (One.int v) ?_
    intro ρ w2 hρ hg2 hn2
    have hb2 := below_of_grow hg2
    refine ho.pushF hb2 hB1 (r := ρ) (L := [v]) (by simpa [OwnI] using hρ) (fun g hg => ?_) (by omega) ?_
    · rcases hn2 g hg with h4 | h4
      · simp [Sl.blk, Sl.nil] at h4
      · exact h4
    intro s' w3 ho3 hs3
    refine ⟨s', _, ?_, by rw [← e1]; exact ho3, hs.trans hs3⟩
    rw [hn, ← e2]
theorem c_l19Insert {w : World} {a : Sl} {L : List Int} (ha : RowI w a L) (hL : L.length < 2^30) :
    Calls PP F.spec_l19Insert #[a.v] w fun e w' => ∃ (s t : Sl) (rs rt : List Sl), e = .returned (.tuple #[s.v, t.v]) ∧ OwnRows w' w.heap.size s rs (insP L) ∧ OwnRows w' w.heap.size t rt (insQ L L.length) ∧ (∀ g, foot s rs g → ¬ foot t rt g) ∧ Below w.heap.size w w' := by
  have han : a.n = L.length := by have := ha.n; simpa using this
  refine spec_l19Insert.calls a ?_
  rw [spec_l19Insert.E_s]
  refine lit0 oneSint (B := w.heap.size) (Nat.le_refl _) ?_
  intro s0 w1 hs0 hg1 hc1
  have hb1 := below_of_grow hg1
  refine lit0 oneSint (B := w.heap.size) hb1.size ?_
  intro t0 w2 ht0 hg2 hc2
  have hb2 := below_of_grow hg2
  have hb02 := hb1.trans (hb2.mono hb1.size)
  refine spec_l19Insert.L4_rule _ _ _ _ _ _ (I := fun s t k w' => 0 ≤ k ∧ k ≤ L.length ∧ Below w.heap.size w w' ∧ ∃ rs rt, OwnRows w' w.heap.size s rs (insP (L.take k.toNat)) ∧ OwnRows w' w.heap.size t rt (insQ L k.toNat) ∧ (∀ g, foot s rs g → ¬ foot t rt g))
    (μ := fun _ _ k _ => (L.length - k).toNat) ⟨by omega, by omega, hb02, [], [], (OwnRows.nil hs0).grow hb2, OwnRows.nil ht0, fun g hg => ?_⟩ ?_
  · simp [foot, Sl.blk, hc1] at hg
  rintro s t k w' ⟨h0, hk, hb, rs, rt, hs, ht, hd⟩
  rw [spec_l19Insert.B4_s, han]
  refine bif_dec (fun h3 => ?_) (fun h3 => ?_)
  · have hlt : k.toNat < L.length := by omega
    refine RowI.get (ha.grow hb) h0 (by omega) ?_
    have hPl := insP_flat (L.take k.toNat)
    rw [List.length_take] at hPl
    have hPn : (insP (L.take k.toNat)).length ≤ k.toNat := by
      have h1 := insQ_length L k.toNat (by omega)
      rw [← h1]
      have : ∀ m, (insQ L m).length ≤ m := by
        intro m
        induction m with
        | zero => simp [insQ]
        | succ m ih => rw [insQ, addAt]; split <;> simp <;> omega
      exact this _
    have hQn := insQ_length L k.toNat (by omega)
    have hr := tabIns_length (insP (L.take k.toNat)) (L.getD k.toNat 0)
    have eP : tabIns (insP (L.take k.toNat)) (L.getD k.toNat 0) = insP (L.take (k + 1).toNat) := by
      rw [show (k + 1).toNat = k.toNat + 1 by omega, ← insP_snoc, getD_lt hlt]; simp
    have eQ : insQ L (k + 1).toNat = addAt (insQ L k.toNat) (tabRow (insP (L.take k.toNat)) (L.getD k.toNat 0)) (k + 1) := by
      rw [show (k + 1).toNat = k.toNat + 1 by omega, insQ]; congr 1; omega
    refine (c_l19Put hs hb.size (by omega) (fun R hR => by have := flat_tab hR; omega) _).mono ?_
    rintro e w3 ⟨s', rs', rfl, hs', hst⟩
    refine ⟨s', _, rfl, ?_⟩
    rw [eP] at hs'
    have hb3 : Below w.heap.size w' w3 := hst.below (fun g hg => (hs.footLt hg).1) hb.size
    have hb03 := hb.trans hb3
    have ht3 : OwnRows w3 w.heap.size t rt (insQ L k.toNat) := ht.keepsF hst.keeps fun g h1 h2 => hd g h2 h1
    have hd3 : ∀ g, foot s' rs' g → ¬ foot t rt g := hst.apart (fun g hg => (ht.footLt hg).2) hd
    rw [ht3.n]
    -- behind the new row
    have fin : ∀ (w4 : World) (t4 : Sl) (rt4 : List Sl) (Q4 : List (List Int)), Below w.heap.size w w4 → OwnRows w4 w.heap.size s' rs' (insP (L.take (k + 1).toNat)) → OwnRows w4 w.heap.size t4 rt4 Q4 → (∀ g, foot s' rs' g → ¬ foot t4 rt4 g) →
        tabRow (insP (L.take k.toNat)) (L.getD k.toNat 0) < Q4.length → (Q4.getD (tabRow (insP (L.take k.toNat)) (L.getD k.toNat 0)) []).length < 2^38 → Q4.set (tabRow (insP (L.take k.toNat)) (L.getD k.toNat 0)) (Q4.getD (tabRow (insP (L.take k.toNat)) (L.getD k.toNat 0)) [] ++ [k + 1]) = insQ L (k + 1).toNat →
        spec_l19Insert.J10 std a s' t4 k (tabRow (insP (L.take k.toNat)) (L.getD k.toNat 0)) w4 (fun e2 w2 => ∃ a_4_n b_5_n k_6_n, e2 = spec_l19Insert.emb4 a a_4_n b_5_n k_6_n ∧ (0 ≤ k_6_n ∧ k_6_n ≤ L.length ∧ Below w.heap.size w w2 ∧ ∃ rs rt, OwnRows w2 w.heap.size a_4_n rs (insP (L.take k_6_n.toNat)) ∧ OwnRows w2 w.heap.size b_5_n rt (insQ L k_6_n.toNat) ∧ (∀ g, foot a_4_n rs g → ¬ foot b_5_n rt g)) ∧ ((L.length : Int) - k_6_n).toNat < ((L.length : Int) - k).toNat) (spec_l19Insert.q5 std fun e w' => ∃ (s t : Sl) (rs rt : List Sl), e = .returned (.tuple #[s.v, t.v]) ∧ OwnRows w' w.heap.size s rs (insP L) ∧ OwnRows w' w.heap.size t rt (insQ L L.length) ∧ (∀ g, foot s rs g → ¬ foot t rt g) ∧ Below w.heap.size w w') := by
      intro w4 t4 rt4 Q4 hb4 hs4 ht4 hd4 hq hql heq
      rw [spec_l19Insert.J10_s, w64_succ h0 (by omega)]
      refine ht4.appendAtF (i := (tabRow (insP (L.take k.toNat)) (L.getD k.toNat 0) : Int)) (by omega) (by omega) hb4.size (by simpa using Nat.lt_trans hql (by decide)) fun w5 rt5 ht5 hst5 => ?_
      refine ⟨s', t4, k + 1, rfl, ⟨by omega, by omega, hb4.trans (hst5.below (fun g hg => (ht4.footLt hg).1) hb4.size), rs', rt5, ?_, ?_, ?_⟩, by omega⟩
      · exact hs4.keepsF hst5.keeps fun g h1 h2 => hd4 g h1 h2
      · rw [Int.toNat_natCast, heq] at ht5; exact ht5
      · intro g h1 h2
        exact hst5.apart (F := foot s' rs') (fun g hg => (hs4.footLt hg).2) (fun g h3 h4 => hd4 g h4 h3) g h2 h1
    have hQ : ∀ M ∈ insQ L k.toNat, M.length < 2^38 := by
      have : ∀ m, ∀ M ∈ insQ L m, M.length ≤ m := by
        intro m
        induction m with
        | zero => intro M hM; simp [insQ] at hM
        | succ m ih =>
          intro M hM
          rw [insQ, addAt] at hM
          split at hM
          · rename_i hlt
            rcases List.mem_or_eq_of_mem_set hM with hM | rfl
            · have := ih M hM; omega
            · have := ih _ (show (insQ L m).getD (tabRow (insP (L.take m)) (L.getD m 0)) [] ∈ insQ L m by rw [getD_SS hlt]; exact List.getElem_mem hlt)
              simp at this ⊢; omega
          · rcases List.mem_append.1 hM with hM | hM
            · have := ih M hM; omega
            · simp at hM; subst hM; simp
      intro M hM
      have := this _ M hM; omega
    refine bif_intro (fun h4 => ?_) (fun h4 => ?_)
    · have h4' : tabRow (insP (L.take k.toNat)) (L.getD k.toNat 0) = (insQ L k.toNat).length := by have := eq_of_beq h4; omega
      refine lit0 oneInt hb03.size ?_
      intro ρ w4 hρ hg4 hc4
      have hb4 := below_of_grow hg4
      refine ht3.pushF hb4 hb03.size (r := ρ) (L := []) (by simpa [OwnI] using hρ) (fun g hg => ?_) (by omega) ?_
      · simp [Sl.blk, hc4] at hg
      intro t5 w5 ht5 hst5
      refine fin w5 t5 _ _ (hb03.trans (hst5.below (fun g hg => (ht3.footLt hg).1) hb03.size)) (hs'.keepsF hst5.keeps fun g h1 h2 => hd3 g h1 h2) ht5 (fun g h1 h2 => hst5.apart (F := foot s' rs') (fun g hg => (hs'.footLt hg).2) (fun g h3 h4 => hd3 g h4 h3) g h2 h1) (by rw [List.length_append, List.length_singleton]; omega) ?_ ?_
      · rw [h4']; simp
      · rw [eQ, addAt, if_neg (by omega), h4']; simp
    · have h4' : tabRow (insP (L.take k.toNat)) (L.getD k.toNat 0) < (insQ L k.toNat).length := by have := ne_of_beq_false h4; omega
      refine fin w3 t rt _ hb03 hs' ht3 hd3 h4' (hQ _ (by rw [getD_SS h4']; exact List.getElem_mem h4')) ?_
      rw [eQ, addAt, if_pos h4']
  · rw [spec_l19Insert.A4_0_s]
    have e : k.toNat = L.length := by omega
    rw [e, List.take_length] at hs
    rw [e] at ht
    exact ⟨s, t, rs, rt, rfl, hs, ht, hd, hb⟩
open Classical in
theorem c_specInsertPermO {w : World} {a : Sl} {L : List Int} (ha : RowI w a L) (hL : L.length < 2^38) :
    Calls PP F.spec_InsertPerm #[a.v] w fun e w' => ∃ (s t : Sl) (rs rt : List Sl), e = .returned (.tuple #[s.v, t.v, .bool (InsertPermV2 L)]) ∧ OwnRows w' w.heap.size s rs (InsertPermV L) ∧ OwnRows w' w.heap.size t rt (InsertPermV1 L) ∧ (∀ g, foot s rs g → ¬ foot t rt g) ∧ Below w.heap.size w w' := by
  refine spec_InsertPerm.calls a ?_
  rw [spec_InsertPerm.E_s]
  refine Quiet.call1 (s := .bool) (c_specIsPerm ha hL) ?_
  intro w1 hd1
  have hb1 := hd1.below w.heap.size
  refine bif_intro (fun h => ?_) (fun h => ?_)
  · have hn : ¬ IsP L := fun hh => by simp [hh] at h
    refine lit0 oneSint (B := w.heap.size) hb1.size ?_
    intro s0 w2 hs0 hg2 hc2
    have hb2 := below_of_grow hg2
    have hb02 := hb1.trans (hb2.mono hb1.size)
    refine lit0 oneSint (B := w.heap.size) hb02.size ?_
    intro t0 w3 ht0 hg3 hc3
    have hb3 := below_of_grow hg3
    refine ⟨s0, t0, [], [], ?_⟩
    rw [InsertPermV, InsertPermV1, InsertPermV2, if_neg hn, if_neg hn, decide_eq_false hn]
    exact ⟨rfl, (OwnRows.nil hs0).grow hb3, OwnRows.nil ht0, fun g hg => by simp [foot, Sl.blk, hc2] at hg, hb02.trans (hb3.mono hb02.size)⟩
  · have hP : IsP L := by simpa using h
    refine (c_l19Insert (ha.grow hb1) (by have := hP.1; omega)).mono ?_
    rintro e w2 ⟨s, t, rs, rt, rfl, h1, h2, h3, h4⟩
    refine ⟨s, t, rfl, s, t, rs, rt, ?_⟩
    rw [InsertPermV, InsertPermV1, InsertPermV2, if_pos hP, if_pos hP, decide_eq_true hP]
    exact ⟨rfl, h1.mono hb1.size, h2.mono hb1.size, h3, hb1.trans (h4.mono hb1.size)⟩
open Classical in
theorem c_specInsertPerm {w : World} {a : Sl} {L : List Int} (ha : RowI w a L) (hL : L.length < 2^38) :
    Calls PP F.spec_InsertPerm #[a.v] w fun e w' => ∃ (s t : Sl), e = .returned (.tuple #[s.v, t.v, .bool (InsertPermV2 L)]) ∧ RowSS w' s (InsertPermV L) ∧ RowSS w' t (InsertPermV1 L) ∧ Below w.heap.size w w' :=
  (c_specInsertPermO ha hL).mono fun _ _ ⟨s, t, _, _, h1, h2, h3, _, h4⟩ => ⟨s, t, h1, h2.row, h3.row, h4⟩
end Go.Proofs.Ytdchjhhpbdekeaa

/- Forms of tableaux: both tests answer alike. -/
namespace Go.Proofs.Ytdchjhhpbdekeaa
open Go Go.RowKit
set_option maxRecDepth 100000

/-- The sum of the first k numbers. -/
def sm (L : List Int) : Nat → Int
  | 0 => 0
  | k + 1 => sm L k + L.getD k 0
def fOk (L : List Int) (most : Int) (j : Nat) : Prop := 1 ≤ L.getD j 0 ∧ sm L j + L.getD j 0 ≤ most ∧ (0 < j → L.getD j 0 ≤ L.getD (j - 1) 0)
def FormOk (L : List Int) (most : Int) : Prop := ∀ j, j < L.length → fOk L most j
theorem sm_ge {L : List Int} {k : Nat} (h : ∀ j, j < k → 1 ≤ L.getD j 0) : (k : Int) ≤ sm L k := by
  induction k with
  | zero => simp [sm]
  | succ k ih =>
    have := ih (fun j hj => h j (by omega))
    have := h k (by omega)
    simp only [sm]; omega
theorem sm_mono {L : List Int} {k n : Nat} (hkn : k ≤ n) (h : ∀ j, j < n → 1 ≤ L.getD j 0) : sm L k ≤ sm L n := by
  induction n with
  | zero => have : k = 0 := by omega
            subst this; exact Int.le_refl _
  | succ n ih =>
    rcases Nat.lt_or_ge n k with h1 | h1
    · have : k = n + 1 := by omega
      subst this; exact Int.le_refl _
    · have := ih h1 (fun j hj => h j (by omega))
      have := h n (by omega)
      simp only [sm]; omega
open Classical in
theorem c_isForm {w : World} {a : Sl} {L : List Int} (ha : RowI w a L) (hL : L.length < 2^39) (hbd : ∀ x ∈ L, -9223372036854775808 ≤ x ∧ x ≤ 9223372036854775807) {most : Int} (hm : 0 ≤ most) (hm2 : most ≤ 100) :
    Quiet F.impl_isForm #[a.v, vI most] w (.bool (decide (FormOk L most))) := by
  intro w1 hd
  have han : a.n = L.length := by have := ha.n; simpa using this
  refine impl_isForm.calls a most ?_
  rw [impl_isForm.E_s]
  refine impl_isForm.L3_rule _ _ _ _ _ _ _ _ (I := fun sum k w' => w' = w1 ∧ 0 ≤ k ∧ k ≤ L.length ∧ sum = sm L k.toNat ∧ 0 ≤ sum ∧ sum ≤ most ∧ ∀ j, j < k.toNat → fOk L most j) (μ := fun _ k _ => (L.length - k).toNat)
    ⟨rfl, by omega, by omega, rfl, by omega, hm, fun j hj => by simp at hj⟩ ?_
  rintro sum k w' ⟨rfl, h0, hk, hs, hs0, hsm, hall⟩
  have hsucc : (k + 1).toNat = k.toNat + 1 := by omega
  have bad : k < L.length → ¬ fOk L most k.toNat → impl_isForm.q1 std (fun e w'' => e = .returned (.bool (decide (FormOk L most))) ∧ Drew w' w'') .ret [(4, .bool false)] w' := by
    intro hk3 hb
    rw [impl_isForm.R3_s]
    have : ¬ FormOk L most := fun h => hb (h k.toNat (by omega))
    exact ⟨by simp [this], Drew.refl _⟩
  have good : k < L.length → fOk L most k.toNat → ∃ sum_5_n t10_n, impl_isForm.emb3 a most (w64 (sum + L.getD k.toNat 0)) a (a.n : Int) (w64 (k + 1)) = impl_isForm.emb3 a most sum_5_n a (a.n : Int) t10_n ∧
      (w' = w' ∧ 0 ≤ t10_n ∧ t10_n ≤ L.length ∧ sum_5_n = sm L t10_n.toNat ∧ 0 ≤ sum_5_n ∧ sum_5_n ≤ most ∧ ∀ j, j < t10_n.toNat → fOk L most j) ∧ (L.length - t10_n).toNat < (L.length - k).toNat := by
    intro hk3 hg
    obtain ⟨g1, g2, g3⟩ := hg
    refine ⟨sm L (k.toNat + 1), k + 1, ?_, ⟨rfl, by omega, by omega, by rw [hsucc], ?_, ?_, fun j hj => ?_⟩, by omega⟩
    · rw [w64_succ h0 (by omega), w64_id (by omega) (by omega), hs]; rfl
    · simp only [sm]; omega
    · simp only [sm]; omega
    · by_cases hj2 : j < k.toNat
      · exact hall j hj2
      · have : j = k.toNat := by omega
        subst this; exact ⟨g1, g2, g3⟩
  rw [impl_isForm.B3_s]
  refine bif_dec (fun h3 => ?_) (fun h3 => ?_)
  · have hlt : k.toNat < L.length := by omega
    refine RowI.get (ha.heap hd.heap') h0 (by omega) ?_
    refine bif_dec (fun h4 => bad (by omega) fun hg => by have := hg.1; omega) (fun h4 => ?_)
    rw [w64_id (n := most - sum) (by omega) (by omega)]
    refine bif_dec (fun h5 => bad (by omega) fun hg => by have := hg.2.1; omega) (fun h5 => ?_)
    refine bif_dec (fun h6 => ?_) (fun h6 => ?_)
    · rw [w64_id (n := k - 1) (by omega) (by omega)]
      refine RowI.get (ha.heap hd.heap') (by omega) (by omega) ?_
      have e1 : (k - 1).toNat = k.toNat - 1 := by omega
      rw [e1]
      refine bif_dec (fun h7 => bad (by omega) fun hg => by have := hg.2.2 (by omega); omega) (fun h7 => ?_)
      exact good (by omega) ⟨by omega, by omega, fun _ => by omega⟩
    · exact good (by omega) ⟨by omega, by omega, fun h => by omega⟩
  · rw [impl_isForm.A3_0_s]
    have : FormOk L most := fun j hj => hall j (by omega)
    exact ⟨by simp [this], Drew.refl _⟩

open Classical in
theorem c_l19Form {w : World} {a : Sl} {L : List Int} (ha : RowI w a L) (hL : L.length < 2^39) {most : Int} (hm : 0 ≤ most) (hm2 : most ≤ 100) :
    Quiet F.spec_l19Form #[a.v, vI most] w (.bool (decide (FormOk L most))) := by
  intro w1 hd
  have han : a.n = L.length := by have := ha.n; simpa using this
  refine spec_l19Form.calls a most ?_
  rw [spec_l19Form.E_s]
  refine spec_l19Form.L3_rule _ _ _ _ _ _ (I := fun sum k w' => Drew w1 w' ∧ 0 ≤ k ∧ k ≤ L.length ∧ k ≤ most ∧ sum = sm L k.toNat ∧ 0 ≤ sum ∧ sum ≤ k * 100 ∧
      ∀ j, j < k.toNat → 1 ≤ L.getD j 0 ∧ (0 < j → L.getD j 0 ≤ L.getD (j - 1) 0)) (μ := fun _ k _ => (L.length - k).toNat)
    ⟨Drew.refl _, by omega, by omega, hm, rfl, by omega, by omega, fun j hj => by simp at hj⟩ ?_
  rintro sum k w' ⟨hd2, h0, hk, hkm, hs, hs0, hsm, hall⟩
  have hh : w'.heap = w.heap := (hd.trans hd2).heap'
  have hsucc : (k + 1).toNat = k.toNat + 1 := by omega
  have bad : ∀ w2, Drew w' w2 → k < L.length → ¬ (FormOk L most) → spec_l19Form.q1 std (fun e w'' => e = .returned (.bool (decide (FormOk L most))) ∧ Drew w1 w'') .ret [(4, .bool false)] w2 := by
    intro w2 hd3 hk3 this
    rw [spec_l19Form.R3_s]
    exact ⟨by simp [this], hd2.trans hd3⟩
  have good : ∀ w2, Drew w' w2 → k < L.length → k < most → 1 ≤ L.getD k.toNat 0 → L.getD k.toNat 0 ≤ most → (0 < k.toNat → L.getD k.toNat 0 ≤ L.getD (k.toNat - 1) 0) →
     ∃ sum_5_n k_6_n, spec_l19Form.emb3 a most (w64 (sum + L.getD k.toNat 0)) (w64 (k + 1)) = spec_l19Form.emb3 a most sum_5_n k_6_n ∧
      (Drew w1 w2 ∧ 0 ≤ k_6_n ∧ k_6_n ≤ L.length ∧ k_6_n ≤ most ∧ sum_5_n = sm L k_6_n.toNat ∧ 0 ≤ sum_5_n ∧ sum_5_n ≤ k_6_n * 100 ∧ ∀ j, j < k_6_n.toNat → 1 ≤ L.getD j 0 ∧ (0 < j → L.getD j 0 ≤ L.getD (j - 1) 0)) ∧ (L.length - k_6_n).toNat < (L.length - k).toNat := by
    intro w2 hd3 hk3 hkm2 g1 g2 g3
    refine ⟨sm L (k.toNat + 1), k + 1, ?_, ⟨hd2.trans hd3, by omega, by omega, by omega, by rw [hsucc], ?_, ?_, fun j hj => ?_⟩, by omega⟩
    · rw [w64_succ h0 (by omega), w64_id (by omega) (by omega), hs]; rfl
    · simp only [sm]; omega
    · simp only [sm]; omega
    · by_cases hj2 : j < k.toNat
      · exact hall j hj2
      · have : j = k.toNat := by omega
        subst this; exact ⟨g1, g3⟩
  rw [spec_l19Form.B3_s]
  refine bif_dec (fun h3 => ?_) (fun h3 => ?_)
  · have hlt : k.toNat < L.length := by omega
    have nb : ¬ fOk L most k.toNat → ¬ FormOk L most := fun hb h => hb (h k.toNat hlt)
    have toobig : ¬ k < most → ¬ FormOk L most := fun hb h => by
      have h1 := sm_ge (L := L) (k := k.toNat) (fun j hj => (hall j hj).1)
      have h2 := (h k.toNat hlt)
      have h3 := h2.1
      have h4 := h2.2.1
      omega
    refine RowI.get (ha.heap hh) h0 (by omega) ?_
    refine bif_dec (fun h4 => drew_intro fun w2 hd3 => bad w2 hd3 (by omega) (nb fun hg => by have := hg.1; omega)) (fun h4 => ?_)
    refine RowI.get (ha.heap hh) h0 (by omega) ?_
    refine bif_dec (fun h5 => drew_intro fun w2 hd3 => bad w2 hd3 (by omega) (nb fun hg => by have := hg.2.1; omega)) (fun h5 => ?_)
    refine bif_dec (fun h6 => ?_) (fun h6 => ?_)
    · refine RowI.get (ha.heap hh) h0 (by omega) ?_
      rw [w64_id (n := k - 1) (by omega) (by omega)]
      refine RowI.get (ha.heap hh) (by omega) (by omega) ?_
      have e1 : (k - 1).toNat = k.toNat - 1 := by omega
      rw [e1]
      refine bif_dec (fun h7 => drew_intro fun w2 hd3 => bad w2 hd3 (by omega) (nb fun hg => by have := hg.2.2 (by omega); omega)) (fun h7 => ?_)
      refine drew_intro fun w2 hd3 => ?_
      refine bif_dec (fun h8 => bad w2 hd3 (by omega) (toobig (by omega))) (fun h8 => ?_)
      refine RowI.get (ha.heap (hd3.heap'.trans hh)) h0 (by omega) ?_
      exact good w2 hd3 (by omega) (by omega) (by omega) (by omega) (fun _ => by omega)
    · refine drew_intro fun w2 hd3 => ?_
      refine bif_dec (fun h8 => bad w2 hd3 (by omega) (toobig (by omega))) (fun h8 => ?_)
      refine RowI.get (ha.heap (hd3.heap'.trans hh)) h0 (by omega) ?_
      exact good w2 hd3 (by omega) (by omega) (by omega) (by omega) (fun h => by omega)
  · rw [spec_l19Form.A3_0_s]
    have e : k.toNat = L.length := by omega
    rw [e] at hs hall
    have : sum ≤ most ↔ FormOk L most := by
      constructor
      · intro h j hj
        have h1 := sm_mono (L := L) (k := j + 1) (n := L.length) (by omega) (fun j hj => (hall j hj).1)
        simp only [sm] at h1
        exact ⟨(hall j hj).1, by omega, (hall j hj).2⟩
      · intro h
        rw [hs]
        rcases Nat.eq_zero_or_pos L.length with h1 | h1
        · rw [h1]; exact hm
        · have h2 := (h (L.length - 1) (by omega)).2.1
          have : L.length = (L.length - 1) + 1 := by omega
          rw [this]; exact h2
    exact ⟨by simp [this], hd2⟩
end Go.Proofs.Ytdchjhhpbdekeaa
