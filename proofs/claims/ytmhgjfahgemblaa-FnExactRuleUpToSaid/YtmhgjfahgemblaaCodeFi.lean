/- What each function does, step by step, written by a program (Gen.lean); each equation is checked by the kernel. -/
import Derived.Test.YtmhgjfahgemblaaHead
namespace Go.Proofs.Ytmhgjfahgemblaa
open Go
set_option linter.unusedVariables false
set_option maxRecDepth 100000
namespace spec_l7Find
@[reducible] def cfg : Cfg := ⟨54, [(7, [0, 1, 2, 3, 10])], [(1, [0, 1, 2, 3, 10]), (0, [3])], [(6, [0, 1, 2, 3, 9])], [8], [], [62, 10, 22, 58, 24, 44, 18, 70, 43, 85, 25, 71, 59, 37, 63], [82, 113, 102, 38, 103, 26, 60]⟩
def q4 (pr : Prims) (R : Ending → World → Prop) : Exit → Env → World → Prop := fun ex e w => normQ ex (fun e w => contE pr cfg (sub (codeOf Try.f31) [1, 1, 1, 1]) (fun e w => wpC pr PP cfg (DD pr) (sub (codeOf Try.f31) [1, 1, 1, 1]) (retQ Try.f31.results.toList R) e w) e w) (retQ Try.f31.results.toList R) e w
def q7 (pr : Prims) (R : Ending → World → Prop) : Exit → Env → World → Prop := fun ex e w => normQ ex (fun e w => contE pr cfg (sub (codeOf Try.f31) [1, 1, 1, 1, 1]) (fun e w => wpC pr PP cfg (DD pr) (sub (codeOf Try.f31) [1, 1, 1, 1, 1]) (retQ Try.f31.results.toList R) e w) e w) (retQ Try.f31.results.toList R) e w
def q8 (pr : Prims) (R : Ending → World → Prop) : Exit → Env → World → Prop := fun ex e w => blockQ ex 0 (q7 pr R) e w
def j6 (p_0 : Sl) (q_1 : Sl) (head_2 : Sl) (out_3 : Sl) (from_9 : Int) : Env := [(0, Sl.v p_0), (1, Sl.v q_1), (2, Sl.v head_2), (3, Sl.v out_3), (9, vI from_9)]
def emb7 (p_0 : Sl) (q_1 : Sl) (head_2 : Sl) (out_3 : Sl) (x_10 : Int) : Env := [(0, Sl.v p_0), (1, Sl.v q_1), (2, Sl.v head_2), (3, Sl.v out_3), (10, vI x_10)]
def x0 (out_3 : Sl) : Env := [(3, Sl.v out_3)]
def S7 (pr : Prims) (Q : Exit → Env → World → Prop) : (Env → World → Prop) → Env → World → Prop := fun k e w => wpC pr PP cfg (DD pr) (sub (codeOf Try.f31) [1, 1, 1, 1, 0, 1, 0, 0]) (fun ex e w => normQ ex (fun e' w' => k (Env.restr e' (lookN cfg.loops (keyOf (sub (codeOf Try.f31) [1, 1, 1, 1, 0, 1, 0, 0])))) w') Q e w) e w
def B7 (pr : Prims) (p_0 : Sl) (q_1 : Sl) (head_2 : Sl) (out_3 : Sl) (x_10 : Int) (w : World) (k : Env → World → Prop) (Q : Exit → Env → World → Prop) : Prop :=
  S7 pr Q k (emb7 p_0 q_1 head_2 out_3 x_10) w
def L7 (pr : Prims) (p_0 : Sl) (q_1 : Sl) (head_2 : Sl) (out_3 : Sl) (x_10 : Int) (w : World) (Q : Exit → Env → World → Prop) : Prop :=
  pr.loop (S7 pr Q) (emb7 p_0 q_1 head_2 out_3 x_10) w
def J6 (pr : Prims) (p_0 : Sl) (q_1 : Sl) (head_2 : Sl) (out_3 : Sl) (from_9 : Int) (w : World) (R : Ending → World → Prop) : Prop :=
  pr.seg (fun e w => wpC pr PP cfg (DD pr) (sub (codeOf Try.f31) [1, 1, 1, 1]) (retQ Try.f31.results.toList R) e w) (j6 p_0 q_1 head_2 out_3 from_9) w
def E (pr : Prims) (p_0 : Sl) (q_1 : Sl) (head_2 : Sl) (out_3 : Sl) (w : World) (R : Ending → World → Prop) : Prop :=
  wpC pr PP cfg (DD pr) (codeOf Try.f31) (retQ Try.f31.results.toList R) (argE 0 [Sl.v p_0, Sl.v q_1, Sl.v head_2, Sl.v out_3]) w
theorem B7_eq (pr : Prims) (p_0 : Sl) (q_1 : Sl) (head_2 : Sl) (out_3 : Sl) (x_10 : Int) (w : World) (k : Env → World → Prop) (Q : Exit → Env → World → Prop) : B7 pr p_0 q_1 head_2 out_3 x_10 w k Q = (
  bif decide (x_10 ≤ (p_0.n : Int)) then (
  pr.sem1 .sl PP (Instr.buildSlice T_Sint 0 #[]) w fun (ρ9 : Sl) ω10 =>
  pr.sem1 .sl PP (Builtin.append_ #[T_Sint, T_Sint] T_Sint #[Sl.v ρ9, Sl.v head_2]) ω10 fun (ρ11 : Sl) ω12 =>
  pr.sem1 .sl PP (Instr.buildSlice T_Sint 1 #[(0, vI x_10)]) ω12 fun (ρ13 : Sl) ω14 =>
  pr.sem1 .sl PP (Builtin.append_ #[T_Sint, T_Sint] T_Sint #[Sl.v ρ11, Sl.v ρ13]) ω14 fun (ρ15 : Sl) ω16 =>
  pr.call1 .bool PP F.spec_l7Fits #[Sl.v p_0, Sl.v q_1, Sl.v ρ15] ω16 fun (ρ17 : Bool) ω18 =>
  bif ρ17 then (
  pr.call1 .sl PP F.spec_l7Find #[Sl.v p_0, Sl.v q_1, Sl.v ρ15, Sl.v out_3] ω18 fun (ρ19 : Sl) ω20 =>
  k (emb7 p_0 q_1 head_2 ρ19 (w64 (x_10 + 1))) ω20)
  else (
  k (emb7 p_0 q_1 head_2 out_3 (w64 (x_10 + 1))) ω18))
  else (
  Q (.exit 0) (x0 out_3) w)) := by kernel_rfl
theorem B7_s (p_0 : Sl) (q_1 : Sl) (head_2 : Sl) (out_3 : Sl) (x_10 : Int) (w : World) (k : Env → World → Prop) (Q : Exit → Env → World → Prop) : B7 std p_0 q_1 head_2 out_3 x_10 w k Q = (
  bif decide (x_10 ≤ (p_0.n : Int)) then (
  sem1 .sl PP (Instr.buildSlice T_Sint 0 #[]) w fun (ρ9 : Sl) ω10 =>
  sem1 .sl PP (Builtin.append_ #[T_Sint, T_Sint] T_Sint #[Sl.v ρ9, Sl.v head_2]) ω10 fun (ρ11 : Sl) ω12 =>
  sem1 .sl PP (Instr.buildSlice T_Sint 1 #[(0, vI x_10)]) ω12 fun (ρ13 : Sl) ω14 =>
  sem1 .sl PP (Builtin.append_ #[T_Sint, T_Sint] T_Sint #[Sl.v ρ11, Sl.v ρ13]) ω14 fun (ρ15 : Sl) ω16 =>
  call1 .bool PP F.spec_l7Fits #[Sl.v p_0, Sl.v q_1, Sl.v ρ15] ω16 fun (ρ17 : Bool) ω18 =>
  bif ρ17 then (
  call1 .sl PP F.spec_l7Find #[Sl.v p_0, Sl.v q_1, Sl.v ρ15, Sl.v out_3] ω18 fun (ρ19 : Sl) ω20 =>
  k (emb7 p_0 q_1 head_2 ρ19 (w64 (x_10 + 1))) ω20)
  else (
  k (emb7 p_0 q_1 head_2 out_3 (w64 (x_10 + 1))) ω18))
  else (
  Q (.exit 0) (x0 out_3) w)) := B7_eq std p_0 q_1 head_2 out_3 x_10 w k Q
theorem L7_rule (p_0 : Sl) (q_1 : Sl) (head_2 : Sl) (out_3 : Sl) (x_10 : Int) (w : World) (Q : Exit → Env → World → Prop) (I : Sl → Int → World → Prop) (μ : Sl → Int → World → Nat) (h0 : I out_3 x_10 w)
    (h : ∀ (out_3 : Sl) (x_10 : Int) (w' : World), I out_3 x_10 w' → B7 std p_0 q_1 head_2 out_3 x_10 w' (fun e2 w2 => ∃ out_3_n x_10_n, e2 = emb7 p_0 q_1 head_2 out_3_n x_10_n ∧ I out_3_n x_10_n w2 ∧ μ out_3_n x_10_n w2 < μ out_3 x_10 w') Q) :
    L7 std p_0 q_1 head_2 out_3 x_10 w Q := by
  unfold L7
  refine LoopE.intro (σ := Sl × Int) (step := S7 std Q) (fun s => emb7 p_0 q_1 head_2 s.1 s.2) (fun s w => I s.1 s.2 w) (fun s w => μ s.1 s.2 w) (out_3, x_10) rfl h0 ?_
  intro s w' hI
  have h1 := h s.1 s.2 w' hI
  unfold B7 at h1
  simp only [Prod.exists]
  exact h1
theorem A7_0_eq (pr : Prims) (out_3 : Sl) (w : World) (R : Ending → World → Prop) : (q8 pr R) (.exit 0) (x0 out_3) w = (
  R (.returned (Sl.v out_3)) w) := by kernel_rfl
theorem A7_0_s (out_3 : Sl) (w : World) (R : Ending → World → Prop) : (q8 std R) (.exit 0) (x0 out_3) w = (
  R (.returned (Sl.v out_3)) w) := A7_0_eq std out_3 w R
theorem J6_gen (pr : Prims) (p_0 : Sl) (q_1 : Sl) (head_2 : Sl) (out_3 : Sl) (from_9 : Int) (w : World) (R : Ending → World → Prop) : wpC pr PP cfg (DD pr) (sub (codeOf Try.f31) [1, 1, 1, 1]) (retQ Try.f31.results.toList R) (j6 p_0 q_1 head_2 out_3 from_9) w = (
  L7 pr p_0 q_1 head_2 out_3 from_9 w (q8 pr R)) := by kernel_rfl
theorem J6_s (p_0 : Sl) (q_1 : Sl) (head_2 : Sl) (out_3 : Sl) (from_9 : Int) (w : World) (R : Ending → World → Prop) : J6 std p_0 q_1 head_2 out_3 from_9 w R = (
  L7 std p_0 q_1 head_2 out_3 from_9 w (q8 std R)) := J6_gen std p_0 q_1 head_2 out_3 from_9 w R
theorem E_eq (pr : Prims) (p_0 : Sl) (q_1 : Sl) (head_2 : Sl) (out_3 : Sl) (w : World) (R : Ending → World → Prop) : E pr p_0 q_1 head_2 out_3 w R = (
  bif (head_2.n : Int) == (q_1.n : Int) then (
  pr.sem1 .sl PP (Instr.buildSlice T_SSint 1 #[(0, Sl.v head_2)]) w fun (ρ0 : Sl) ω1 =>
  pr.sem1 .sl PP (Builtin.append_ #[T_SSint, T_SSint] T_SSint #[Sl.v out_3, Sl.v ρ0]) ω1 fun (ρ2 : Sl) ω3 =>
  R (.returned (Sl.v ρ2)) ω3)
  else (
  bif decide ((head_2.n : Int) > 0) then (
  pr.idxK 1 head_2 (w64 ((head_2.n : Int) - 1)) fun (a5 : Addr) =>
  pr.load1 (.int .i64) a5 w fun (ξ6 : Int) =>
  J6 pr p_0 q_1 head_2 out_3 (w64 (ξ6 + 1)) w R)
  else (
  J6 pr p_0 q_1 head_2 out_3 1 w R))) := by kernel_rfl
theorem E_s (p_0 : Sl) (q_1 : Sl) (head_2 : Sl) (out_3 : Sl) (w : World) (R : Ending → World → Prop) : E std p_0 q_1 head_2 out_3 w R = (
  bif (head_2.n : Int) == (q_1.n : Int) then (
  sem1 .sl PP (Instr.buildSlice T_SSint 1 #[(0, Sl.v head_2)]) w fun (ρ0 : Sl) ω1 =>
  sem1 .sl PP (Builtin.append_ #[T_SSint, T_SSint] T_SSint #[Sl.v out_3, Sl.v ρ0]) ω1 fun (ρ2 : Sl) ω3 =>
  R (.returned (Sl.v ρ2)) ω3)
  else (
  bif decide ((head_2.n : Int) > 0) then (
  idxK 1 head_2 (w64 ((head_2.n : Int) - 1)) fun (a5 : Addr) =>
  load1 (.int .i64) a5 w fun (ξ6 : Int) =>
  J6 std p_0 q_1 head_2 out_3 (w64 (ξ6 + 1)) w R)
  else (
  J6 std p_0 q_1 head_2 out_3 1 w R))) := E_eq std p_0 q_1 head_2 out_3 w R
theorem drawsOk : drawsOk PP cfg okD (codeOf Try.f31) = true := by kernel_rfl
theorem calls (p_0 : Sl) (q_1 : Sl) (head_2 : Sl) (out_3 : Sl) {w : World} {R : Ending → World → Prop} (h : E std p_0 q_1 head_2 out_3 w R) : Calls PP F.spec_l7Find #[Sl.v p_0, Sl.v q_1, Sl.v head_2, Sl.v out_3] w R :=
  calls_of noCount mixed drawOk Try.func31 rfl (c := cfg) (args := [Sl.v p_0, Sl.v q_1, Sl.v head_2, Sl.v out_3]) rfl (Nat.le_of_ble_eq_true (by kernel_rfl)) drawsOk h
end spec_l7Find

namespace spec_l7Has
@[reducible] def cfg : Cfg := ⟨12, [], [], [], [4], [], [62, 10, 22, 58, 24, 44, 18, 70, 43, 85, 25, 71, 59, 37, 63], [82, 113, 102, 38, 103, 26, 60]⟩
def E (pr : Prims) (p_0 : Sl) (q_1 : Sl) (w : World) (R : Ending → World → Prop) : Prop :=
  wpC pr PP cfg (DD pr) (codeOf Try.f30) (retQ Try.f30.results.toList R) (argE 0 [Sl.v p_0, Sl.v q_1]) w
theorem E_eq (pr : Prims) (p_0 : Sl) (q_1 : Sl) (w : World) (R : Ending → World → Prop) : E pr p_0 q_1 w R = (
  pr.sem1 .sl PP (Instr.buildSlice T_Sint 0 #[]) w fun (ρ0 : Sl) ω1 =>
  pr.sem1 .sl PP (Instr.buildSlice T_SSint 0 #[]) ω1 fun (ρ2 : Sl) ω3 =>
  pr.call1 .sl PP F.spec_l7Find #[Sl.v p_0, Sl.v q_1, Sl.v ρ0, Sl.v ρ2] ω3 fun (ρ4 : Sl) ω5 =>
  R (.returned (.bool (decide ((ρ4.n : Int) > 0)))) ω5) := by kernel_rfl
theorem E_s (p_0 : Sl) (q_1 : Sl) (w : World) (R : Ending → World → Prop) : E std p_0 q_1 w R = (
  sem1 .sl PP (Instr.buildSlice T_Sint 0 #[]) w fun (ρ0 : Sl) ω1 =>
  sem1 .sl PP (Instr.buildSlice T_SSint 0 #[]) ω1 fun (ρ2 : Sl) ω3 =>
  call1 .sl PP F.spec_l7Find #[Sl.v p_0, Sl.v q_1, Sl.v ρ0, Sl.v ρ2] ω3 fun (ρ4 : Sl) ω5 =>
  R (.returned (.bool (decide ((ρ4.n : Int) > 0)))) ω5) := E_eq std p_0 q_1 w R
theorem drawsOk : drawsOk PP cfg okD (codeOf Try.f30) = true := by kernel_rfl
theorem calls (p_0 : Sl) (q_1 : Sl) {w : World} {R : Ending → World → Prop} (h : E std p_0 q_1 w R) : Calls PP F.spec_l7Has #[Sl.v p_0, Sl.v q_1] w R :=
  calls_of noCount mixed drawOk Try.func30 rfl (c := cfg) (args := [Sl.v p_0, Sl.v q_1]) rfl (Nat.le_of_ble_eq_true (by kernel_rfl)) drawsOk h
end spec_l7Has

namespace spec_l7Fits
@[reducible] def cfg : Cfg := ⟨44, [(3, [0, 1, 2, 7, 8])], [(1, [0, 1, 2, 7, 8]), (0, [])], [], [6], [5], [62, 10, 22, 58, 24, 44, 18, 70, 43, 85, 25, 71, 59, 37, 63], [82, 113, 102, 38, 103, 26, 60]⟩
def q0 (pr : Prims) (R : Ending → World → Prop) : Exit → Env → World → Prop := fun ex e w => normQ ex (fun e w => contE pr cfg (sub (codeOf Try.f63) [1, 1, 1]) (fun e w => wpC pr PP cfg (DD pr) (sub (codeOf Try.f63) [1, 1, 1]) (retQ Try.f63.results.toList R) e w) e w) (retQ Try.f63.results.toList R) e w
def q1 (pr : Prims) (R : Ending → World → Prop) : Exit → Env → World → Prop := fun ex e w => blockQ ex 0 (q0 pr R) e w
def emb3 (p_0 : Sl) (q_1 : Sl) (places_2 : Sl) (last_7 : Int) (k_8 : Int) : Env := [(0, Sl.v p_0), (1, Sl.v q_1), (2, Sl.v places_2), (7, vI last_7), (8, vI k_8)]
def x0 : Env := []
def S3 (pr : Prims) (Q : Exit → Env → World → Prop) : (Env → World → Prop) → Env → World → Prop := fun k e w => wpC pr PP cfg (DD pr) (sub (codeOf Try.f63) [1, 1, 0, 1, 0, 0]) (fun ex e w => normQ ex (fun e' w' => k (Env.restr e' (lookN cfg.loops (keyOf (sub (codeOf Try.f63) [1, 1, 0, 1, 0, 0])))) w') Q e w) e w
def B3 (pr : Prims) (p_0 : Sl) (q_1 : Sl) (places_2 : Sl) (last_7 : Int) (k_8 : Int) (w : World) (k : Env → World → Prop) (Q : Exit → Env → World → Prop) : Prop :=
  S3 pr Q k (emb3 p_0 q_1 places_2 last_7 k_8) w
def L3 (pr : Prims) (p_0 : Sl) (q_1 : Sl) (places_2 : Sl) (last_7 : Int) (k_8 : Int) (w : World) (Q : Exit → Env → World → Prop) : Prop :=
  pr.loop (S3 pr Q) (emb3 p_0 q_1 places_2 last_7 k_8) w
def E (pr : Prims) (p_0 : Sl) (q_1 : Sl) (places_2 : Sl) (w : World) (R : Ending → World → Prop) : Prop :=
  wpC pr PP cfg (DD pr) (codeOf Try.f63) (retQ Try.f63.results.toList R) (argE 0 [Sl.v p_0, Sl.v q_1, Sl.v places_2]) w
theorem B3_eq (pr : Prims) (p_0 : Sl) (q_1 : Sl) (places_2 : Sl) (last_7 : Int) (k_8 : Int) (w : World) (k : Env → World → Prop) (Q : Exit → Env → World → Prop) : B3 pr p_0 q_1 places_2 last_7 k_8 w k Q = (
  bif decide (k_8 < last_7) then (
  pr.idxK 1 q_1 k_8 fun (a2 : Addr) =>
  pr.load1 (.int .i64) a2 w fun (ξ3 : Int) =>
  pr.idxK 1 q_1 last_7 fun (a4 : Addr) =>
  pr.load1 (.int .i64) a4 w fun (ξ5 : Int) =>
  pr.idxK 1 places_2 k_8 fun (a6 : Addr) =>
  pr.load1 (.int .i64) a6 w fun (ξ7 : Int) =>
  pr.idxK 1 p_0 (w64 (ξ7 - 1)) fun (a8 : Addr) =>
  pr.load1 (.int .i64) a8 w fun (ξ9 : Int) =>
  pr.idxK 1 places_2 last_7 fun (a10 : Addr) =>
  pr.load1 (.int .i64) a10 w fun (ξ11 : Int) =>
  pr.idxK 1 p_0 (w64 (ξ11 - 1)) fun (a12 : Addr) =>
  pr.load1 (.int .i64) a12 w fun (ξ13 : Int) =>
  pr.drewAll w fun ω14 =>
  bif !((decide (ξ3 < ξ5)) == (decide (ξ9 < ξ13))) then (
  Q .ret [(6, .bool false)] ω14)
  else (
  k (emb3 p_0 q_1 places_2 last_7 (w64 (k_8 + 1))) ω14))
  else (
  Q (.exit 0) (x0) w)) := by kernel_rfl
theorem B3_s (p_0 : Sl) (q_1 : Sl) (places_2 : Sl) (last_7 : Int) (k_8 : Int) (w : World) (k : Env → World → Prop) (Q : Exit → Env → World → Prop) : B3 std p_0 q_1 places_2 last_7 k_8 w k Q = (
  bif decide (k_8 < last_7) then (
  idxK 1 q_1 k_8 fun (a2 : Addr) =>
  load1 (.int .i64) a2 w fun (ξ3 : Int) =>
  idxK 1 q_1 last_7 fun (a4 : Addr) =>
  load1 (.int .i64) a4 w fun (ξ5 : Int) =>
  idxK 1 places_2 k_8 fun (a6 : Addr) =>
  load1 (.int .i64) a6 w fun (ξ7 : Int) =>
  idxK 1 p_0 (w64 (ξ7 - 1)) fun (a8 : Addr) =>
  load1 (.int .i64) a8 w fun (ξ9 : Int) =>
  idxK 1 places_2 last_7 fun (a10 : Addr) =>
  load1 (.int .i64) a10 w fun (ξ11 : Int) =>
  idxK 1 p_0 (w64 (ξ11 - 1)) fun (a12 : Addr) =>
  load1 (.int .i64) a12 w fun (ξ13 : Int) =>
  drewAll w fun ω14 =>
  bif !((decide (ξ3 < ξ5)) == (decide (ξ9 < ξ13))) then (
  Q .ret [(6, .bool false)] ω14)
  else (
  k (emb3 p_0 q_1 places_2 last_7 (w64 (k_8 + 1))) ω14))
  else (
  Q (.exit 0) (x0) w)) := B3_eq std p_0 q_1 places_2 last_7 k_8 w k Q
theorem L3_rule (p_0 : Sl) (q_1 : Sl) (places_2 : Sl) (last_7 : Int) (k_8 : Int) (w : World) (Q : Exit → Env → World → Prop) (I : Int → World → Prop) (μ : Int → World → Nat) (h0 : I k_8 w)
    (h : ∀ (k_8 : Int) (w' : World), I k_8 w' → B3 std p_0 q_1 places_2 last_7 k_8 w' (fun e2 w2 => ∃ k_8_n, e2 = emb3 p_0 q_1 places_2 last_7 k_8_n ∧ I k_8_n w2 ∧ μ k_8_n w2 < μ k_8 w') Q) :
    L3 std p_0 q_1 places_2 last_7 k_8 w Q := by
  unfold L3
  refine LoopE.intro (σ := Int) (step := S3 std Q) (fun s => emb3 p_0 q_1 places_2 last_7 s) (fun s w => I s w) (fun s w => μ s w) k_8 rfl h0 ?_
  intro s w' hI
  have h1 := h s w' hI
  unfold B3 at h1
  exact h1
theorem A3_0_eq (pr : Prims) (w : World) (R : Ending → World → Prop) : (q1 pr R) (.exit 0) (x0) w = (
  R (.returned (.bool true)) w) := by kernel_rfl
theorem A3_0_s (w : World) (R : Ending → World → Prop) : (q1 std R) (.exit 0) (x0) w = (
  R (.returned (.bool true)) w) := A3_0_eq std w R
theorem R3_eq (pr : Prims) (v6 : Value) (w : World) (R : Ending → World → Prop) : (q1 pr R) .ret [(6, v6)] w = (
  R (.returned (v6)) w) := by kernel_rfl
theorem R3_s (v6 : Value) (w : World) (R : Ending → World → Prop) : (q1 std R) .ret [(6, v6)] w = (
  R (.returned (v6)) w) := R3_eq std v6 w R
theorem E_eq (pr : Prims) (p_0 : Sl) (q_1 : Sl) (places_2 : Sl) (w : World) (R : Ending → World → Prop) : E pr p_0 q_1 places_2 w R = (
  L3 pr p_0 q_1 places_2 (w64 ((places_2.n : Int) - 1)) 0 w (q1 pr R)) := by kernel_rfl
theorem E_s (p_0 : Sl) (q_1 : Sl) (places_2 : Sl) (w : World) (R : Ending → World → Prop) : E std p_0 q_1 places_2 w R = (
  L3 std p_0 q_1 places_2 (w64 ((places_2.n : Int) - 1)) 0 w (q1 std R)) := E_eq std p_0 q_1 places_2 w R
theorem drawsOk : drawsOk PP cfg okD (codeOf Try.f63) = true := by kernel_rfl
theorem calls (p_0 : Sl) (q_1 : Sl) (places_2 : Sl) {w : World} {R : Ending → World → Prop} (h : E std p_0 q_1 places_2 w R) : Calls PP F.spec_l7Fits #[Sl.v p_0, Sl.v q_1, Sl.v places_2] w R :=
  calls_of noCount mixed drawOk Try.func63 rfl (c := cfg) (args := [Sl.v p_0, Sl.v q_1, Sl.v places_2]) rfl (Nat.le_of_ble_eq_true (by kernel_rfl)) drawsOk h
end spec_l7Fits

namespace impl_has
@[reducible] def cfg : Cfg := ⟨83, [(12, [0, 1, 2, 8, 9, 10, 42, 43, 44]), (8, [0, 1, 2, 8, 9])], [(3, [0, 1, 2, 8, 9, 10, 42, 43, 44]), (2, [0, 1, 2, 8, 9, 10]), (1, [0, 1, 2, 8, 9]), (0, [])], [(6, [0, 1, 2, 7])], [6], [14], [62, 10, 22, 58, 24, 44, 18, 70, 43, 85, 25, 71, 59, 37, 63], [82, 113, 102, 38, 103, 26, 60]⟩
def q0 (pr : Prims) (R : Ending → World → Prop) : Exit → Env → World → Prop := fun ex e w => normQ ex (fun e w => contE pr cfg (sub (codeOf Try.f33) [1, 1, 1, 1]) (fun e w => wpC pr PP cfg (DD pr) (sub (codeOf Try.f33) [1, 1, 1, 1]) (retQ Try.f33.results.toList R) e w) e w) (retQ Try.f33.results.toList R) e w
def q3 (pr : Prims) (R : Ending → World → Prop) : Exit → Env → World → Prop := fun ex e w => normQ ex (fun e w => contE pr cfg (sub (codeOf Try.f33) [1, 1, 1, 1, 1, 1]) (fun e w => wpC pr PP cfg (DD pr) (sub (codeOf Try.f33) [1, 1, 1, 1, 1, 1]) (retQ Try.f33.results.toList R) e w) e w) (retQ Try.f33.results.toList R) e w
def q4 (pr : Prims) (R : Ending → World → Prop) : Exit → Env → World → Prop := fun ex e w => blockQ ex 0 (q3 pr R) e w
def q5 (pr : Prims) (k : Env → World → Prop) (Q : Exit → Env → World → Prop) : Exit → Env → World → Prop := fun ex e w => normQ ex (fun e w => contE pr cfg (sub (codeOf Try.f33) [1, 1, 1, 1, 1, 0, 1, 0, 0, 1, 1]) (fun e w => wpC pr PP cfg (DD pr) (sub (codeOf Try.f33) [1, 1, 1, 1, 1, 0, 1, 0, 0, 1, 1]) (fun ex e w => normQ ex (fun e' w' => k (Env.restr e' (lookN cfg.loops (keyOf (sub (codeOf Try.f33) [1, 1, 1, 1, 1, 0, 1, 0, 0])))) w') Q e w) e w) e w) (fun ex e w => normQ ex (fun e' w' => k (Env.restr e' (lookN cfg.loops (keyOf (sub (codeOf Try.f33) [1, 1, 1, 1, 1, 0, 1, 0, 0])))) w') Q e w) e w
def q6 (pr : Prims) (k : Env → World → Prop) (Q : Exit → Env → World → Prop) : Exit → Env → World → Prop := fun ex e w => blockQ ex 1 (q5 pr k Q) e w
def q7 (pr : Prims) (k : Env → World → Prop) (Q : Exit → Env → World → Prop) : Exit → Env → World → Prop := fun ex e w => normQ ex (fun e w => contE pr cfg (sub (codeOf Try.f33) [1, 1, 1, 1, 1, 0, 1, 0, 0, 1, 0, 0, 1, 1]) (fun e w => wpC pr PP cfg (DD pr) (sub (codeOf Try.f33) [1, 1, 1, 1, 1, 0, 1, 0, 0, 1, 0, 0, 1, 1]) (q6 pr k Q) e w) e w) (q6 pr k Q) e w
def q8 (pr : Prims) (k : Env → World → Prop) (Q : Exit → Env → World → Prop) : Exit → Env → World → Prop := fun ex e w => blockQ ex 2 (q7 pr k Q) e w
def j6 (p_0 : Sl) (q_1 : Sl) (chosen_2 : Sl) (from_7 : Int) : Env := [(0, Sl.v p_0), (1, Sl.v q_1), (2, Sl.v chosen_2), (7, vI from_7)]
def emb8 (p_0 : Sl) (q_1 : Sl) (chosen_2 : Sl) (k_8 : Int) (i_9 : Int) : Env := [(0, Sl.v p_0), (1, Sl.v q_1), (2, Sl.v chosen_2), (8, vI k_8), (9, vI i_9)]
def emb12 (p_0 : Sl) (q_1 : Sl) (chosen_2 : Sl) (k_8 : Int) (i_9 : Int) (fits_10 : Bool) (t42 : Sl) (t43 : Int) (t44 : Int) : Env := [(0, Sl.v p_0), (1, Sl.v q_1), (2, Sl.v chosen_2), (8, vI k_8), (9, vI i_9), (10, .bool fits_10), (42, Sl.v t42), (43, vI t43), (44, vI t44)]
def x2 (p_0 : Sl) (q_1 : Sl) (chosen_2 : Sl) (k_8 : Int) (i_9 : Int) (fits_10 : Bool) : Env := [(0, Sl.v p_0), (1, Sl.v q_1), (2, Sl.v chosen_2), (8, vI k_8), (9, vI i_9), (10, .bool fits_10)]
def x0 : Env := []
def S12 (pr : Prims) (Q : Exit → Env → World → Prop) : (Env → World → Prop) → Env → World → Prop := fun k e w => wpC pr PP cfg (DD pr) (sub (codeOf Try.f33) [1, 1, 1, 1, 1, 0, 1, 0, 0, 1, 0, 0, 1, 0, 1, 0, 0]) (fun ex e w => normQ ex (fun e' w' => k (Env.restr e' (lookN cfg.loops (keyOf (sub (codeOf Try.f33) [1, 1, 1, 1, 1, 0, 1, 0, 0, 1, 0, 0, 1, 0, 1, 0, 0])))) w') Q e w) e w
def S8 (pr : Prims) (Q : Exit → Env → World → Prop) : (Env → World → Prop) → Env → World → Prop := fun k e w => wpC pr PP cfg (DD pr) (sub (codeOf Try.f33) [1, 1, 1, 1, 1, 0, 1, 0, 0]) (fun ex e w => normQ ex (fun e' w' => k (Env.restr e' (lookN cfg.loops (keyOf (sub (codeOf Try.f33) [1, 1, 1, 1, 1, 0, 1, 0, 0])))) w') Q e w) e w
def B12 (pr : Prims) (p_0 : Sl) (q_1 : Sl) (chosen_2 : Sl) (k_8 : Int) (i_9 : Int) (fits_10 : Bool) (t42 : Sl) (t43 : Int) (t44 : Int) (w : World) (k : Env → World → Prop) (Q : Exit → Env → World → Prop) : Prop :=
  S12 pr Q k (emb12 p_0 q_1 chosen_2 k_8 i_9 fits_10 t42 t43 t44) w
def L12 (pr : Prims) (p_0 : Sl) (q_1 : Sl) (chosen_2 : Sl) (k_8 : Int) (i_9 : Int) (fits_10 : Bool) (t42 : Sl) (t43 : Int) (t44 : Int) (w : World) (Q : Exit → Env → World → Prop) : Prop :=
  pr.loop (S12 pr Q) (emb12 p_0 q_1 chosen_2 k_8 i_9 fits_10 t42 t43 t44) w
def B8 (pr : Prims) (p_0 : Sl) (q_1 : Sl) (chosen_2 : Sl) (k_8 : Int) (i_9 : Int) (w : World) (k : Env → World → Prop) (Q : Exit → Env → World → Prop) : Prop :=
  S8 pr Q k (emb8 p_0 q_1 chosen_2 k_8 i_9) w
def L8 (pr : Prims) (p_0 : Sl) (q_1 : Sl) (chosen_2 : Sl) (k_8 : Int) (i_9 : Int) (w : World) (Q : Exit → Env → World → Prop) : Prop :=
  pr.loop (S8 pr Q) (emb8 p_0 q_1 chosen_2 k_8 i_9) w
def J6 (pr : Prims) (p_0 : Sl) (q_1 : Sl) (chosen_2 : Sl) (from_7 : Int) (w : World) (R : Ending → World → Prop) : Prop :=
  pr.seg (fun e w => wpC pr PP cfg (DD pr) (sub (codeOf Try.f33) [1, 1, 1, 1]) (retQ Try.f33.results.toList R) e w) (j6 p_0 q_1 chosen_2 from_7) w
def E (pr : Prims) (p_0 : Sl) (q_1 : Sl) (chosen_2 : Sl) (w : World) (R : Ending → World → Prop) : Prop :=
  wpC pr PP cfg (DD pr) (codeOf Try.f33) (retQ Try.f33.results.toList R) (argE 0 [Sl.v p_0, Sl.v q_1, Sl.v chosen_2]) w
theorem B12_eq (pr : Prims) (p_0 : Sl) (q_1 : Sl) (chosen_2 : Sl) (k_8 : Int) (i_9 : Int) (fits_10 : Bool) (t42 : Sl) (t43 : Int) (t44 : Int) (w : World) (k : Env → World → Prop) (Q : Exit → Env → World → Prop) : B12 pr p_0 q_1 chosen_2 k_8 i_9 fits_10 t42 t43 t44 w k Q = (
  bif decide (t44 < t43) then (
  pr.idxK 1 t42 t44 fun (a9 : Addr) =>
  pr.load1 (.int .i64) a9 w fun (ξ10 : Int) =>
  bif fits_10 then (
  pr.idxK 1 p_0 ξ10 fun (a11 : Addr) =>
  pr.load1 (.int .i64) a11 w fun (ξ12 : Int) =>
  pr.idxK 1 p_0 i_9 fun (a13 : Addr) =>
  pr.load1 (.int .i64) a13 w fun (ξ14 : Int) =>
  pr.idxK 1 q_1 t44 fun (a15 : Addr) =>
  pr.load1 (.int .i64) a15 w fun (ξ16 : Int) =>
  pr.idxK 1 q_1 k_8 fun (a17 : Addr) =>
  pr.load1 (.int .i64) a17 w fun (ξ18 : Int) =>
  pr.drewAll w fun ω19 =>
  k (emb12 p_0 q_1 chosen_2 k_8 i_9 ((decide (ξ12 < ξ14)) == (decide (ξ16 < ξ18))) t42 t43 (w64 (t44 + 1))) ω19)
  else (
  pr.drewAll w fun ω20 =>
  k (emb12 p_0 q_1 chosen_2 k_8 i_9 false t42 t43 (w64 (t44 + 1))) ω20))
  else (
  Q (.exit 2) (x2 p_0 q_1 chosen_2 k_8 i_9 fits_10) w)) := by kernel_rfl
theorem B12_s (p_0 : Sl) (q_1 : Sl) (chosen_2 : Sl) (k_8 : Int) (i_9 : Int) (fits_10 : Bool) (t42 : Sl) (t43 : Int) (t44 : Int) (w : World) (k : Env → World → Prop) (Q : Exit → Env → World → Prop) : B12 std p_0 q_1 chosen_2 k_8 i_9 fits_10 t42 t43 t44 w k Q = (
  bif decide (t44 < t43) then (
  idxK 1 t42 t44 fun (a9 : Addr) =>
  load1 (.int .i64) a9 w fun (ξ10 : Int) =>
  bif fits_10 then (
  idxK 1 p_0 ξ10 fun (a11 : Addr) =>
  load1 (.int .i64) a11 w fun (ξ12 : Int) =>
  idxK 1 p_0 i_9 fun (a13 : Addr) =>
  load1 (.int .i64) a13 w fun (ξ14 : Int) =>
  idxK 1 q_1 t44 fun (a15 : Addr) =>
  load1 (.int .i64) a15 w fun (ξ16 : Int) =>
  idxK 1 q_1 k_8 fun (a17 : Addr) =>
  load1 (.int .i64) a17 w fun (ξ18 : Int) =>
  drewAll w fun ω19 =>
  k (emb12 p_0 q_1 chosen_2 k_8 i_9 ((decide (ξ12 < ξ14)) == (decide (ξ16 < ξ18))) t42 t43 (w64 (t44 + 1))) ω19)
  else (
  drewAll w fun ω20 =>
  k (emb12 p_0 q_1 chosen_2 k_8 i_9 false t42 t43 (w64 (t44 + 1))) ω20))
  else (
  Q (.exit 2) (x2 p_0 q_1 chosen_2 k_8 i_9 fits_10) w)) := B12_eq std p_0 q_1 chosen_2 k_8 i_9 fits_10 t42 t43 t44 w k Q
theorem L12_rule (p_0 : Sl) (q_1 : Sl) (chosen_2 : Sl) (k_8 : Int) (i_9 : Int) (fits_10 : Bool) (t42 : Sl) (t43 : Int) (t44 : Int) (w : World) (Q : Exit → Env → World → Prop) (I : Bool → Int → World → Prop) (μ : Bool → Int → World → Nat) (h0 : I fits_10 t44 w)
    (h : ∀ (fits_10 : Bool) (t44 : Int) (w' : World), I fits_10 t44 w' → B12 std p_0 q_1 chosen_2 k_8 i_9 fits_10 t42 t43 t44 w' (fun e2 w2 => ∃ fits_10_n t44_n, e2 = emb12 p_0 q_1 chosen_2 k_8 i_9 fits_10_n t42 t43 t44_n ∧ I fits_10_n t44_n w2 ∧ μ fits_10_n t44_n w2 < μ fits_10 t44 w') Q) :
    L12 std p_0 q_1 chosen_2 k_8 i_9 fits_10 t42 t43 t44 w Q := by
  unfold L12
  refine LoopE.intro (σ := Bool × Int) (step := S12 std Q) (fun s => emb12 p_0 q_1 chosen_2 k_8 i_9 s.1 t42 t43 s.2) (fun s w => I s.1 s.2 w) (fun s w => μ s.1 s.2 w) (fits_10, t44) rfl h0 ?_
  intro s w' hI
  have h1 := h s.1 s.2 w' hI
  unfold B12 at h1
  simp only [Prod.exists]
  exact h1
theorem A12_2_eq (pr : Prims) (p_0 : Sl) (q_1 : Sl) (chosen_2 : Sl) (k_8 : Int) (i_9 : Int) (fits_10 : Bool) (w : World) (k : Env → World → Prop) (Q : Exit → Env → World → Prop) : (q8 pr k Q) (.exit 2) (x2 p_0 q_1 chosen_2 k_8 i_9 fits_10) w = (
  bif fits_10 then (
  pr.call1 .sl PP F.slices_Clone___int_int_ #[Sl.v chosen_2] w fun (ρ21 : Sl) ω22 =>
  pr.sem1 .sl PP (Instr.buildSlice T_Sint 1 #[(0, vI i_9)]) ω22 fun (ρ23 : Sl) ω24 =>
  pr.sem1 .sl PP (Builtin.append_ #[T_Sint, T_Sint] T_Sint #[Sl.v ρ21, Sl.v ρ23]) ω24 fun (ρ25 : Sl) ω26 =>
  pr.call1 .bool PP F.impl_has #[Sl.v p_0, Sl.v q_1, Sl.v ρ25] ω26 fun (ρ27 : Bool) ω28 =>
  bif ρ27 then (
  Q .ret [(6, .bool true)] ω28)
  else (
  k (emb8 p_0 q_1 chosen_2 k_8 (w64 (i_9 + 1))) ω28))
  else (
  k (emb8 p_0 q_1 chosen_2 k_8 (w64 (i_9 + 1))) w)) := by kernel_rfl
theorem A12_2_s (p_0 : Sl) (q_1 : Sl) (chosen_2 : Sl) (k_8 : Int) (i_9 : Int) (fits_10 : Bool) (w : World) (k : Env → World → Prop) (Q : Exit → Env → World → Prop) : (q8 std k Q) (.exit 2) (x2 p_0 q_1 chosen_2 k_8 i_9 fits_10) w = (
  bif fits_10 then (
  call1 .sl PP F.slices_Clone___int_int_ #[Sl.v chosen_2] w fun (ρ21 : Sl) ω22 =>
  sem1 .sl PP (Instr.buildSlice T_Sint 1 #[(0, vI i_9)]) ω22 fun (ρ23 : Sl) ω24 =>
  sem1 .sl PP (Builtin.append_ #[T_Sint, T_Sint] T_Sint #[Sl.v ρ21, Sl.v ρ23]) ω24 fun (ρ25 : Sl) ω26 =>
  call1 .bool PP F.impl_has #[Sl.v p_0, Sl.v q_1, Sl.v ρ25] ω26 fun (ρ27 : Bool) ω28 =>
  bif ρ27 then (
  Q .ret [(6, .bool true)] ω28)
  else (
  k (emb8 p_0 q_1 chosen_2 k_8 (w64 (i_9 + 1))) ω28))
  else (
  k (emb8 p_0 q_1 chosen_2 k_8 (w64 (i_9 + 1))) w)) := A12_2_eq std p_0 q_1 chosen_2 k_8 i_9 fits_10 w k Q
theorem B8_eq (pr : Prims) (p_0 : Sl) (q_1 : Sl) (chosen_2 : Sl) (k_8 : Int) (i_9 : Int) (w : World) (k : Env → World → Prop) (Q : Exit → Env → World → Prop) : B8 pr p_0 q_1 chosen_2 k_8 i_9 w k Q = (
  bif decide (i_9 ≤ (w64 ((p_0.n : Int) - (w64 ((q_1.n : Int) - k_8))))) then (
  L12 pr p_0 q_1 chosen_2 k_8 i_9 true chosen_2 (chosen_2.n : Int) 0 w (q8 pr k Q))
  else (
  Q (.exit 0) (x0) w)) := by kernel_rfl
theorem B8_s (p_0 : Sl) (q_1 : Sl) (chosen_2 : Sl) (k_8 : Int) (i_9 : Int) (w : World) (k : Env → World → Prop) (Q : Exit → Env → World → Prop) : B8 std p_0 q_1 chosen_2 k_8 i_9 w k Q = (
  bif decide (i_9 ≤ (w64 ((p_0.n : Int) - (w64 ((q_1.n : Int) - k_8))))) then (
  L12 std p_0 q_1 chosen_2 k_8 i_9 true chosen_2 (chosen_2.n : Int) 0 w (q8 std k Q))
  else (
  Q (.exit 0) (x0) w)) := B8_eq std p_0 q_1 chosen_2 k_8 i_9 w k Q
theorem L8_rule (p_0 : Sl) (q_1 : Sl) (chosen_2 : Sl) (k_8 : Int) (i_9 : Int) (w : World) (Q : Exit → Env → World → Prop) (I : Int → World → Prop) (μ : Int → World → Nat) (h0 : I i_9 w)
    (h : ∀ (i_9 : Int) (w' : World), I i_9 w' → B8 std p_0 q_1 chosen_2 k_8 i_9 w' (fun e2 w2 => ∃ i_9_n, e2 = emb8 p_0 q_1 chosen_2 k_8 i_9_n ∧ I i_9_n w2 ∧ μ i_9_n w2 < μ i_9 w') Q) :
    L8 std p_0 q_1 chosen_2 k_8 i_9 w Q := by
  unfold L8
  refine LoopE.intro (σ := Int) (step := S8 std Q) (fun s => emb8 p_0 q_1 chosen_2 k_8 s) (fun s w => I s w) (fun s w => μ s w) i_9 rfl h0 ?_
  intro s w' hI
  have h1 := h s w' hI
  unfold B8 at h1
  exact h1
theorem A8_0_eq (pr : Prims) (w : World) (R : Ending → World → Prop) : (q4 pr R) (.exit 0) (x0) w = (
  R (.returned (.bool false)) w) := by kernel_rfl
theorem A8_0_s (w : World) (R : Ending → World → Prop) : (q4 std R) (.exit 0) (x0) w = (
  R (.returned (.bool false)) w) := A8_0_eq std w R
theorem R8_eq (pr : Prims) (v6 : Value) (w : World) (R : Ending → World → Prop) : (q4 pr R) .ret [(6, v6)] w = (
  R (.returned (v6)) w) := by kernel_rfl
theorem R8_s (v6 : Value) (w : World) (R : Ending → World → Prop) : (q4 std R) .ret [(6, v6)] w = (
  R (.returned (v6)) w) := R8_eq std v6 w R
theorem J6_gen (pr : Prims) (p_0 : Sl) (q_1 : Sl) (chosen_2 : Sl) (from_7 : Int) (w : World) (R : Ending → World → Prop) : wpC pr PP cfg (DD pr) (sub (codeOf Try.f33) [1, 1, 1, 1]) (retQ Try.f33.results.toList R) (j6 p_0 q_1 chosen_2 from_7) w = (
  L8 pr p_0 q_1 chosen_2 (chosen_2.n : Int) from_7 w (q4 pr R)) := by kernel_rfl
theorem J6_s (p_0 : Sl) (q_1 : Sl) (chosen_2 : Sl) (from_7 : Int) (w : World) (R : Ending → World → Prop) : J6 std p_0 q_1 chosen_2 from_7 w R = (
  L8 std p_0 q_1 chosen_2 (chosen_2.n : Int) from_7 w (q4 std R)) := J6_gen std p_0 q_1 chosen_2 from_7 w R
theorem E_eq (pr : Prims) (p_0 : Sl) (q_1 : Sl) (chosen_2 : Sl) (w : World) (R : Ending → World → Prop) : E pr p_0 q_1 chosen_2 w R = (
  bif (chosen_2.n : Int) == (q_1.n : Int) then (
  R (.returned (.bool true)) w)
  else (
  bif decide ((chosen_2.n : Int) > 0) then (
  pr.idxK 1 chosen_2 (w64 ((chosen_2.n : Int) - 1)) fun (a1 : Addr) =>
  pr.load1 (.int .i64) a1 w fun (ξ2 : Int) =>
  J6 pr p_0 q_1 chosen_2 (w64 (ξ2 + 1)) w R)
  else (
  J6 pr p_0 q_1 chosen_2 0 w R))) := by kernel_rfl
theorem E_s (p_0 : Sl) (q_1 : Sl) (chosen_2 : Sl) (w : World) (R : Ending → World → Prop) : E std p_0 q_1 chosen_2 w R = (
  bif (chosen_2.n : Int) == (q_1.n : Int) then (
  R (.returned (.bool true)) w)
  else (
  bif decide ((chosen_2.n : Int) > 0) then (
  idxK 1 chosen_2 (w64 ((chosen_2.n : Int) - 1)) fun (a1 : Addr) =>
  load1 (.int .i64) a1 w fun (ξ2 : Int) =>
  J6 std p_0 q_1 chosen_2 (w64 (ξ2 + 1)) w R)
  else (
  J6 std p_0 q_1 chosen_2 0 w R))) := E_eq std p_0 q_1 chosen_2 w R
theorem drawsOk : drawsOk PP cfg okD (codeOf Try.f33) = true := by kernel_rfl
theorem calls (p_0 : Sl) (q_1 : Sl) (chosen_2 : Sl) {w : World} {R : Ending → World → Prop} (h : E std p_0 q_1 chosen_2 w R) : Calls PP F.impl_has #[Sl.v p_0, Sl.v q_1, Sl.v chosen_2] w R :=
  calls_of noCount mixed drawOk Try.func33 rfl (c := cfg) (args := [Sl.v p_0, Sl.v q_1, Sl.v chosen_2]) rfl (Nat.le_of_ble_eq_true (by kernel_rfl)) drawsOk h
end impl_has

end Go.Proofs.Ytmhgjfahgemblaa
