/- The texts CodeL20, R3, TbLaw in one (gmerge.py). -/
import Derived.Test.YtdchjhhpbdekeaaTbM7
/- What each function does, step by step, written by a program (Gen.lean); each equation is checked by the kernel. -/
namespace Go.Proofs.Ytdchjhhpbdekeaa
open Go
set_option linter.unusedVariables false
set_option maxRecDepth 100000
namespace spec_l20Up
@[reducible] def cfg : Cfg := ⟨44, [(8, [0, 3, 4, 5, 6, 7]), (4, [0, 3, 4, 5])], [(3, [0, 3, 4, 5, 6, 7]), (2, [0, 3, 4, 5, 6]), (1, [0, 3, 4, 5]), (0, [3])], [], [2], [10], [101, 107, 112, 15, 21, 124, 76, 137, 28, 115, 91, 81, 130], [138, 140, 82, 6, 86, 85, 132]⟩
def q2 (pr : Prims) (R : Ending → World → Prop) : Exit → Env → World → Prop := fun ex e w => normQ ex (fun e w => contE pr cfg (sub (codeOf Try.f95) [1, 1, 1, 1]) (fun e w => wpC pr PP cfg (DD pr) (sub (codeOf Try.f95) [1, 1, 1, 1]) (retQ Try.f95.results.toList R) e w) e w) (retQ Try.f95.results.toList R) e w
def q3 (pr : Prims) (R : Ending → World → Prop) : Exit → Env → World → Prop := fun ex e w => blockQ ex 0 (q2 pr R) e w
def q4 (pr : Prims) (k : Env → World → Prop) (Q : Exit → Env → World → Prop) : Exit → Env → World → Prop := fun ex e w => normQ ex (fun e w => contE pr cfg (sub (codeOf Try.f95) [1, 1, 1, 0, 1, 0, 0, 1, 1]) (fun e w => wpC pr PP cfg (DD pr) (sub (codeOf Try.f95) [1, 1, 1, 0, 1, 0, 0, 1, 1]) (fun ex e w => normQ ex (fun e' w' => k (Env.restr e' (lookN cfg.loops (keyOf (sub (codeOf Try.f95) [1, 1, 1, 0, 1, 0, 0])))) w') Q e w) e w) e w) (fun ex e w => normQ ex (fun e' w' => k (Env.restr e' (lookN cfg.loops (keyOf (sub (codeOf Try.f95) [1, 1, 1, 0, 1, 0, 0])))) w') Q e w) e w
def q5 (pr : Prims) (k : Env → World → Prop) (Q : Exit → Env → World → Prop) : Exit → Env → World → Prop := fun ex e w => blockQ ex 1 (q4 pr k Q) e w
def q6 (pr : Prims) (k : Env → World → Prop) (Q : Exit → Env → World → Prop) : Exit → Env → World → Prop := fun ex e w => normQ ex (fun e w => contE pr cfg (sub (codeOf Try.f95) [1, 1, 1, 0, 1, 0, 0, 1, 0, 0, 1, 1]) (fun e w => wpC pr PP cfg (DD pr) (sub (codeOf Try.f95) [1, 1, 1, 0, 1, 0, 0, 1, 0, 0, 1, 1]) (q5 pr k Q) e w) e w) (q5 pr k Q) e w
def q7 (pr : Prims) (k : Env → World → Prop) (Q : Exit → Env → World → Prop) : Exit → Env → World → Prop := fun ex e w => blockQ ex 2 (q6 pr k Q) e w
def emb4 (p_0 : Sl) (best_3 : Int) (ends_4 : Sl) (k_5 : Int) : Env := [(0, Sl.v p_0), (3, vI best_3), (4, Sl.v ends_4), (5, vI k_5)]
def emb8 (p_0 : Sl) (best_3 : Int) (ends_4 : Sl) (k_5 : Int) (n_6 : Int) (i_7 : Int) : Env := [(0, Sl.v p_0), (3, vI best_3), (4, Sl.v ends_4), (5, vI k_5), (6, vI n_6), (7, vI i_7)]
def x2 (p_0 : Sl) (best_3 : Int) (ends_4 : Sl) (k_5 : Int) (n_6 : Int) : Env := [(0, Sl.v p_0), (3, vI best_3), (4, Sl.v ends_4), (5, vI k_5), (6, vI n_6)]
def x0 (best_3 : Int) : Env := [(3, vI best_3)]
def S8 (pr : Prims) (Q : Exit → Env → World → Prop) : (Env → World → Prop) → Env → World → Prop := fun k e w => wpC pr PP cfg (DD pr) (sub (codeOf Try.f95) [1, 1, 1, 0, 1, 0, 0, 1, 0, 0, 1, 0, 1, 0, 0]) (fun ex e w => normQ ex (fun e' w' => k (Env.restr e' (lookN cfg.loops (keyOf (sub (codeOf Try.f95) [1, 1, 1, 0, 1, 0, 0, 1, 0, 0, 1, 0, 1, 0, 0])))) w') Q e w) e w
def S4 (pr : Prims) (Q : Exit → Env → World → Prop) : (Env → World → Prop) → Env → World → Prop := fun k e w => wpC pr PP cfg (DD pr) (sub (codeOf Try.f95) [1, 1, 1, 0, 1, 0, 0]) (fun ex e w => normQ ex (fun e' w' => k (Env.restr e' (lookN cfg.loops (keyOf (sub (codeOf Try.f95) [1, 1, 1, 0, 1, 0, 0])))) w') Q e w) e w
def B8 (pr : Prims) (p_0 : Sl) (best_3 : Int) (ends_4 : Sl) (k_5 : Int) (n_6 : Int) (i_7 : Int) (w : World) (k : Env → World → Prop) (Q : Exit → Env → World → Prop) : Prop :=
  S8 pr Q k (emb8 p_0 best_3 ends_4 k_5 n_6 i_7) w
def L8 (pr : Prims) (p_0 : Sl) (best_3 : Int) (ends_4 : Sl) (k_5 : Int) (n_6 : Int) (i_7 : Int) (w : World) (Q : Exit → Env → World → Prop) : Prop :=
  pr.loop (S8 pr Q) (emb8 p_0 best_3 ends_4 k_5 n_6 i_7) w
def B4 (pr : Prims) (p_0 : Sl) (best_3 : Int) (ends_4 : Sl) (k_5 : Int) (w : World) (k : Env → World → Prop) (Q : Exit → Env → World → Prop) : Prop :=
  S4 pr Q k (emb4 p_0 best_3 ends_4 k_5) w
def L4 (pr : Prims) (p_0 : Sl) (best_3 : Int) (ends_4 : Sl) (k_5 : Int) (w : World) (Q : Exit → Env → World → Prop) : Prop :=
  pr.loop (S4 pr Q) (emb4 p_0 best_3 ends_4 k_5) w
def E (pr : Prims) (p_0 : Sl) (w : World) (R : Ending → World → Prop) : Prop :=
  wpC pr PP cfg (DD pr) (codeOf Try.f95) (retQ Try.f95.results.toList R) (argE 0 [Sl.v p_0]) w
theorem B8_eq (pr : Prims) (p_0 : Sl) (best_3 : Int) (ends_4 : Sl) (k_5 : Int) (n_6 : Int) (i_7 : Int) (w : World) (k : Env → World → Prop) (Q : Exit → Env → World → Prop) : B8 pr p_0 best_3 ends_4 k_5 n_6 i_7 w k Q = (
  bif decide (i_7 < k_5) then (
  pr.idxK 1 p_0 i_7 fun (a8 : Addr) =>
  pr.load1 (.int .i64) a8 w fun (ξ9 : Int) =>
  pr.idxK 1 p_0 k_5 fun (a10 : Addr) =>
  pr.load1 (.int .i64) a10 w fun (ξ11 : Int) =>
  pr.drewAll w fun ω12 =>
  bif decide (ξ9 < ξ11) then (
  pr.idxK 1 ends_4 i_7 fun (a13 : Addr) =>
  pr.load1 (.int .i64) a13 ω12 fun (ξ14 : Int) =>
  pr.pcall1 (.int .i64) PP F.spec_l1Max #[vI n_6, vI (w64 (ξ14 + 1))] fun (ρ15 : Int) =>
  k (emb8 p_0 best_3 ends_4 k_5 ρ15 (w64 (i_7 + 1))) ω12)
  else (
  k (emb8 p_0 best_3 ends_4 k_5 n_6 (w64 (i_7 + 1))) ω12))
  else (
  Q (.exit 2) (x2 p_0 best_3 ends_4 k_5 n_6) w)) := by kernel_rfl
theorem B8_s (p_0 : Sl) (best_3 : Int) (ends_4 : Sl) (k_5 : Int) (n_6 : Int) (i_7 : Int) (w : World) (k : Env → World → Prop) (Q : Exit → Env → World → Prop) : B8 std p_0 best_3 ends_4 k_5 n_6 i_7 w k Q = (
  bif decide (i_7 < k_5) then (
  idxK 1 p_0 i_7 fun (a8 : Addr) =>
  load1 (.int .i64) a8 w fun (ξ9 : Int) =>
  idxK 1 p_0 k_5 fun (a10 : Addr) =>
  load1 (.int .i64) a10 w fun (ξ11 : Int) =>
  drewAll w fun ω12 =>
  bif decide (ξ9 < ξ11) then (
  idxK 1 ends_4 i_7 fun (a13 : Addr) =>
  load1 (.int .i64) a13 ω12 fun (ξ14 : Int) =>
  pcall1 (.int .i64) PP F.spec_l1Max #[vI n_6, vI (w64 (ξ14 + 1))] fun (ρ15 : Int) =>
  k (emb8 p_0 best_3 ends_4 k_5 ρ15 (w64 (i_7 + 1))) ω12)
  else (
  k (emb8 p_0 best_3 ends_4 k_5 n_6 (w64 (i_7 + 1))) ω12))
  else (
  Q (.exit 2) (x2 p_0 best_3 ends_4 k_5 n_6) w)) := B8_eq std p_0 best_3 ends_4 k_5 n_6 i_7 w k Q
theorem L8_rule (p_0 : Sl) (best_3 : Int) (ends_4 : Sl) (k_5 : Int) (n_6 : Int) (i_7 : Int) (w : World) (Q : Exit → Env → World → Prop) (I : Int → Int → World → Prop) (μ : Int → Int → World → Nat) (h0 : I n_6 i_7 w)
    (h : ∀ (n_6 : Int) (i_7 : Int) (w' : World), I n_6 i_7 w' → B8 std p_0 best_3 ends_4 k_5 n_6 i_7 w' (fun e2 w2 => ∃ n_6_n i_7_n, e2 = emb8 p_0 best_3 ends_4 k_5 n_6_n i_7_n ∧ I n_6_n i_7_n w2 ∧ μ n_6_n i_7_n w2 < μ n_6 i_7 w') Q) :
    L8 std p_0 best_3 ends_4 k_5 n_6 i_7 w Q := by
  unfold L8
  refine LoopE.intro (σ := Int × Int) (step := S8 std Q) (fun s => emb8 p_0 best_3 ends_4 k_5 s.1 s.2) (fun s w => I s.1 s.2 w) (fun s w => μ s.1 s.2 w) (n_6, i_7) rfl h0 ?_
  intro s w' hI
  have h1 := h s.1 s.2 w' hI
  unfold B8 at h1
  simp only [Prod.exists]
  exact h1
theorem A8_2_eq (pr : Prims) (p_0 : Sl) (best_3 : Int) (ends_4 : Sl) (k_5 : Int) (n_6 : Int) (w : World) (k : Env → World → Prop) (Q : Exit → Env → World → Prop) : (q7 pr k Q) (.exit 2) (x2 p_0 best_3 ends_4 k_5 n_6) w = (
  pr.sem1 .sl PP (Instr.buildSlice T_Sint 1 #[(0, vI n_6)]) w fun (ρ16 : Sl) ω17 =>
  pr.sem1 .sl PP (Builtin.append_ #[T_Sint, T_Sint] T_Sint #[Sl.v ends_4, Sl.v ρ16]) ω17 fun (ρ18 : Sl) ω19 =>
  pr.pcall1 (.int .i64) PP F.spec_l1Max #[vI best_3, vI n_6] fun (ρ20 : Int) =>
  k (emb4 p_0 ρ20 ρ18 (w64 (k_5 + 1))) ω19) := by kernel_rfl
theorem A8_2_s (p_0 : Sl) (best_3 : Int) (ends_4 : Sl) (k_5 : Int) (n_6 : Int) (w : World) (k : Env → World → Prop) (Q : Exit → Env → World → Prop) : (q7 std k Q) (.exit 2) (x2 p_0 best_3 ends_4 k_5 n_6) w = (
  sem1 .sl PP (Instr.buildSlice T_Sint 1 #[(0, vI n_6)]) w fun (ρ16 : Sl) ω17 =>
  sem1 .sl PP (Builtin.append_ #[T_Sint, T_Sint] T_Sint #[Sl.v ends_4, Sl.v ρ16]) ω17 fun (ρ18 : Sl) ω19 =>
  pcall1 (.int .i64) PP F.spec_l1Max #[vI best_3, vI n_6] fun (ρ20 : Int) =>
  k (emb4 p_0 ρ20 ρ18 (w64 (k_5 + 1))) ω19) := A8_2_eq std p_0 best_3 ends_4 k_5 n_6 w k Q
theorem B4_eq (pr : Prims) (p_0 : Sl) (best_3 : Int) (ends_4 : Sl) (k_5 : Int) (w : World) (k : Env → World → Prop) (Q : Exit → Env → World → Prop) : B4 pr p_0 best_3 ends_4 k_5 w k Q = (
  bif decide (k_5 < (p_0.n : Int)) then (
  L8 pr p_0 best_3 ends_4 k_5 1 0 w (q7 pr k Q))
  else (
  Q (.exit 0) (x0 best_3) w)) := by kernel_rfl
theorem B4_s (p_0 : Sl) (best_3 : Int) (ends_4 : Sl) (k_5 : Int) (w : World) (k : Env → World → Prop) (Q : Exit → Env → World → Prop) : B4 std p_0 best_3 ends_4 k_5 w k Q = (
  bif decide (k_5 < (p_0.n : Int)) then (
  L8 std p_0 best_3 ends_4 k_5 1 0 w (q7 std k Q))
  else (
  Q (.exit 0) (x0 best_3) w)) := B4_eq std p_0 best_3 ends_4 k_5 w k Q
theorem L4_rule (p_0 : Sl) (best_3 : Int) (ends_4 : Sl) (k_5 : Int) (w : World) (Q : Exit → Env → World → Prop) (I : Int → Sl → Int → World → Prop) (μ : Int → Sl → Int → World → Nat) (h0 : I best_3 ends_4 k_5 w)
    (h : ∀ (best_3 : Int) (ends_4 : Sl) (k_5 : Int) (w' : World), I best_3 ends_4 k_5 w' → B4 std p_0 best_3 ends_4 k_5 w' (fun e2 w2 => ∃ best_3_n ends_4_n k_5_n, e2 = emb4 p_0 best_3_n ends_4_n k_5_n ∧ I best_3_n ends_4_n k_5_n w2 ∧ μ best_3_n ends_4_n k_5_n w2 < μ best_3 ends_4 k_5 w') Q) :
    L4 std p_0 best_3 ends_4 k_5 w Q := by
  unfold L4
  refine LoopE.intro (σ := Int × Sl × Int) (step := S4 std Q) (fun s => emb4 p_0 s.1 s.2.1 s.2.2) (fun s w => I s.1 s.2.1 s.2.2 w) (fun s w => μ s.1 s.2.1 s.2.2 w) (best_3, ends_4, k_5) rfl h0 ?_
  intro s w' hI
  have h1 := h s.1 s.2.1 s.2.2 w' hI
  unfold B4 at h1
  simp only [Prod.exists]
  exact h1
theorem A4_0_eq (pr : Prims) (best_3 : Int) (w : World) (R : Ending → World → Prop) : (q3 pr R) (.exit 0) (x0 best_3) w = (
  R (.returned (vI best_3)) w) := by kernel_rfl
theorem A4_0_s (best_3 : Int) (w : World) (R : Ending → World → Prop) : (q3 std R) (.exit 0) (x0 best_3) w = (
  R (.returned (vI best_3)) w) := A4_0_eq std best_3 w R
theorem E_eq (pr : Prims) (p_0 : Sl) (w : World) (R : Ending → World → Prop) : E pr p_0 w R = (
  pr.sem1 .sl PP (Instr.buildSlice T_Sint 0 #[]) w fun (ρ0 : Sl) ω1 =>
  L4 pr p_0 0 ρ0 0 ω1 (q3 pr R)) := by kernel_rfl
theorem E_s (p_0 : Sl) (w : World) (R : Ending → World → Prop) : E std p_0 w R = (
  sem1 .sl PP (Instr.buildSlice T_Sint 0 #[]) w fun (ρ0 : Sl) ω1 =>
  L4 std p_0 0 ρ0 0 ω1 (q3 std R)) := E_eq std p_0 w R
theorem drawsOk : drawsOk PP cfg okD (codeOf Try.f95) = true := by kernel_rfl
theorem calls (p_0 : Sl) {w : World} {R : Ending → World → Prop} (h : E std p_0 w R) : Calls PP F.spec_l20Up #[Sl.v p_0] w R :=
  calls_of noCount mixed drawOk Try.func95 rfl (c := cfg) (args := [Sl.v p_0]) rfl (Nat.le_of_ble_eq_true (by kernel_rfl)) drawsOk h
end spec_l20Up

namespace spec_l3Reverse
@[reducible] def cfg : Cfg := ⟨21, [(3, [0, 3, 4])], [(1, [0, 3, 4]), (0, [3])], [], [2], [], [101, 107, 112, 15, 21, 124, 76, 137, 28, 115, 91, 81, 130], [138, 140, 82, 6, 86, 85, 132]⟩
def q2 (pr : Prims) (R : Ending → World → Prop) : Exit → Env → World → Prop := fun ex e w => normQ ex (fun e w => contE pr cfg (sub (codeOf Try.f71) [1, 1, 1]) (fun e w => wpC pr PP cfg (DD pr) (sub (codeOf Try.f71) [1, 1, 1]) (retQ Try.f71.results.toList R) e w) e w) (retQ Try.f71.results.toList R) e w
def q3 (pr : Prims) (R : Ending → World → Prop) : Exit → Env → World → Prop := fun ex e w => blockQ ex 0 (q2 pr R) e w
def emb3 (p_0 : Sl) (out_3 : Sl) (k_4 : Int) : Env := [(0, Sl.v p_0), (3, Sl.v out_3), (4, vI k_4)]
def x0 (out_3 : Sl) : Env := [(3, Sl.v out_3)]
def S3 (pr : Prims) (Q : Exit → Env → World → Prop) : (Env → World → Prop) → Env → World → Prop := fun k e w => wpC pr PP cfg (DD pr) (sub (codeOf Try.f71) [1, 1, 0, 1, 0, 0]) (fun ex e w => normQ ex (fun e' w' => k (Env.restr e' (lookN cfg.loops (keyOf (sub (codeOf Try.f71) [1, 1, 0, 1, 0, 0])))) w') Q e w) e w
def B3 (pr : Prims) (p_0 : Sl) (out_3 : Sl) (k_4 : Int) (w : World) (k : Env → World → Prop) (Q : Exit → Env → World → Prop) : Prop :=
  S3 pr Q k (emb3 p_0 out_3 k_4) w
def L3 (pr : Prims) (p_0 : Sl) (out_3 : Sl) (k_4 : Int) (w : World) (Q : Exit → Env → World → Prop) : Prop :=
  pr.loop (S3 pr Q) (emb3 p_0 out_3 k_4) w
def E (pr : Prims) (p_0 : Sl) (w : World) (R : Ending → World → Prop) : Prop :=
  wpC pr PP cfg (DD pr) (codeOf Try.f71) (retQ Try.f71.results.toList R) (argE 0 [Sl.v p_0]) w
theorem B3_eq (pr : Prims) (p_0 : Sl) (out_3 : Sl) (k_4 : Int) (w : World) (k : Env → World → Prop) (Q : Exit → Env → World → Prop) : B3 pr p_0 out_3 k_4 w k Q = (
  bif decide (k_4 ≥ 0) then (
  pr.idxK 1 p_0 k_4 fun (a4 : Addr) =>
  pr.load1 (.int .i64) a4 w fun (ξ5 : Int) =>
  pr.sem1 .sl PP (Instr.buildSlice T_Sint 1 #[(0, vI ξ5)]) w fun (ρ6 : Sl) ω7 =>
  pr.sem1 .sl PP (Builtin.append_ #[T_Sint, T_Sint] T_Sint #[Sl.v out_3, Sl.v ρ6]) ω7 fun (ρ8 : Sl) ω9 =>
  k (emb3 p_0 ρ8 (w64 (k_4 - 1))) ω9)
  else (
  Q (.exit 0) (x0 out_3) w)) := by kernel_rfl
theorem B3_s (p_0 : Sl) (out_3 : Sl) (k_4 : Int) (w : World) (k : Env → World → Prop) (Q : Exit → Env → World → Prop) : B3 std p_0 out_3 k_4 w k Q = (
  bif decide (k_4 ≥ 0) then (
  idxK 1 p_0 k_4 fun (a4 : Addr) =>
  load1 (.int .i64) a4 w fun (ξ5 : Int) =>
  sem1 .sl PP (Instr.buildSlice T_Sint 1 #[(0, vI ξ5)]) w fun (ρ6 : Sl) ω7 =>
  sem1 .sl PP (Builtin.append_ #[T_Sint, T_Sint] T_Sint #[Sl.v out_3, Sl.v ρ6]) ω7 fun (ρ8 : Sl) ω9 =>
  k (emb3 p_0 ρ8 (w64 (k_4 - 1))) ω9)
  else (
  Q (.exit 0) (x0 out_3) w)) := B3_eq std p_0 out_3 k_4 w k Q
theorem L3_rule (p_0 : Sl) (out_3 : Sl) (k_4 : Int) (w : World) (Q : Exit → Env → World → Prop) (I : Sl → Int → World → Prop) (μ : Sl → Int → World → Nat) (h0 : I out_3 k_4 w)
    (h : ∀ (out_3 : Sl) (k_4 : Int) (w' : World), I out_3 k_4 w' → B3 std p_0 out_3 k_4 w' (fun e2 w2 => ∃ out_3_n k_4_n, e2 = emb3 p_0 out_3_n k_4_n ∧ I out_3_n k_4_n w2 ∧ μ out_3_n k_4_n w2 < μ out_3 k_4 w') Q) :
    L3 std p_0 out_3 k_4 w Q := by
  unfold L3
  refine LoopE.intro (σ := Sl × Int) (step := S3 std Q) (fun s => emb3 p_0 s.1 s.2) (fun s w => I s.1 s.2 w) (fun s w => μ s.1 s.2 w) (out_3, k_4) rfl h0 ?_
  intro s w' hI
  have h1 := h s.1 s.2 w' hI
  unfold B3 at h1
  simp only [Prod.exists]
  exact h1
theorem A3_0_eq (pr : Prims) (out_3 : Sl) (w : World) (R : Ending → World → Prop) : (q3 pr R) (.exit 0) (x0 out_3) w = (
  R (.returned (Sl.v out_3)) w) := by kernel_rfl
theorem A3_0_s (out_3 : Sl) (w : World) (R : Ending → World → Prop) : (q3 std R) (.exit 0) (x0 out_3) w = (
  R (.returned (Sl.v out_3)) w) := A3_0_eq std out_3 w R
theorem E_eq (pr : Prims) (p_0 : Sl) (w : World) (R : Ending → World → Prop) : E pr p_0 w R = (
  pr.sem1 .sl PP (Instr.buildSlice T_Sint 0 #[]) w fun (ρ0 : Sl) ω1 =>
  L3 pr p_0 ρ0 (w64 ((p_0.n : Int) - 1)) ω1 (q3 pr R)) := by kernel_rfl
theorem E_s (p_0 : Sl) (w : World) (R : Ending → World → Prop) : E std p_0 w R = (
  sem1 .sl PP (Instr.buildSlice T_Sint 0 #[]) w fun (ρ0 : Sl) ω1 =>
  L3 std p_0 ρ0 (w64 ((p_0.n : Int) - 1)) ω1 (q3 std R)) := E_eq std p_0 w R
theorem drawsOk : drawsOk PP cfg okD (codeOf Try.f71) = true := by kernel_rfl
theorem calls (p_0 : Sl) {w : World} {R : Ending → World → Prop} (h : E std p_0 w R) : Calls PP F.spec_l3Reverse #[Sl.v p_0] w R :=
  calls_of noCount mixed drawOk Try.func71 rfl (c := cfg) (args := [Sl.v p_0]) rfl (Nat.le_of_ble_eq_true (by kernel_rfl)) drawsOk h
end spec_l3Reverse

end Go.Proofs.Ytdchjhhpbdekeaa

/- The model text's reverse. -/
namespace Go.Proofs.Ytdchjhhpbdekeaa
open Go Go.RowKit
set_option maxRecDepth 100000

theorem c_l3Reverse {w : World} {a : Sl} {L : List Int} (ha : RowI w a L) (hL : L.length < 2^38) :
    Calls PP F.spec_l3Reverse #[a.v] w fun e w' => ∃ s : Sl, e = .returned s.v ∧ OwnI w' w.heap.size s L.reverse ∧ Below w.heap.size w w' := by
  have han : a.n = L.length := by have := ha.n; simpa using this
  refine spec_l3Reverse.calls a ?_
  rw [spec_l3Reverse.E_s]
  refine lit0 oneInt (B := w.heap.size) (Nat.le_refl _) ?_
  intro t0 w1 hown hg _
  rw [han, w64_id (by omega) (by omega)]
  refine spec_l3Reverse.L3_rule _ _ _ _ _ (I := fun t k w' => -1 ≤ k ∧ k < L.length ∧ OwnI w' w.heap.size t (tab (L.length - 1 - k).toNat fun j => L.getD (L.length - 1 - j) 0) ∧ Below w.heap.size w w') (μ := fun _ k _ => (k + 1).toNat)
    ⟨by omega, by omega, ?_, below_of_grow hg⟩ ?_
  · rw [show ((L.length : Int) - 1 - ((L.length : Int) - 1)).toNat = 0 by omega]; exact hown
  rintro t k w' ⟨h0, hk, ht, hb⟩
  rw [spec_l3Reverse.B3_s]
  refine bif_dec (fun h3 => ?_) (fun h3 => ?_)
  · refine RowI.get (ha.grow hb) h3 (by omega) ?_
    refine append_int ht hb.size (by rw [tab_length]; omega) ?_
    intro t' w2 ht2 hg2 _
    refine ⟨t', k - 1, by rw [w64_id (by omega) (by omega)], ⟨by omega, by omega, ?_, hb.grown hg2 hb.size (fun g hg => (ht.lt g hg).1)⟩, by omega⟩
    rw [show ((L.length : Int) - 1 - (k - 1)).toNat = ((L.length : Int) - 1 - k).toNat + 1 by omega, tab_succ]
    rw [show L.length - 1 - ((L.length : Int) - 1 - k).toNat = k.toNat by omega]
    exact ht2
  · rw [spec_l3Reverse.A3_0_s]
    rw [show ((L.length : Int) - 1 - k).toNat = L.length by omega, tab_reverse] at ht
    exact ⟨t, rfl, ht, hb⟩

theorem rev_ne {L : List Int} (hp : ∀ i j, i < j → j < L.length → L.getD i 0 ≠ L.getD j 0) : ∀ i j, i < j → j < L.reverse.length → L.reverse.getD i 0 ≠ L.reverse.getD j 0 := by
  intro i j hij hj
  rw [List.length_reverse] at hj
  rw [← tab_reverse, tab_getD _ (by omega), tab_getD _ hj]
  exact fun e => hp (L.length - 1 - j) (L.length - 1 - i) (by omega) (by omega) e.symm

end Go.Proofs.Ytdchjhhpbdekeaa

/- FnTableaux: the law. -/
namespace Go.Proofs.Ytdchjhhpbdekeaa
open Go Go.RowKit
set_option maxRecDepth 100000

def Good (w0 : World) (e : Ending) (w' : World) : Prop := e = .returned (.bool true) ∧ Below w0.heap.size w0 w'
/-! ### Plain facts -/
theorem IsTab.tabT {T : List (List Int)} (h : IsTab T) : Tab T := by
  have hw := h.wtab
  exact tab_of (fun r hr => ⟨fun e => by have := h.form.pos hr; rw [e] at this; simp at this, hw.inc r hr⟩) fun r hr => hw.under r hr
theorem turn_isTab {T : List (List Int)} (h : IsTab T) : IsTab (turnW T) ∧ turnW (turnW T) = T :=
  ⟨tab_isTab (turn_tab h.tabT) (isP_of_perm (turn_perm h.tabT) h.perm), turn_turn h.tabT⟩
theorem isP_bd {P : List Int} (h : IsP P) : ∀ x ∈ P, 0 ≤ x ∧ x ≤ P.length := fun x hx => by
  obtain ⟨i, hi, rfl⟩ := List.getElem_of_mem hx
  have := h.2 i hi
  rw [pOk, getD_I hi] at this
  omega
/-! The inverse. -/
def invT (P : List Int) : Nat → List Int
  | 0 => List.replicate P.length 0
  | k + 1 => (invT P k).set (P.getD k 0 - 1).toNat ((k : Int) + 1)
theorem invT_len (P : List Int) : ∀ k, (invT P k).length = P.length
  | 0 => by simp [invT]
  | k + 1 => by rw [invT, List.length_set, invT_len P k]
theorem invT_at {P : List Int} (h : IsP P) : ∀ k, k ≤ P.length → ∀ i, i < k → (invT P k).getD (P.getD i 0 - 1).toNat 0 = (i : Int) + 1
  | k + 1, hk, i, hi => by
    have hl := invT_len P k
    have h1 := h.2 k (by omega)
    rw [invT, getD_set']
    by_cases e : i = k
    · subst e
      rw [if_pos ⟨rfl, by unfold pOk at h1; omega⟩]
    · have h2 := h.2 i (by omega)
      have h3 := h1.2.2 i (by omega)
      rw [if_neg (by unfold pOk at h1 h2; omega)]
      exact invT_at h k (by omega) i (by omega)
theorem invT_inv {P : List Int} (h : IsP P) : Inv P (invT P P.length) := by
  refine ⟨invT_len P _, fun i hi => ⟨(h.2 i hi).1, (h.2 i hi).2.1, invT_at h _ (Nat.le_refl _) i hi⟩, fun j hj => ?_⟩
  have hm : ((j : Int) + 1) ∈ P := h.perm.mem_iff.2 (mem_idn.2 ⟨by omega, by omega⟩)
  obtain ⟨i, hi, e⟩ := List.getElem_of_mem hm
  have h1 := invT_at h _ (Nat.le_refl _) i hi
  rw [getD_I hi, e, show ((j : Int) + 1 - 1).toNat = j by omega] at h1
  rw [h1]
  refine ⟨by omega, by omega, ?_⟩
  rw [show ((i : Int) + 1 - 1).toNat = i by omega, getD_I hi, e]
theorem inv_isP {P Q : List Int} (h : Inv P Q) (hP : IsP P) : IsP Q := by
  have hl := h.len
  refine ⟨by have := hP.1; omega, fun j hj => ⟨(h.bwd j (by omega)).1, by have := (h.bwd j (by omega)).2.1; omega, fun i hi e => ?_⟩⟩
  have h1 := (h.bwd j (by omega)).2.2
  have h2 := (h.bwd i (by omega)).2.2
  rw [e, h1] at h2
  omega
theorem c_l2Inverse {w : World} {a : Sl} {P : List Int} (ha : RowI w a P) (h : IsP P) :
    Calls PP F.spec_l2Inverse #[a.v] w fun e w' => ∃ s : Sl, e = .returned s.v ∧ OwnI w' w.heap.size s (invT P P.length) ∧ Below w.heap.size w w' := by
  have h8 := h.1
  have han : a.n = P.length := by have := ha.n; simpa using this
  refine spec_l2Inverse.calls a ?_
  rw [spec_l2Inverse.E_s, han]
  refine make_own oneInt (B := w.heap.size) (Nat.le_refl _) (by omega) (by omega) ?_
  intro s w1 hown hg _
  have e0 : OwnI w1 w.heap.size s (invT P 0) := by simpa [OwnI, invT] using hown
  refine spec_l2Inverse.L3_rule _ _ _ _ _ (I := fun k w' => 0 ≤ k ∧ k ≤ P.length ∧ OwnI w' w.heap.size s (invT P k.toNat) ∧ Below w.heap.size w w') (μ := fun k _ => (P.length - k).toNat) ⟨by omega, by omega, e0, below_of_grow hg⟩ ?_
  rintro k w2 ⟨hk0, hk, ho, hb⟩
  rw [spec_l2Inverse.B3_s, han]
  refine bif_dec (fun h3 => ?_) (fun h3 => ?_)
  · refine RowI.get (ha.grow hb) hk0 (by omega) ?_
    have h1 := h.2 k.toNat (by omega)
    unfold pOk at h1
    have hl := invT_len P k.toNat
    rw [w64_id (n := P.getD k.toNat 0 - 1) (by omega) (by omega), w64_succ hk0 (by omega)]
    refine Own.put ho (by omega) (by rw [List.length_map]; omega) ?_
    intro w3 ho3 hg3 _
    refine ⟨k + 1, rfl, ⟨by omega, by omega, ?_, hb.grown hg3 hb.size (fun g hg => (ho.lt g hg).1)⟩, by omega⟩
    rw [show (k + 1).toNat = k.toNat + 1 by omega, invT, show ((k.toNat : Nat) : Int) + 1 = k + 1 by omega]
    simpa [OwnI, List.map_set] using ho3
  · rw [spec_l2Inverse.A3_0_s]
    rw [show k.toNat = P.length by omega] at ho
    exact ⟨s, rfl, ho, hb⟩
theorem c_specInversePerm {w : World} {a : Sl} {P : List Int} (ha : RowI w a P) (h : IsP P) :
    Calls PP F.spec_InversePerm #[a.v] w fun e w' => ∃ s : Sl, e = .returned (.tuple #[s.v, .bool true]) ∧ RowI w' s (invT P P.length) ∧ Below w.heap.size w w' := by
  have h8 := h.1
  refine spec_InversePerm.calls a ?_
  rw [spec_InversePerm.E_s]
  refine Quiet.call1 (s := .bool) (c_specIsPerm ha (by omega)) ?_
  intro w1 hd1
  have hb1 := hd1.below w.heap.size
  refine bif_f (by simp [h]) ?_
  refine (c_l2Inverse (ha.grow hb1) h).mono ?_
  rintro e w2 ⟨s, rfl, hs, hb2⟩
  exact ⟨s, rfl, s, rfl, hs.row, hb1.trans (hb2.mono hb1.size)⟩
theorem c_specReversePerm {w : World} {a : Sl} {P : List Int} (ha : RowI w a P) (h : IsP P) :
    Calls PP F.spec_ReversePerm #[a.v] w fun e w' => ∃ s : Sl, e = .returned s.v ∧ RowI w' s P.reverse ∧ Below w.heap.size w w' := by
  have h8 := h.1
  refine spec_ReversePerm.calls a ?_
  rw [spec_ReversePerm.E_s]
  refine Quiet.call1 (s := .bool) (c_specIsPerm ha (by omega)) ?_
  intro w1 hd1
  have hb1 := hd1.below w.heap.size
  refine bif_f (by simp [h]) ?_
  refine (c_l3Reverse (ha.grow hb1) (by omega)).mono ?_
  rintro e w2 ⟨s, rfl, hs, hb2⟩
  exact ⟨s, rfl, s, rfl, hs.row, hb1.trans (hb2.mono hb1.size)⟩

/-! ### The tail -/
theorem lawJ28 {w0 w : World} {p a b : Sl} {P : List Int} (hb : Below w0.heap.size w0 w) (hp : RowI w p P) (hpl : P.length < 2^38) (ha : RowSS w a (InsertPermV P)) (hB : RowSS w b (InsertPermV1 P)) :
    laws_FnTableaux.J28 std p a b (InsertPermV2 P) w (Good w0) := by
  rw [laws_FnTableaux.J28_s]
  by_cases hn : ¬ IsP P
  · have h := hn
    refine bif_t (by simp [InsertPermV2, h]) ?_
    exact ⟨rfl, hb⟩
  have h : IsP P := Classical.not_not.1 hn
  refine bif_f (by simp [InsertPermV2, h]) ?_
  have h8 := h.1
  have nd := isP_nd h
  rw [InsertPermV, if_pos h] at ha
  rw [InsertPermV1, if_pos h] at hB
  have hI := invT_inv h
  have hQ := inv_isP hI h
  have ndQ := isP_nd hQ
  have e1 : insP (invT P P.length) = insQ P P.length := insP_inv hI nd ndQ
  have e2 : insP P = insQ (invT P P.length) (invT P P.length).length := insP_inv hI.symm ndQ nd
  have tA := insP_isTab h
  have tB : IsTab (insQ P P.length) := e1 ▸ insP_isTab hQ
  have hA8 := tA.tot8
  have hA9 := tA.len8
  have hB8 := tB.tot8
  have hB9 := tB.len8
  have q2 := insQ_lens (w := P) P.length (Nat.le_refl _)
  have q1 := insQ_length P P.length (Nat.le_refl _)
  rw [List.take_length] at q1 q2
  have hlens : lens (insP P) = lens (insQ P P.length) := by
    apply List.ext_getElem (by rw [lens_length, lens_length, q1])
    intro i h1 h2
    have h3 := q2 i
    have h4 : (lens (insP P)).getD i 0 = (lens (insQ P P.length)).getD i 0 := by rw [lens_getD, lens_getD, h3]
    rwa [getD_I h1, getD_I h2] at h4
  have htot : tot (insQ P P.length) = P.length := by
    have h1 := tots_lens q2 (insP P).length
    rw [List.take_length, List.take_of_length_le (by omega)] at h1
    have h2 : tot (insP P) = P.length := by rw [← flatten_length, insP_flat]
    exact Eq.trans h1 h2
  have hpop : PermOfTableauxV (insP P) (insQ P P.length) = P := by
    rw [PermOfTableauxV, if_pos ⟨tA, tB, hlens⟩, htot]; exact pop_ins nd
  have hpop1 : PermOfTableauxV1 (insP P) (insQ P P.length) = true := by
    simp [PermOfTableauxV1, tA, tB, hlens]
  have hR : IsP P.reverse := isP_of_perm (List.reverse_perm P) h
  have hrev : insP P.reverse = turnW (insP P) := insP_rev (n := P.length) nd (isP_bd h)
  refine (c_implPermOfTableaux ha (by omega) (by omega) hB (by omega) (by omega)).mono ?_
  rintro e w_1 ⟨z, rfl, hz, g1⟩
  refine ⟨z, _, rfl, ?_⟩
  have hb := hb.trans (g1.mono hb.size)
  have hp := hp.grow g1
  have ha := ha.grow g1
  have hB := hB.grow g1
  have hz := hz.row
  rw [hpop] at hz
  refine (c_specInversePerm hp h).mono ?_
  rintro e w_2 ⟨i, rfl, hi, g2⟩
  refine ⟨i, true, rfl, ?_⟩
  have hb := hb.trans (g2.mono hb.size)
  have hp := hp.grow g2
  have ha := ha.grow g2
  have hB := hB.grow g2
  have hz := hz.grow g2
  refine (c_implInsertPerm hi (by have := hQ.1; omega)).mono ?_
  rintro e w_3 ⟨x, y, rx, ry, rfl, hx, hy, _, g3⟩
  refine ⟨x, y, _, rfl, ?_⟩
  have hb := hb.trans (g3.mono hb.size)
  have hp := hp.grow g3
  have ha := ha.grow g3
  have hB := hB.grow g3
  have hz := hz.grow g3
  have hi := hi.grow g3
  have hx := hx.row
  have hy := hy.row
  rw [InsertPermV, if_pos hQ, e1] at hx
  rw [InsertPermV1, if_pos hQ, ← e2] at hy
  refine (c_specReversePerm hp h).mono ?_
  rintro e w_4 ⟨r, rfl, hr, g4⟩
  refine ⟨r, rfl, ?_⟩
  have hb := hb.trans (g4.mono hb.size)
  have hp := hp.grow g4
  have ha := ha.grow g4
  have hB := hB.grow g4
  have hz := hz.grow g4
  have hi := hi.grow g4
  have hx := hx.grow g4
  have hy := hy.grow g4
  refine (c_implInsertPerm hr (by have := hR.1; omega)).mono ?_
  rintro e w_5 ⟨u, v, ru, rv, rfl, hu, hv, _, g5⟩
  refine ⟨u, v, _, rfl, ?_⟩
  have hb := hb.trans (g5.mono hb.size)
  have hp := hp.grow g5
  have ha := ha.grow g5
  have hB := hB.grow g5
  have hz := hz.grow g5
  have hi := hi.grow g5
  have hx := hx.grow g5
  have hy := hy.grow g5
  have hr := hr.grow g5
  have hu := hu.row
  rw [InsertPermV, if_pos hR, hrev] at hu
  refine (c_implTurnTableau ha (by omega) (by omega)).mono ?_
  rintro e w_6 ⟨t, rfl, ht, g6⟩
  refine ⟨t, _, rfl, ?_⟩
  have hb := hb.trans (g6.mono hb.size)
  have hp := hp.grow g6
  have ha := ha.grow g6
  have hB := hB.grow g6
  have hz := hz.grow g6
  have hi := hi.grow g6
  have hx := hx.grow g6
  have hy := hy.grow g6
  have hr := hr.grow g6
  have hu := hu.grow g6
  have ht := ht.row
  rw [TurnTableauV, if_pos tA] at ht
  have tt := (turn_isTab tA).1
  have tt8 := tt.tot8
  have tt9 := tt.len8
  refine bif_t hpop1 ?_
  refine Quiet.call1 (s := .bool) (c_sameInts hz hp (by omega)) ?_
  intro w_7 g7
  replace g7 : Below w_6.heap.size w_6 w_7 := g7.below _
  have hb := hb.trans (g7.mono hb.size)
  have hp := hp.grow g7
  have ha := ha.grow g7
  have hB := hB.grow g7
  have hz := hz.grow g7
  have hi := hi.grow g7
  have hx := hx.grow g7
  have hy := hy.grow g7
  have hr := hr.grow g7
  have hu := hu.grow g7
  have ht := ht.grow g7
  refine bif_t (by simp) ?_
  refine bif_t (by simp [InsertPermV2, hQ]) ?_
  refine Quiet.call1 (s := .bool) (c_sameLists hx hB (by omega) (by omega)) ?_
  intro w_8 g8
  replace g8 : Below w_7.heap.size w_7 w_8 := g8.below _
  have hb := hb.trans (g8.mono hb.size)
  have hp := hp.grow g8
  have ha := ha.grow g8
  have hB := hB.grow g8
  have hz := hz.grow g8
  have hi := hi.grow g8
  have hx := hx.grow g8
  have hy := hy.grow g8
  have hr := hr.grow g8
  have hu := hu.grow g8
  have ht := ht.grow g8
  refine bif_t (by simp) ?_
  refine Quiet.call1 (s := .bool) (c_sameLists hy ha (by omega) (by omega)) ?_
  intro w_9 g9
  replace g9 : Below w_8.heap.size w_8 w_9 := g9.below _
  have hb := hb.trans (g9.mono hb.size)
  have hp := hp.grow g9
  have ha := ha.grow g9
  have hB := hB.grow g9
  have hz := hz.grow g9
  have hi := hi.grow g9
  have hx := hx.grow g9
  have hy := hy.grow g9
  have hr := hr.grow g9
  have hu := hu.grow g9
  have ht := ht.grow g9
  refine bif_t (by simp) ?_
  refine bif_t (by simp [InsertPermV2, hR]) ?_
  refine bif_t (by simp [TurnTableauV1, tA]) ?_
  refine Quiet.call1 (s := .bool) (c_sameLists hu ht (by omega) (by omega)) ?_
  intro w_10 g10
  replace g10 : Below w_9.heap.size w_9 w_10 := g10.below _
  have hb := hb.trans (g10.mono hb.size)
  have hp := hp.grow g10
  have ha := ha.grow g10
  have hB := hB.grow g10
  have hz := hz.grow g10
  have hi := hi.grow g10
  have hx := hx.grow g10
  have hy := hy.grow g10
  have hr := hr.grow g10
  have hu := hu.grow g10
  have ht := ht.grow g10
  exact ⟨by simp, hb⟩
theorem lawJ24 {w0 w : World} {p a b t u : Sl} {P : List Int} {T : List (List Int)} (hb : Below w0.heap.size w0 w) (hp : RowI w p P) (hpl : P.length < 2^38) (ha : RowSS w a (InsertPermV P)) (hB : RowSS w b (InsertPermV1 P))
    (ht : RowSS w t T) (hu : RowSS w u (TurnTableauV T)) : laws_FnTableaux.J24 std p a b (InsertPermV2 P) t u (TurnTableauV1 T) w (Good w0) := by
  rw [laws_FnTableaux.J24_s]
  refine bif_intro (fun h => ?_) (fun _ => lawJ28 hb hp hpl ha hB)
  have h : IsTab T := by simpa [TurnTableauV1] using h
  obtain ⟨h1, h2⟩ := turn_isTab h
  rw [TurnTableauV, if_pos h] at hu
  have l1 := h1.len8
  have l2 := h1.tot8
  have l3 := h.len8
  have l4 := h.tot8
  refine (c_implTurnTableau hu (by omega) (by omega)).mono ?_
  rintro e w_11 ⟨x, rfl, hx, g11⟩
  refine ⟨x, _, rfl, ?_⟩
  have hb := hb.trans (g11.mono hb.size)
  have hp := hp.grow g11
  have ha := ha.grow g11
  have hB := hB.grow g11
  have ht := ht.grow g11
  have hu := hu.grow g11
  have hx := hx.row
  rw [TurnTableauV, if_pos h1, h2] at hx
  refine bif_f (by simp [TurnTableauV1, h1]) ?_
  refine Quiet.call1 (s := .bool) (c_sameLists hx ht (by omega) (by omega)) ?_
  intro w_12 g12
  replace g12 : Below w_11.heap.size w_11 w_12 := g12.below _
  have hb := hb.trans (g12.mono hb.size)
  have hp := hp.grow g12
  have ha := ha.grow g12
  have hB := hB.grow g12
  have ht := ht.grow g12
  have hu := hu.grow g12
  have hx := hx.grow g12
  rw [laws_FnTableaux.J27_s]
  refine bif_f (by simp) ?_
  exact lawJ28 hb hp hpl ha hB
theorem RowS3.place {w : World} {s : Sl} {G : List (List (List Int))} (h : RowS3 w s G) {i : Int} (h0 : 0 ≤ i) (hi : i < G.length) {K : Addr → Prop} (hk : ∀ a (t : Sl), w.cell? a = some t.v → RowSS w t (G.getD i.toNat []) → K a) : idxK 1 s i K := by
  have hn := h.n
  obtain ⟨ts, h1, h2, h3⟩ := h
  have hlt : i.toNat < ts.length := by omega
  have hlt2 : i.toNat < G.length := by omega
  obtain ⟨a, ha, hc⟩ := h1.cell i.toNat ts[i.toNat].v (by rw [List.getElem?_map, List.getElem?_eq_getElem hlt]; rfl)
  refine ⟨a, ha, h0, by omega, ?_⟩
  rw [Nat.mul_one]
  exact hk _ _ hc (by rw [getD3 hlt2]; exact h3 i.toNat _ _ (List.getElem?_eq_getElem hlt) (List.getElem?_eq_getElem hlt2))
theorem lawJ17 {w0 w : World} {p a b t u f x y : Sl} {P Fo : List Int} {T : List (List Int)} (hb0 : Below w0.heap.size w0 w) (hp0 : RowI w p P) (hpl : P.length < 2^38) (ha0 : RowSS w a (InsertPermV P)) (hB0 : RowSS w b (InsertPermV1 P))
    (ht0 : RowSS w t T) (hu0 : RowSS w u (TurnTableauV T)) (hf0 : RowI w f Fo) (hfl : Fo.length < 2^38) (hfb : ∀ x ∈ Fo, -9223372036854775808 ≤ x ∧ x ≤ 9223372036854775807) (hx0 : RowS3 w x (TableauxOfV Fo)) (hy0 : RowS3 w y (TableauxOfV Fo)) :
    laws_FnTableaux.J17 std p a b (InsertPermV2 P) t u (TurnTableauV1 T) f x y w (Good w0) := by
  have hxn := hx0.n
  obtain ⟨hall, hcount⟩ := tableaux_ok Fo
  have hV : (TableauxOfV Fo).length ≤ 2^38 := by
    by_cases h : TableauxOfV Fo = []
    · rw [h]; simp
    · have h1 := hcount h
      have h2 : FormOk Fo 6 := by
        apply Classical.byContradiction
        intro hn; exact h (by rw [TableauxOfV, if_neg hn])
      obtain ⟨h3, _, h5, _⟩ := formOk_facts h2
      rw [TableauxOfV, if_pos h2]
      have h6 := fillV_len Fo (sm Fo Fo.length).toNat (List.replicate Fo.length []) 1
      have h7 := pow_small h3 (m := (sm Fo Fo.length).toNat) (by omega)
      omega
  rw [laws_FnTableaux.J17_s]
  refine laws_FnTableaux.L18_rule _ _ _ _ _ _ _ _ _ _ _ _ _ (I := fun k w' => 0 ≤ k ∧ k ≤ (TableauxOfV Fo).length ∧ Below w.heap.size w w') (μ := fun k _ => ((TableauxOfV Fo).length - k).toNat) ⟨by omega, by omega, Below.refl _ _⟩ ?_
  rintro k w1 ⟨hk0, hk, hb1⟩
  have hp := hp0.grow hb1
  have ha := ha0.grow hb1
  have hB := hB0.grow hb1
  have ht := ht0.grow hb1
  have hu := hu0.grow hb1
  have hf := hf0.grow hb1
  have hx := hx0.grow hb1
  have hy := hy0.grow hb1
  rw [laws_FnTableaux.B18_s, hxn]
  refine bif_dec (fun h3 => ?_) (fun h3 => ?_)
  · have hlt : k.toNat < (TableauxOfV Fo).length := by omega
    obtain ⟨t1, t2⟩ := hall _ (List.getElem_mem hlt)
    have l1 := t1.len8
    have l2 := t1.tot8
    refine drew_intro fun w2 hd2 => ?_
    have g2 : Below w1.heap.size w1 w2 := hd2.below _
    have hb2 := hb1.trans (g2.mono hb1.size)
    have hx2 := hx.grow g2
    have hy2 := hy.grow g2
    have hf2 := hf.grow g2
    refine RowS3.place hx2 hk0 (by omega) fun a1 r1 c1 h1 => ?_
    refine RowS3.place hy2 hk0 (by omega) fun a2 r2 c2 h2 => ?_
    rw [getD3 hlt] at h1 h2
    have fin : call1 .bool PP F.laws_sameLists #[r1.v, r2.v] w2 fun (ρ46 : Bool) ω47 =>
        bif !ρ46 then (
        laws_FnTableaux.J21 std p a b (InsertPermV2 P) t u (TurnTableauV1 T) f x y k true ω47 (fun e2 w2 => ∃ k_n, e2 = laws_FnTableaux.emb18 p a b (InsertPermV2 P) t u (TurnTableauV1 T) f x y k_n ∧ (0 ≤ k_n ∧ k_n ≤ (TableauxOfV Fo).length ∧ Below w.heap.size w w2) ∧ ((TableauxOfV Fo).length - k_n).toNat < ((TableauxOfV Fo).length - k).toNat) (laws_FnTableaux.q37 std (Good w0)))
        else (
        idxK 1 x k fun (a48 : Addr) =>
        load1 .sl a48 ω47 fun (ξ49 : Sl) =>
        call1 .bool PP F.impl_IsTableau #[Sl.v ξ49] ω47 fun (ρ50 : Bool) ω51 =>
        bif !ρ50 then (
        laws_FnTableaux.J21 std p a b (InsertPermV2 P) t u (TurnTableauV1 T) f x y k true ω51 (fun e2 w2 => ∃ k_n, e2 = laws_FnTableaux.emb18 p a b (InsertPermV2 P) t u (TurnTableauV1 T) f x y k_n ∧ (0 ≤ k_n ∧ k_n ≤ (TableauxOfV Fo).length ∧ Below w.heap.size w w2) ∧ ((TableauxOfV Fo).length - k_n).toNat < ((TableauxOfV Fo).length - k).toNat) (laws_FnTableaux.q37 std (Good w0)))
        else (
        idxK 1 x k fun (a52 : Addr) =>
        load1 .sl a52 ω51 fun (ξ53 : Sl) =>
        call1 .sl PP F.impl_FormOf #[Sl.v ξ53] ω51 fun (ρ54 : Sl) ω55 =>
        call1 .bool PP F.laws_sameInts #[Sl.v ρ54, Sl.v f] ω55 fun (ρ56 : Bool) ω57 =>
        laws_FnTableaux.J21 std p a b (InsertPermV2 P) t u (TurnTableauV1 T) f x y k (!ρ56) ω57 (fun e2 w2 => ∃ k_n, e2 = laws_FnTableaux.emb18 p a b (InsertPermV2 P) t u (TurnTableauV1 T) f x y k_n ∧ (0 ≤ k_n ∧ k_n ≤ (TableauxOfV Fo).length ∧ Below w.heap.size w w2) ∧ ((TableauxOfV Fo).length - k_n).toNat < ((TableauxOfV Fo).length - k).toNat) (laws_FnTableaux.q37 std (Good w0)))) := by
      refine Quiet.call1 (s := .bool) (c_sameLists h1 h2 (by omega) (by omega)) ?_
      intro w3 d3
      have g3 : Below w2.heap.size w2 w3 := d3.below _
      have hb3 := hb2.trans (g3.mono hb2.size)
      refine bif_f (by simp) ?_
      refine RowS3.get (hx2.grow g3) hk0 (by omega) fun r3 h3 => ?_
      rw [getD3 hlt] at h3
      refine (c_implIsTableau h3 (by omega) (by omega)).mono ?_
      rintro e w4 ⟨rfl, g4⟩
      refine ⟨_, rfl, ?_⟩
      have hb4 := hb3.trans (g4.mono hb3.size)
      refine bif_f (by simp [IsTableauV, t1]) ?_
      refine RowS3.get ((hx2.grow g3).grow g4) hk0 (by omega) fun r4 h4 => ?_
      rw [getD3 hlt] at h4
      refine (c_implFormOf h4 (by omega) (by omega)).mono ?_
      rintro e w5 ⟨s5, rfl, h5, g5⟩
      refine ⟨s5, rfl, ?_⟩
      have hb5 := hb4.trans (g5.mono hb4.size)
      rw [FormOfV, if_pos t1, t2] at h5
      refine Quiet.call1 (s := .bool) (c_sameInts h5.row (((hf2.grow g3).grow g4).grow g5) (by omega)) ?_
      intro w6 d6
      rw [laws_FnTableaux.J21_s]
      refine bif_f (by simp) ?_
      rw [laws_FnTableaux.J19_s]
      exact ⟨k + 1, by rw [w64_succ hk0 (by omega)], ⟨by omega, by omega, hb5.trans (d6.below _)⟩, by omega⟩
    exact ⟨⟨r1, c1, r2, c2, fin⟩, ⟨r2, c2, r1, c1, fin⟩⟩
  · rw [laws_FnTableaux.A18_0_s, hxn]
    have hb := hb0.trans (hb1.mono hb0.size)
    refine bif_dec (fun h4 => ?_) (fun h4 => ?_)
    · refine Quiet.call1 (s := .int .i64) (c_implCountTableaux hf (by omega) hfb) ?_
      intro w2 d2
      have g2 : Below w1.heap.size w1 w2 := d2.below _
      have hc := hcount (fun e => by rw [e] at h4; simp at h4)
      rw [laws_FnTableaux.J23_s]
      refine bif_f (by rw [hc]; simp) ?_
      exact lawJ24 (hb.trans (g2.mono hb.size)) (hp.grow g2) hpl (ha.grow g2) (hB.grow g2) (ht.grow g2) (hu.grow g2)
    · rw [laws_FnTableaux.J23_s]
      refine bif_f rfl ?_
      exact lawJ24 hb hp hpl ha hB ht hu
set_option maxHeartbeats 2000000 in
theorem lawC_FnTableaux (a : Sl) (L : List Int) (w : World) (ha : RowB w a L) (_ : L.length ≤ maxLen) :
    Calls PP F.laws_FnTableaux #[a.v] w fun e w' => e = .returned (.bool true) ∧ Below w.heap.size w w' := by
  refine laws_FnTableaux.calls a ?_
  rw [laws_FnTableaux.E_s]
  have hb : Below w.heap.size w w := Below.refl _ _
  refine Pure.pcall1 (s := .bool) (c_big a) ?_
  refine bif_dec (fun _ => ⟨rfl, hb⟩) (fun hbig => ?_)
  have hL : L.length < 2^60 := by have := ha.n; simp at this; omega
  refine (c_DrawInsertPerm ha hL).mono ?_
  rintro e w_13 ⟨p, P, rfl, hp, hpl, g13⟩
  refine ⟨p, rfl, ?_⟩
  have hb := hb.trans (g13.mono hb.size)
  have ha := ha.grow g13
  refine (c_implInsertPerm hp hpl).mono ?_
  rintro e w_14 ⟨x, y, rx, ry, rfl, hx, hy, _, g14⟩
  refine ⟨x, y, _, rfl, ?_⟩
  have hb := hb.trans (g14.mono hb.size)
  have ha := ha.grow g14
  have hp := hp.grow g14
  have hx := hx.row
  have hy := hy.row
  refine (c_specInsertPerm hp hpl).mono ?_
  rintro e w_15 ⟨c, d, rfl, hc, hd, g15⟩
  refine ⟨c, d, _, rfl, ?_⟩
  have hb := hb.trans (g15.mono hb.size)
  have ha := ha.grow g15
  have hp := hp.grow g15
  have hx := hx.grow g15
  have hy := hy.grow g15
  refine (c_DrawPermOfTableaux ha hL).mono ?_
  rintro e w_16 ⟨m, n, M, N, rfl, hm, hm1, hm2, hn, hn1, hn2, g16⟩
  refine ⟨m, n, rfl, ?_⟩
  have hb := hb.trans (g16.mono hb.size)
  have ha := ha.grow g16
  have hp := hp.grow g16
  have hx := hx.grow g16
  have hy := hy.grow g16
  have hc := hc.grow g16
  have hd := hd.grow g16
  refine (c_implPermOfTableaux hm (by omega) (by omega) hn (by omega) (by omega)).mono ?_
  rintro e w_17 ⟨q, rfl, hq, g17⟩
  refine ⟨q, _, rfl, ?_⟩
  have hb := hb.trans (g17.mono hb.size)
  have ha := ha.grow g17
  have hp := hp.grow g17
  have hx := hx.grow g17
  have hy := hy.grow g17
  have hc := hc.grow g17
  have hd := hd.grow g17
  have hm := hm.grow g17
  have hn := hn.grow g17
  have hq := hq.row
  refine (c_specPermOfTableaux hm (by omega) (by omega) hn (by omega) (by omega)).mono ?_
  rintro e w_18 ⟨r, rfl, hr, g18⟩
  refine ⟨r, _, rfl, ?_⟩
  have hb := hb.trans (g18.mono hb.size)
  have ha := ha.grow g18
  have hp := hp.grow g18
  have hx := hx.grow g18
  have hy := hy.grow g18
  have hc := hc.grow g18
  have hd := hd.grow g18
  have hm := hm.grow g18
  have hn := hn.grow g18
  have hq := hq.grow g18
  refine (c_DrawTurnTableau ha hL).mono ?_
  rintro e w_19 ⟨t, T, rfl, ht, ht1, ht2, g19⟩
  refine ⟨t, rfl, ?_⟩
  have hb := hb.trans (g19.mono hb.size)
  have ha := ha.grow g19
  have hp := hp.grow g19
  have hx := hx.grow g19
  have hy := hy.grow g19
  have hc := hc.grow g19
  have hd := hd.grow g19
  have hq := hq.grow g19
  have hr := hr.grow g19
  refine (c_implTurnTableau ht (by omega) (by omega)).mono ?_
  rintro e w_20 ⟨u, rfl, hu, g20⟩
  refine ⟨u, _, rfl, ?_⟩
  have hb := hb.trans (g20.mono hb.size)
  have ha := ha.grow g20
  have hp := hp.grow g20
  have hx := hx.grow g20
  have hy := hy.grow g20
  have hc := hc.grow g20
  have hd := hd.grow g20
  have hq := hq.grow g20
  have hr := hr.grow g20
  have ht := ht.grow g20
  have hu := hu.row
  refine (c_specTurnTableau ht (by omega) (by omega)).mono ?_
  rintro e w_21 ⟨v, rfl, hv, g21⟩
  refine ⟨v, _, rfl, ?_⟩
  have hb := hb.trans (g21.mono hb.size)
  have ha := ha.grow g21
  have hp := hp.grow g21
  have hx := hx.grow g21
  have hy := hy.grow g21
  have hc := hc.grow g21
  have hd := hd.grow g21
  have hq := hq.grow g21
  have hr := hr.grow g21
  have ht := ht.grow g21
  have hu := hu.grow g21
  refine (c_DrawTableauxOf ha hL).mono ?_
  rintro e w_22 ⟨f, Fo, rfl, hf, hfl, hfb, g22⟩
  refine ⟨f, rfl, ?_⟩
  have hb := hb.trans (g22.mono hb.size)
  have ha := ha.grow g22
  have hp := hp.grow g22
  have hx := hx.grow g22
  have hy := hy.grow g22
  have hc := hc.grow g22
  have hd := hd.grow g22
  have hq := hq.grow g22
  have hr := hr.grow g22
  have ht := ht.grow g22
  have hu := hu.grow g22
  have hv := hv.grow g22
  refine (c_implTableauxOf hf hfl hfb).mono ?_
  rintro e w_23 ⟨l, G, rfl, hl, hlv, g23⟩
  refine ⟨l, rfl, ?_⟩
  have hb := hb.trans (g23.mono hb.size)
  have hp := hp.grow g23
  have hx := hx.grow g23
  have hy := hy.grow g23
  have hc := hc.grow g23
  have hd := hd.grow g23
  have hq := hq.grow g23
  have hr := hr.grow g23
  have ht := ht.grow g23
  have hu := hu.grow g23
  have hv := hv.grow g23
  have hf := hf.grow g23
  have hl := hlv▸hl.row
  refine (c_specTableauxOf hf hfl).mono ?_
  rintro e w_24 ⟨k, H, rfl, hk, hkv, g24⟩
  refine ⟨k, rfl, ?_⟩
  have hb := hb.trans (g24.mono hb.size)
  have hp := hp.grow g24
  have hx := hx.grow g24
  have hy := hy.grow g24
  have hc := hc.grow g24
  have hd := hd.grow g24
  have hq := hq.grow g24
  have hr := hr.grow g24
  have ht := ht.grow g24
  have hu := hu.grow g24
  have hv := hv.grow g24
  have hf := hf.grow g24
  have hl := hl.grow g24
  have hk := hkv▸hk.row
  have hln := hl.n
  have hkn := hk.n
  obtain ⟨ip1, ip2⟩ := InsertPermV_len P
  obtain ⟨iq1, iq2⟩ := InsertPermV_len1 P
  refine bif_f (by simp) ?_
  refine Quiet.call1 (s := .bool) (c_sameLists hx hc (by omega) (by omega)) ?_
  intro w_25 g25
  replace g25 : Below w_24.heap.size w_24 w_25 := g25.below _
  have hb := hb.trans (g25.mono hb.size)
  have hp := hp.grow g25
  have hx := hx.grow g25
  have hy := hy.grow g25
  have hc := hc.grow g25
  have hd := hd.grow g25
  have hq := hq.grow g25
  have hr := hr.grow g25
  have ht := ht.grow g25
  have hu := hu.grow g25
  have hv := hv.grow g25
  have hf := hf.grow g25
  have hl := hl.grow g25
  have hk := hk.grow g25
  refine bif_f (by simp) ?_
  refine Quiet.call1 (s := .bool) (c_sameLists hy hd (by omega) (by omega)) ?_
  intro w_26 g26
  replace g26 : Below w_25.heap.size w_25 w_26 := g26.below _
  have hb := hb.trans (g26.mono hb.size)
  have hp := hp.grow g26
  have hx := hx.grow g26
  have hy := hy.grow g26
  have hc := hc.grow g26
  have hd := hd.grow g26
  have hq := hq.grow g26
  have hr := hr.grow g26
  have ht := ht.grow g26
  have hu := hu.grow g26
  have hv := hv.grow g26
  have hf := hf.grow g26
  have hl := hl.grow g26
  have hk := hk.grow g26
  refine bif_f (by simp) ?_
  refine bif_f (by simp) ?_
  refine Quiet.call1 (s := .bool) (c_sameInts hq hr (by have := PermOfTableauxV_len M N; omega)) ?_
  intro w_27 g27
  replace g27 : Below w_26.heap.size w_26 w_27 := g27.below _
  have hb := hb.trans (g27.mono hb.size)
  have hp := hp.grow g27
  have hx := hx.grow g27
  have hy := hy.grow g27
  have hc := hc.grow g27
  have hd := hd.grow g27
  have hq := hq.grow g27
  have hr := hr.grow g27
  have ht := ht.grow g27
  have hu := hu.grow g27
  have hv := hv.grow g27
  have hf := hf.grow g27
  have hl := hl.grow g27
  have hk := hk.grow g27
  refine bif_f (by simp) ?_
  refine bif_f (by simp) ?_
  obtain ⟨tu1, tu2⟩ := TurnTableauV_len T
  refine Quiet.call1 (s := .bool) (c_sameLists hu hv (by omega) (by omega)) ?_
  intro w_28 g28
  replace g28 : Below w_27.heap.size w_27 w_28 := g28.below _
  have hb := hb.trans (g28.mono hb.size)
  have hp := hp.grow g28
  have hx := hx.grow g28
  have hy := hy.grow g28
  have hc := hc.grow g28
  have hd := hd.grow g28
  have hq := hq.grow g28
  have hr := hr.grow g28
  have ht := ht.grow g28
  have hu := hu.grow g28
  have hv := hv.grow g28
  have hf := hf.grow g28
  have hl := hl.grow g28
  have hk := hk.grow g28
  refine bif_f (by simp) ?_
  refine bif_f (by rw [hln, hkn]; simp) ?_
  refine Quiet.call1 (s := (.int .i64)) (c_implCountTableaux hf.row (by omega) hfb) ?_
  intro w_29 g29
  replace g29 : Below w_28.heap.size w_28 w_29 := g29.below _
  have hb := hb.trans (g29.mono hb.size)
  have hp := hp.grow g29
  have hx := hx.grow g29
  have hy := hy.grow g29
  have ht := ht.grow g29
  have hu := hu.grow g29
  have hf := hf.grow g29
  have hl := hl.grow g29
  have hk := hk.grow g29
  refine Quiet.call1 (s := (.int .i64)) (c_specCountTableaux hf.row (by omega)) ?_
  intro w_30 g30
  replace g30 : Below w_29.heap.size w_29 w_30 := g30.below _
  have hb := hb.trans (g30.mono hb.size)
  have hp := hp.grow g30
  have hx := hx.grow g30
  have hy := hy.grow g30
  have ht := ht.grow g30
  have hu := hu.grow g30
  have hf := hf.grow g30
  have hl := hl.grow g30
  have hk := hk.grow g30
  refine bif_f (by simp) ?_
  refine (c_implIsTableau ht (by omega) (by omega)).mono ?_
  rintro e w_31 ⟨rfl, g31⟩
  refine ⟨_, rfl, ?_⟩
  have hb := hb.trans (g31.mono hb.size)
  have hp := hp.grow g31
  have hx := hx.grow g31
  have hy := hy.grow g31
  have ht := ht.grow g31
  have hu := hu.grow g31
  have hf := hf.grow g31
  have hl := hl.grow g31
  have hk := hk.grow g31
  refine (c_specIsTableau ht (by omega) (by omega)).mono ?_
  rintro e w_32 ⟨rfl, g32⟩
  refine ⟨_, rfl, ?_⟩
  have hb := hb.trans (g32.mono hb.size)
  have hp := hp.grow g32
  have hx := hx.grow g32
  have hy := hy.grow g32
  have ht := ht.grow g32
  have hu := hu.grow g32
  have hf := hf.grow g32
  have hl := hl.grow g32
  have hk := hk.grow g32
  refine bif_f (by simp) ?_
  refine (c_implFormOf ht (by omega) (by omega)).mono ?_
  rintro e w_33 ⟨g, rfl, hg, g33⟩
  refine ⟨g, rfl, ?_⟩
  have hb := hb.trans (g33.mono hb.size)
  have hp := hp.grow g33
  have hx := hx.grow g33
  have hy := hy.grow g33
  have ht := ht.grow g33
  have hu := hu.grow g33
  have hf := hf.grow g33
  have hl := hl.grow g33
  have hk := hk.grow g33
  have hg := hg.row
  refine (c_specFormOf ht (by omega) (by omega)).mono ?_
  rintro e w_34 ⟨z, rfl, hz, g34⟩
  refine ⟨z, rfl, ?_⟩
  have hb := hb.trans (g34.mono hb.size)
  have hp := hp.grow g34
  have hx := hx.grow g34
  have hy := hy.grow g34
  have ht := ht.grow g34
  have hu := hu.grow g34
  have hf := hf.grow g34
  have hl := hl.grow g34
  have hk := hk.grow g34
  have hg := hg.grow g34
  have hfo : (FormOfV T).length < 2^38 := by
    unfold FormOfV
    split
    · rw [lens_length]; omega
    · simp
  refine Quiet.call1 (s := .bool) (c_sameInts hg hz (by omega)) ?_
  intro w_35 g35
  replace g35 : Below w_34.heap.size w_34 w_35 := g35.below _
  have hb := hb.trans (g35.mono hb.size)
  have hp := hp.grow g35
  have hx := hx.grow g35
  have hy := hy.grow g35
  have ht := ht.grow g35
  have hu := hu.grow g35
  have hf := hf.grow g35
  have hl := hl.grow g35
  have hk := hk.grow g35
  have hg := hg.grow g35
  have hz := hz.grow g35
  rw [laws_FnTableaux.J16_s]
  refine bif_f (by simp) ?_
  exact lawJ17 hb hp hpl hx hy ht hu hf.row hfl hfb hl hk
end Go.Proofs.Ytdchjhhpbdekeaa
