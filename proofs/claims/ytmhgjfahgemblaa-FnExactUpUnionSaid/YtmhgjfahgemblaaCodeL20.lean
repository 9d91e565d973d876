/- What each function does, step by step, written by a program (Gen.lean); each equation is checked by the kernel. -/
import Derived.Test.YtmhgjfahgemblaaHead
namespace Go.Proofs.Ytmhgjfahgemblaa
open Go
set_option linter.unusedVariables false
set_option maxRecDepth 100000
namespace spec_l1Max
@[reducible] def cfg : Cfg := ⟨10, [], [], [], [4], [], [62, 10, 22, 58, 24, 44, 18, 70, 43, 85, 25, 71, 59, 37, 63], [82, 113, 102, 38, 103, 26, 60]⟩
def E (pr : Prims) (a_0 : Int) (b_1 : Int) (w : World) (R : Ending → World → Prop) : Prop :=
  wpC pr PP cfg (DD pr) (codeOf Try.f60) (retQ Try.f60.results.toList R) (argE 0 [vI a_0, vI b_1]) w
theorem E_eq (pr : Prims) (a_0 : Int) (b_1 : Int) (w : World) (R : Ending → World → Prop) : E pr a_0 b_1 w R = (
  bif decide (a_0 > b_1) then (
  R (.returned (vI a_0)) w)
  else (
  R (.returned (vI b_1)) w)) := by kernel_rfl
theorem E_s (a_0 : Int) (b_1 : Int) (w : World) (R : Ending → World → Prop) : E std a_0 b_1 w R = (
  bif decide (a_0 > b_1) then (
  R (.returned (vI a_0)) w)
  else (
  R (.returned (vI b_1)) w)) := E_eq std a_0 b_1 w R
theorem drawsOk : drawsOk PP cfg okD (codeOf Try.f60) = true := by kernel_rfl
theorem calls (a_0 : Int) (b_1 : Int) {w : World} {R : Ending → World → Prop} (h : E std a_0 b_1 w R) : Calls PP F.spec_l1Max #[vI a_0, vI b_1] w R :=
  calls_of noCount mixed drawOk Try.func60 rfl (c := cfg) (args := [vI a_0, vI b_1]) rfl (Nat.le_of_ble_eq_true (by kernel_rfl)) drawsOk h
end spec_l1Max

namespace spec_l20Up
@[reducible] def cfg : Cfg := ⟨44, [(8, [0, 3, 4, 5, 6, 7]), (4, [0, 3, 4, 5])], [(3, [0, 3, 4, 5, 6, 7]), (2, [0, 3, 4, 5, 6]), (1, [0, 3, 4, 5]), (0, [3])], [], [2], [10], [62, 10, 22, 58, 24, 44, 18, 70, 43, 85, 25, 71, 59, 37, 63], [82, 113, 102, 38, 103, 26, 60]⟩
def q2 (pr : Prims) (R : Ending → World → Prop) : Exit → Env → World → Prop := fun ex e w => normQ ex (fun e w => contE pr cfg (sub (codeOf Try.f27) [1, 1, 1, 1]) (fun e w => wpC pr PP cfg (DD pr) (sub (codeOf Try.f27) [1, 1, 1, 1]) (retQ Try.f27.results.toList R) e w) e w) (retQ Try.f27.results.toList R) e w
def q3 (pr : Prims) (R : Ending → World → Prop) : Exit → Env → World → Prop := fun ex e w => blockQ ex 0 (q2 pr R) e w
def q4 (pr : Prims) (k : Env → World → Prop) (Q : Exit → Env → World → Prop) : Exit → Env → World → Prop := fun ex e w => normQ ex (fun e w => contE pr cfg (sub (codeOf Try.f27) [1, 1, 1, 0, 1, 0, 0, 1, 1]) (fun e w => wpC pr PP cfg (DD pr) (sub (codeOf Try.f27) [1, 1, 1, 0, 1, 0, 0, 1, 1]) (fun ex e w => normQ ex (fun e' w' => k (Env.restr e' (lookN cfg.loops (keyOf (sub (codeOf Try.f27) [1, 1, 1, 0, 1, 0, 0])))) w') Q e w) e w) e w) (fun ex e w => normQ ex (fun e' w' => k (Env.restr e' (lookN cfg.loops (keyOf (sub (codeOf Try.f27) [1, 1, 1, 0, 1, 0, 0])))) w') Q e w) e w
def q5 (pr : Prims) (k : Env → World → Prop) (Q : Exit → Env → World → Prop) : Exit → Env → World → Prop := fun ex e w => blockQ ex 1 (q4 pr k Q) e w
def q6 (pr : Prims) (k : Env → World → Prop) (Q : Exit → Env → World → Prop) : Exit → Env → World → Prop := fun ex e w => normQ ex (fun e w => contE pr cfg (sub (codeOf Try.f27) [1, 1, 1, 0, 1, 0, 0, 1, 0, 0, 1, 1]) (fun e w => wpC pr PP cfg (DD pr) (sub (codeOf Try.f27) [1, 1, 1, 0, 1, 0, 0, 1, 0, 0, 1, 1]) (q5 pr k Q) e w) e w) (q5 pr k Q) e w
def q7 (pr : Prims) (k : Env → World → Prop) (Q : Exit → Env → World → Prop) : Exit → Env → World → Prop := fun ex e w => blockQ ex 2 (q6 pr k Q) e w
def emb4 (p_0 : Sl) (best_3 : Int) (ends_4 : Sl) (k_5 : Int) : Env := [(0, Sl.v p_0), (3, vI best_3), (4, Sl.v ends_4), (5, vI k_5)]
def emb8 (p_0 : Sl) (best_3 : Int) (ends_4 : Sl) (k_5 : Int) (n_6 : Int) (i_7 : Int) : Env := [(0, Sl.v p_0), (3, vI best_3), (4, Sl.v ends_4), (5, vI k_5), (6, vI n_6), (7, vI i_7)]
def x2 (p_0 : Sl) (best_3 : Int) (ends_4 : Sl) (k_5 : Int) (n_6 : Int) : Env := [(0, Sl.v p_0), (3, vI best_3), (4, Sl.v ends_4), (5, vI k_5), (6, vI n_6)]
def x0 (best_3 : Int) : Env := [(3, vI best_3)]
def S8 (pr : Prims) (Q : Exit → Env → World → Prop) : (Env → World → Prop) → Env → World → Prop := fun k e w => wpC pr PP cfg (DD pr) (sub (codeOf Try.f27) [1, 1, 1, 0, 1, 0, 0, 1, 0, 0, 1, 0, 1, 0, 0]) (fun ex e w => normQ ex (fun e' w' => k (Env.restr e' (lookN cfg.loops (keyOf (sub (codeOf Try.f27) [1, 1, 1, 0, 1, 0, 0, 1, 0, 0, 1, 0, 1, 0, 0])))) w') Q e w) e w
def S4 (pr : Prims) (Q : Exit → Env → World → Prop) : (Env → World → Prop) → Env → World → Prop := fun k e w => wpC pr PP cfg (DD pr) (sub (codeOf Try.f27) [1, 1, 1, 0, 1, 0, 0]) (fun ex e w => normQ ex (fun e' w' => k (Env.restr e' (lookN cfg.loops (keyOf (sub (codeOf Try.f27) [1, 1, 1, 0, 1, 0, 0])))) w') Q e w) e w
def B8 (pr : Prims) (p_0 : Sl) (best_3 : Int) (ends_4 : Sl) (k_5 : Int) (n_6 : Int) (i_7 : Int) (w : World) (k : Env → World → Prop) (Q : Exit → Env → World → Prop) : Prop :=
  S8 pr Q k (emb8 p_0 best_3 ends_4 k_5 n_6 i_7) w
def L8 (pr : Prims) (p_0 : Sl) (best_3 : Int) (ends_4 : Sl) (k_5 : Int) (n_6 : Int) (i_7 : Int) (w : World) (Q : Exit → Env → World → Prop) : Prop :=
  pr.loop (S8 pr Q) (emb8 p_0 best_3 ends_4 k_5 n_6 i_7) w
def B4 (pr : Prims) (p_0 : Sl) (best_3 : Int) (ends_4 : Sl) (k_5 : Int) (w : World) (k : Env → World → Prop) (Q : Exit → Env → World → Prop) : Prop :=
  S4 pr Q k (emb4 p_0 best_3 ends_4 k_5) w
def L4 (pr : Prims) (p_0 : Sl) (best_3 : Int) (ends_4 : Sl) (k_5 : Int) (w : World) (Q : Exit → Env → World → Prop) : Prop :=
  pr.loop (S4 pr Q) (emb4 p_0 best_3 ends_4 k_5) w
def E (pr : Prims) (p_0 : Sl) (w : World) (R : Ending → World → Prop) : Prop :=
  wpC pr PP cfg (DD pr) (codeOf Try.f27) (retQ Try.f27.results.toList R) (argE 0 [Sl.v p_0]) w
theorem B8_eq (pr : Prims) (p_0 : Sl) (best_3 : Int) (ends_4 : Sl) (k_5 : Int) (n_6 : Int) (i_7 : Int) (w : World) (k : Env → World → Prop) (Q : Exit → Env → World → Prop) : B8 pr p_0 best_3 ends_4 k_5 n_6 i_7 w k Q = (
  bif decide (i_7 < k_5) then (
  pr.idxK 1 p_0 i_7 fun (a8 : Addr) =>
  pr.load1 (.int .i64) a8 w fun (ξ9 : Int) =>
  pr.idxK 1 p_0 k_5 fun (a10 : Addr) =>
  pr.load1 (.int .i64) a10 w fun (ξ11 : Int) =>
  pr.drewAll w fun ω12 =>
  bif decide (ξ9 < ξ11) then (
  pr.idxK 1 ends_4 i_7 fun (a13 : Addr) =>
  pr.load1 (.int .i64) a13 ω12 fun (ξ14 : Int) =>
  pr.pcall1 (.int .i64) PP F.spec_l1Max #[vI n_6, vI (w64 (ξ14 + 1))] fun (ρ15 : Int) =>
  k (emb8 p_0 best_3 ends_4 k_5 ρ15 (w64 (i_7 + 1))) ω12)
  else (
  k (emb8 p_0 best_3 ends_4 k_5 n_6 (w64 (i_7 + 1))) ω12))
  else (
  Q (.exit 2) (x2 p_0 best_3 ends_4 k_5 n_6) w)) := by kernel_rfl
theorem B8_s (p_0 : Sl) (best_3 : Int) (ends_4 : Sl) (k_5 : Int) (n_6 : Int) (i_7 : Int) (w : World) (k : Env → World → Prop) (Q : Exit → Env → World → Prop) : B8 std p_0 best_3 ends_4 k_5 n_6 i_7 w k Q = (
  bif decide (i_7 < k_5) then (
  idxK 1 p_0 i_7 fun (a8 : Addr) =>
  load1 (.int .i64) a8 w fun (ξ9 : Int) =>
  idxK 1 p_0 k_5 fun (a10 : Addr) =>
  load1 (.int .i64) a10 w fun (ξ11 : Int) =>
  drewAll w fun ω12 =>
  bif decide (ξ9 < ξ11) then (
  idxK 1 ends_4 i_7 fun (a13 : Addr) =>
  load1 (.int .i64) a13 ω12 fun (ξ14 : Int) =>
  pcall1 (.int .i64) PP F.spec_l1Max #[vI n_6, vI (w64 (ξ14 + 1))] fun (ρ15 : Int) =>
  k (emb8 p_0 best_3 ends_4 k_5 ρ15 (w64 (i_7 + 1))) ω12)
  else (
  k (emb8 p_0 best_3 ends_4 k_5 n_6 (w64 (i_7 + 1))) ω12))
  else (
  Q (.exit 2) (x2 p_0 best_3 ends_4 k_5 n_6) w)) := B8_eq std p_0 best_3 ends_4 k_5 n_6 i_7 w k Q
theorem L8_rule (p_0 : Sl) (best_3 : Int) (ends_4 : Sl) (k_5 : Int) (n_6 : Int) (i_7 : Int) (w : World) (Q : Exit → Env → World → Prop) (I : Int → Int → World → Prop) (μ : Int → Int → World → Nat) (h0 : I n_6 i_7 w)
    (h : ∀ (n_6 : Int) (i_7 : Int) (w' : World), I n_6 i_7 w' → B8 std p_0 best_3 ends_4 k_5 n_6 i_7 w' (fun e2 w2 => ∃ n_6_n i_7_n, e2 = emb8 p_0 best_3 ends_4 k_5 n_6_n i_7_n ∧ I n_6_n i_7_n w2 ∧ μ n_6_n i_7_n w2 < μ n_6 i_7 w') Q) :
    L8 std p_0 best_3 ends_4 k_5 n_6 i_7 w Q := by
  unfold L8
  refine LoopE.intro (σ := Int × Int) (step := S8 std Q) (fun s => emb8 p_0 best_3 ends_4 k_5 s.1 s.2) (fun s w => I s.1 s.2 w) (fun s w => μ s.1 s.2 w) (n_6, i_7) rfl h0 ?_
  intro s w' hI
  have h1 := h s.1 s.2 w' hI
  unfold B8 at h1
  simp only [Prod.exists]
  exact h1
theorem A8_2_eq (pr : Prims) (p_0 : Sl) (best_3 : Int) (ends_4 : Sl) (k_5 : Int) (n_6 : Int) (w : World) (k : Env → World → Prop) (Q : Exit → Env → World → Prop) : (q7 pr k Q) (.exit 2) (x2 p_0 best_3 ends_4 k_5 n_6) w = (
  pr.sem1 .sl PP (Instr.buildSlice T_Sint 1 #[(0, vI n_6)]) w fun (ρ16 : Sl) ω17 =>
  pr.sem1 .sl PP (Builtin.append_ #[T_Sint, T_Sint] T_Sint #[Sl.v ends_4, Sl.v ρ16]) ω17 fun (ρ18 : Sl) ω19 =>
  pr.pcall1 (.int .i64) PP F.spec_l1Max #[vI best_3, vI n_6] fun (ρ20 : Int) =>
  k (emb4 p_0 ρ20 ρ18 (w64 (k_5 + 1))) ω19) := by kernel_rfl
theorem A8_2_s (p_0 : Sl) (best_3 : Int) (ends_4 : Sl) (k_5 : Int) (n_6 : Int) (w : World) (k : Env → World → Prop) (Q : Exit → Env → World → Prop) : (q7 std k Q) (.exit 2) (x2 p_0 best_3 ends_4 k_5 n_6) w = (
  sem1 .sl PP (Instr.buildSlice T_Sint 1 #[(0, vI n_6)]) w fun (ρ16 : Sl) ω17 =>
  sem1 .sl PP (Builtin.append_ #[T_Sint, T_Sint] T_Sint #[Sl.v ends_4, Sl.v ρ16]) ω17 fun (ρ18 : Sl) ω19 =>
  pcall1 (.int .i64) PP F.spec_l1Max #[vI best_3, vI n_6] fun (ρ20 : Int) =>
  k (emb4 p_0 ρ20 ρ18 (w64 (k_5 + 1))) ω19) := A8_2_eq std p_0 best_3 ends_4 k_5 n_6 w k Q
theorem B4_eq (pr : Prims) (p_0 : Sl) (best_3 : Int) (ends_4 : Sl) (k_5 : Int) (w : World) (k : Env → World → Prop) (Q : Exit → Env → World → Prop) : B4 pr p_0 best_3 ends_4 k_5 w k Q = (
  bif decide (k_5 < (p_0.n : Int)) then (
  L8 pr p_0 best_3 ends_4 k_5 1 0 w (q7 pr k Q))
  else (
  Q (.exit 0) (x0 best_3) w)) := by kernel_rfl
theorem B4_s (p_0 : Sl) (best_3 : Int) (ends_4 : Sl) (k_5 : Int) (w : World) (k : Env → World → Prop) (Q : Exit → Env → World → Prop) : B4 std p_0 best_3 ends_4 k_5 w k Q = (
  bif decide (k_5 < (p_0.n : Int)) then (
  L8 std p_0 best_3 ends_4 k_5 1 0 w (q7 std k Q))
  else (
  Q (.exit 0) (x0 best_3) w)) := B4_eq std p_0 best_3 ends_4 k_5 w k Q
theorem L4_rule (p_0 : Sl) (best_3 : Int) (ends_4 : Sl) (k_5 : Int) (w : World) (Q : Exit → Env → World → Prop) (I : Int → Sl → Int → World → Prop) (μ : Int → Sl → Int → World → Nat) (h0 : I best_3 ends_4 k_5 w)
    (h : ∀ (best_3 : Int) (ends_4 : Sl) (k_5 : Int) (w' : World), I best_3 ends_4 k_5 w' → B4 std p_0 best_3 ends_4 k_5 w' (fun e2 w2 => ∃ best_3_n ends_4_n k_5_n, e2 = emb4 p_0 best_3_n ends_4_n k_5_n ∧ I best_3_n ends_4_n k_5_n w2 ∧ μ best_3_n ends_4_n k_5_n w2 < μ best_3 ends_4 k_5 w') Q) :
    L4 std p_0 best_3 ends_4 k_5 w Q := by
  unfold L4
  refine LoopE.intro (σ := Int × Sl × Int) (step := S4 std Q) (fun s => emb4 p_0 s.1 s.2.1 s.2.2) (fun s w => I s.1 s.2.1 s.2.2 w) (fun s w => μ s.1 s.2.1 s.2.2 w) (best_3, ends_4, k_5) rfl h0 ?_
  intro s w' hI
  have h1 := h s.1 s.2.1 s.2.2 w' hI
  unfold B4 at h1
  simp only [Prod.exists]
  exact h1
theorem A4_0_eq (pr : Prims) (best_3 : Int) (w : World) (R : Ending → World → Prop) : (q3 pr R) (.exit 0) (x0 best_3) w = (
  R (.returned (vI best_3)) w) := by kernel_rfl
theorem A4_0_s (best_3 : Int) (w : World) (R : Ending → World → Prop) : (q3 std R) (.exit 0) (x0 best_3) w = (
  R (.returned (vI best_3)) w) := A4_0_eq std best_3 w R
theorem E_eq (pr : Prims) (p_0 : Sl) (w : World) (R : Ending → World → Prop) : E pr p_0 w R = (
  pr.sem1 .sl PP (Instr.buildSlice T_Sint 0 #[]) w fun (ρ0 : Sl) ω1 =>
  L4 pr p_0 0 ρ0 0 ω1 (q3 pr R)) := by kernel_rfl
theorem E_s (p_0 : Sl) (w : World) (R : Ending → World → Prop) : E std p_0 w R = (
  sem1 .sl PP (Instr.buildSlice T_Sint 0 #[]) w fun (ρ0 : Sl) ω1 =>
  L4 std p_0 0 ρ0 0 ω1 (q3 std R)) := E_eq std p_0 w R
theorem drawsOk : drawsOk PP cfg okD (codeOf Try.f27) = true := by kernel_rfl
theorem calls (p_0 : Sl) {w : World} {R : Ending → World → Prop} (h : E std p_0 w R) : Calls PP F.spec_l20Up #[Sl.v p_0] w R :=
  calls_of noCount mixed drawOk Try.func27 rfl (c := cfg) (args := [Sl.v p_0]) rfl (Nat.le_of_ble_eq_true (by kernel_rfl)) drawsOk h
end spec_l20Up

namespace spec_l3Reverse
@[reducible] def cfg : Cfg := ⟨21, [(3, [0, 3, 4])], [(1, [0, 3, 4]), (0, [3])], [], [2], [], [62, 10, 22, 58, 24, 44, 18, 70, 43, 85, 25, 71, 59, 37, 63], [82, 113, 102, 38, 103, 26, 60]⟩
def q2 (pr : Prims) (R : Ending → World → Prop) : Exit → Env → World → Prop := fun ex e w => normQ ex (fun e w => contE pr cfg (sub (codeOf Try.f28) [1, 1, 1]) (fun e w => wpC pr PP cfg (DD pr) (sub (codeOf Try.f28) [1, 1, 1]) (retQ Try.f28.results.toList R) e w) e w) (retQ Try.f28.results.toList R) e w
def q3 (pr : Prims) (R : Ending → World → Prop) : Exit → Env → World → Prop := fun ex e w => blockQ ex 0 (q2 pr R) e w
def emb3 (p_0 : Sl) (out_3 : Sl) (k_4 : Int) : Env := [(0, Sl.v p_0), (3, Sl.v out_3), (4, vI k_4)]
def x0 (out_3 : Sl) : Env := [(3, Sl.v out_3)]
def S3 (pr : Prims) (Q : Exit → Env → World → Prop) : (Env → World → Prop) → Env → World → Prop := fun k e w => wpC pr PP cfg (DD pr) (sub (codeOf Try.f28) [1, 1, 0, 1, 0, 0]) (fun ex e w => normQ ex (fun e' w' => k (Env.restr e' (lookN cfg.loops (keyOf (sub (codeOf Try.f28) [1, 1, 0, 1, 0, 0])))) w') Q e w) e w
def B3 (pr : Prims) (p_0 : Sl) (out_3 : Sl) (k_4 : Int) (w : World) (k : Env → World → Prop) (Q : Exit → Env → World → Prop) : Prop :=
  S3 pr Q k (emb3 p_0 out_3 k_4) w
def L3 (pr : Prims) (p_0 : Sl) (out_3 : Sl) (k_4 : Int) (w : World) (Q : Exit → Env → World → Prop) : Prop :=
  pr.loop (S3 pr Q) (emb3 p_0 out_3 k_4) w
def E (pr : Prims) (p_0 : Sl) (w : World) (R : Ending → World → Prop) : Prop :=
  wpC pr PP cfg (DD pr) (codeOf Try.f28) (retQ Try.f28.results.toList R) (argE 0 [Sl.v p_0]) w
theorem B3_eq (pr : Prims) (p_0 : Sl) (out_3 : Sl) (k_4 : Int) (w : World) (k : Env → World → Prop) (Q : Exit → Env → World → Prop) : B3 pr p_0 out_3 k_4 w k Q = (
  bif decide (k_4 ≥ 0) then (
  pr.idxK 1 p_0 k_4 fun (a4 : Addr) =>
  pr.load1 (.int .i64) a4 w fun (ξ5 : Int) =>
  pr.sem1 .sl PP (Instr.buildSlice T_Sint 1 #[(0, vI ξ5)]) w fun (ρ6 : Sl) ω7 =>
  pr.sem1 .sl PP (Builtin.append_ #[T_Sint, T_Sint] T_Sint #[Sl.v out_3, Sl.v ρ6]) ω7 fun (ρ8 : Sl) ω9 =>
  k (emb3 p_0 ρ8 (w64 (k_4 - 1))) ω9)
  else (
  Q (.exit 0) (x0 out_3) w)) := by kernel_rfl
theorem B3_s (p_0 : Sl) (out_3 : Sl) (k_4 : Int) (w : World) (k : Env → World → Prop) (Q : Exit → Env → World → Prop) : B3 std p_0 out_3 k_4 w k Q = (
  bif decide (k_4 ≥ 0) then (
  idxK 1 p_0 k_4 fun (a4 : Addr) =>
  load1 (.int .i64) a4 w fun (ξ5 : Int) =>
  sem1 .sl PP (Instr.buildSlice T_Sint 1 #[(0, vI ξ5)]) w fun (ρ6 : Sl) ω7 =>
  sem1 .sl PP (Builtin.append_ #[T_Sint, T_Sint] T_Sint #[Sl.v out_3, Sl.v ρ6]) ω7 fun (ρ8 : Sl) ω9 =>
  k (emb3 p_0 ρ8 (w64 (k_4 - 1))) ω9)
  else (
  Q (.exit 0) (x0 out_3) w)) := B3_eq std p_0 out_3 k_4 w k Q
theorem L3_rule (p_0 : Sl) (out_3 : Sl) (k_4 : Int) (w : World) (Q : Exit → Env → World → Prop) (I : Sl → Int → World → Prop) (μ : Sl → Int → World → Nat) (h0 : I out_3 k_4 w)
    (h : ∀ (out_3 : Sl) (k_4 : Int) (w' : World), I out_3 k_4 w' → B3 std p_0 out_3 k_4 w' (fun e2 w2 => ∃ out_3_n k_4_n, e2 = emb3 p_0 out_3_n k_4_n ∧ I out_3_n k_4_n w2 ∧ μ out_3_n k_4_n w2 < μ out_3 k_4 w') Q) :
    L3 std p_0 out_3 k_4 w Q := by
  unfold L3
  refine LoopE.intro (σ := Sl × Int) (step := S3 std Q) (fun s => emb3 p_0 s.1 s.2) (fun s w => I s.1 s.2 w) (fun s w => μ s.1 s.2 w) (out_3, k_4) rfl h0 ?_
  intro s w' hI
  have h1 := h s.1 s.2 w' hI
  unfold B3 at h1
  simp only [Prod.exists]
  exact h1
theorem A3_0_eq (pr : Prims) (out_3 : Sl) (w : World) (R : Ending → World → Prop) : (q3 pr R) (.exit 0) (x0 out_3) w = (
  R (.returned (Sl.v out_3)) w) := by kernel_rfl
theorem A3_0_s (out_3 : Sl) (w : World) (R : Ending → World → Prop) : (q3 std R) (.exit 0) (x0 out_3) w = (
  R (.returned (Sl.v out_3)) w) := A3_0_eq std out_3 w R
theorem E_eq (pr : Prims) (p_0 : Sl) (w : World) (R : Ending → World → Prop) : E pr p_0 w R = (
  pr.sem1 .sl PP (Instr.buildSlice T_Sint 0 #[]) w fun (ρ0 : Sl) ω1 =>
  L3 pr p_0 ρ0 (w64 ((p_0.n : Int) - 1)) ω1 (q3 pr R)) := by kernel_rfl
theorem E_s (p_0 : Sl) (w : World) (R : Ending → World → Prop) : E std p_0 w R = (
  sem1 .sl PP (Instr.buildSlice T_Sint 0 #[]) w fun (ρ0 : Sl) ω1 =>
  L3 std p_0 ρ0 (w64 ((p_0.n : Int) - 1)) ω1 (q3 std R)) := E_eq std p_0 w R
theorem drawsOk : drawsOk PP cfg okD (codeOf Try.f28) = true := by kernel_rfl
theorem calls (p_0 : Sl) {w : World} {R : Ending → World → Prop} (h : E std p_0 w R) : Calls PP F.spec_l3Reverse #[Sl.v p_0] w R :=
  calls_of noCount mixed drawOk Try.func28 rfl (c := cfg) (args := [Sl.v p_0]) rfl (Nat.le_of_ble_eq_true (by kernel_rfl)) drawsOk h
end spec_l3Reverse

end Go.Proofs.Ytmhgjfahgemblaa
