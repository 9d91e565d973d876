/- What each function does, step by step, written by a program (Gen.lean); each equation is checked by the kernel. -/
import Derived.Test.YthbjkgpbnfibkaaHead
namespace Go.Proofs.Ythbjkgpbnfibkaa
open Go
set_option linter.unusedVariables false
set_option maxRecDepth 100000
namespace spec_RuleCounts
@[reducible] def cfg : Cfg := ⟨65, [(3, [0, 1, 2, 7, 8]), (11, [0, 2, 7, 9, 10])], [(1, [0, 1, 2, 7, 8]), (0, [0, 1, 2, 7]), (3, [0, 2, 7, 9, 10]), (2, [7])], [], [6], [], [93, 51, 18, 26, 23, 44, 60, 19, 57, 123, 109, 126, 53, 100], [61, 85, 110, 74, 127, 120]⟩
def q2 (pr : Prims) (R : Ending → World → Prop) : Exit → Env → World → Prop := fun ex e w => normQ ex (fun e w => contE pr cfg (sub (codeOf Try.f20) [1, 1, 1]) (fun e w => wpC pr PP cfg (DD pr) (sub (codeOf Try.f20) [1, 1, 1]) (retQ Try.f20.results.toList R) e w) e w) (retQ Try.f20.results.toList R) e w
def q3 (pr : Prims) (R : Ending → World → Prop) : Exit → Env → World → Prop := fun ex e w => blockQ ex 0 (q2 pr R) e w
def q11 (pr : Prims) (R : Ending → World → Prop) : Exit → Env → World → Prop := fun ex e w => normQ ex (fun e w => contE pr cfg (sub (codeOf Try.f20) [1, 1, 1, 1, 1, 1]) (fun e w => wpC pr PP cfg (DD pr) (sub (codeOf Try.f20) [1, 1, 1, 1, 1, 1]) (retQ Try.f20.results.toList R) e w) e w) (retQ Try.f20.results.toList R) e w
def q12 (pr : Prims) (R : Ending → World → Prop) : Exit → Env → World → Prop := fun ex e w => blockQ ex 2 (q11 pr R) e w
def emb3 (rule_0 : Sl) (label_1 : Int) (n_2 : Int) (out_7 : Sl) (k_8 : Int) : Env := [(0, Sl.v rule_0), (1, vI label_1), (2, vI n_2), (7, Sl.v out_7), (8, vI k_8)]
def x0 (rule_0 : Sl) (label_1 : Int) (n_2 : Int) (out_7 : Sl) : Env := [(0, Sl.v rule_0), (1, vI label_1), (2, vI n_2), (7, Sl.v out_7)]
def emb11 (rule_0 : Sl) (n_2 : Int) (out_7 : Sl) (labels_9 : Sl) (k_10 : Int) : Env := [(0, Sl.v rule_0), (2, vI n_2), (7, Sl.v out_7), (9, Sl.v labels_9), (10, vI k_10)]
def x2 (out_7 : Sl) : Env := [(7, Sl.v out_7)]
def S3 (pr : Prims) (Q : Exit → Env → World → Prop) : (Env → World → Prop) → Env → World → Prop := fun k e w => wpC pr PP cfg (DD pr) (sub (codeOf Try.f20) [1, 1, 0, 1, 0, 0]) (fun ex e w => normQ ex (fun e' w' => k (Env.restr e' (lookN cfg.loops (keyOf (sub (codeOf Try.f20) [1, 1, 0, 1, 0, 0])))) w') Q e w) e w
def S11 (pr : Prims) (Q : Exit → Env → World → Prop) : (Env → World → Prop) → Env → World → Prop := fun k e w => wpC pr PP cfg (DD pr) (sub (codeOf Try.f20) [1, 1, 1, 1, 1, 0, 1, 0, 0]) (fun ex e w => normQ ex (fun e' w' => k (Env.restr e' (lookN cfg.loops (keyOf (sub (codeOf Try.f20) [1, 1, 1, 1, 1, 0, 1, 0, 0])))) w') Q e w) e w
def B3 (pr : Prims) (rule_0 : Sl) (label_1 : Int) (n_2 : Int) (out_7 : Sl) (k_8 : Int) (w : World) (k : Env → World → Prop) (Q : Exit → Env → World → Prop) : Prop :=
  S3 pr Q k (emb3 rule_0 label_1 n_2 out_7 k_8) w
def L3 (pr : Prims) (rule_0 : Sl) (label_1 : Int) (n_2 : Int) (out_7 : Sl) (k_8 : Int) (w : World) (Q : Exit → Env → World → Prop) : Prop :=
  pr.loop (S3 pr Q) (emb3 rule_0 label_1 n_2 out_7 k_8) w
def B11 (pr : Prims) (rule_0 : Sl) (n_2 : Int) (out_7 : Sl) (labels_9 : Sl) (k_10 : Int) (w : World) (k : Env → World → Prop) (Q : Exit → Env → World → Prop) : Prop :=
  S11 pr Q k (emb11 rule_0 n_2 out_7 labels_9 k_10) w
def L11 (pr : Prims) (rule_0 : Sl) (n_2 : Int) (out_7 : Sl) (labels_9 : Sl) (k_10 : Int) (w : World) (Q : Exit → Env → World → Prop) : Prop :=
  pr.loop (S11 pr Q) (emb11 rule_0 n_2 out_7 labels_9 k_10) w
def E (pr : Prims) (rule_0 : Sl) (label_1 : Int) (n_2 : Int) (w : World) (R : Ending → World → Prop) : Prop :=
  wpC pr PP cfg (DD pr) (codeOf Try.f20) (retQ Try.f20.results.toList R) (argE 0 [Sl.v rule_0, vI label_1, vI n_2]) w
theorem B3_eq (pr : Prims) (rule_0 : Sl) (label_1 : Int) (n_2 : Int) (out_7 : Sl) (k_8 : Int) (w : World) (k : Env → World → Prop) (Q : Exit → Env → World → Prop) : B3 pr rule_0 label_1 n_2 out_7 k_8 w k Q = (
  bif decide (k_8 < (rule_0.n : Int)) then (
  pr.idxK 1 rule_0 k_8 fun (a4 : Addr) =>
  pr.load1 .sl a4 w fun (ξ5 : Sl) =>
  bif (ξ5.n : Int) == 0 then (
  Q .ret [(6, Sl.v out_7)] w)
  else (
  pr.idxK 1 rule_0 k_8 fun (a6 : Addr) =>
  pr.load1 .sl a6 w fun (ξ7 : Sl) =>
  bif decide ((ξ7.n : Int) > 20) then (
  Q .ret [(6, Sl.v out_7)] w)
  else (
  bif decide ((rule_0.n : Int) > 20) then (
  Q .ret [(6, Sl.v out_7)] w)
  else (
  k (emb3 rule_0 label_1 n_2 out_7 (w64 (k_8 + 1))) w))))
  else (
  Q (.exit 0) (x0 rule_0 label_1 n_2 out_7) w)) := by kernel_rfl
theorem B3_s (rule_0 : Sl) (label_1 : Int) (n_2 : Int) (out_7 : Sl) (k_8 : Int) (w : World) (k : Env → World → Prop) (Q : Exit → Env → World → Prop) : B3 std rule_0 label_1 n_2 out_7 k_8 w k Q = (
  bif decide (k_8 < (rule_0.n : Int)) then (
  idxK 1 rule_0 k_8 fun (a4 : Addr) =>
  load1 .sl a4 w fun (ξ5 : Sl) =>
  bif (ξ5.n : Int) == 0 then (
  Q .ret [(6, Sl.v out_7)] w)
  else (
  idxK 1 rule_0 k_8 fun (a6 : Addr) =>
  load1 .sl a6 w fun (ξ7 : Sl) =>
  bif decide ((ξ7.n : Int) > 20) then (
  Q .ret [(6, Sl.v out_7)] w)
  else (
  bif decide ((rule_0.n : Int) > 20) then (
  Q .ret [(6, Sl.v out_7)] w)
  else (
  k (emb3 rule_0 label_1 n_2 out_7 (w64 (k_8 + 1))) w))))
  else (
  Q (.exit 0) (x0 rule_0 label_1 n_2 out_7) w)) := B3_eq std rule_0 label_1 n_2 out_7 k_8 w k Q
theorem L3_rule (rule_0 : Sl) (label_1 : Int) (n_2 : Int) (out_7 : Sl) (k_8 : Int) (w : World) (Q : Exit → Env → World → Prop) (I : Int → World → Prop) (μ : Int → World → Nat) (h0 : I k_8 w)
    (h : ∀ (k_8 : Int) (w' : World), I k_8 w' → B3 std rule_0 label_1 n_2 out_7 k_8 w' (fun e2 w2 => ∃ k_8_n, e2 = emb3 rule_0 label_1 n_2 out_7 k_8_n ∧ I k_8_n w2 ∧ μ k_8_n w2 < μ k_8 w') Q) :
    L3 std rule_0 label_1 n_2 out_7 k_8 w Q := by
  unfold L3
  refine LoopE.intro (σ := Int) (step := S3 std Q) (fun s => emb3 rule_0 label_1 n_2 out_7 s) (fun s w => I s w) (fun s w => μ s w) k_8 rfl h0 ?_
  intro s w' hI
  have h1 := h s w' hI
  unfold B3 at h1
  exact h1
theorem B11_eq (pr : Prims) (rule_0 : Sl) (n_2 : Int) (out_7 : Sl) (labels_9 : Sl) (k_10 : Int) (w : World) (k : Env → World → Prop) (Q : Exit → Env → World → Prop) : B11 pr rule_0 n_2 out_7 labels_9 k_10 w k Q = (
  bif decide (k_10 ≤ n_2) then (
  bif decide ((labels_9.n : Int) > 5000) then (
  pr.sem1 .sl PP (Instr.buildSlice T_Sint 0 #[]) w fun (ρ13 : Sl) ω14 =>
  Q .ret [(6, Sl.v ρ13)] ω14)
  else (
  pr.sem1 .sl PP (Instr.buildSlice T_Sint 1 #[(0, vI (labels_9.n : Int))]) w fun (ρ15 : Sl) ω16 =>
  pr.sem1 .sl PP (Builtin.append_ #[T_Sint, T_Sint] T_Sint #[Sl.v out_7, Sl.v ρ15]) ω16 fun (ρ17 : Sl) ω18 =>
  bif decide (k_10 < n_2) then (
  pr.call1 .sl PP F.spec_l15Step #[Sl.v rule_0, Sl.v labels_9] ω18 fun (ρ19 : Sl) ω20 =>
  k (emb11 rule_0 n_2 ρ17 ρ19 (w64 (k_10 + 1))) ω20)
  else (
  k (emb11 rule_0 n_2 ρ17 labels_9 (w64 (k_10 + 1))) ω18)))
  else (
  Q (.exit 2) (x2 out_7) w)) := by kernel_rfl
theorem B11_s (rule_0 : Sl) (n_2 : Int) (out_7 : Sl) (labels_9 : Sl) (k_10 : Int) (w : World) (k : Env → World → Prop) (Q : Exit → Env → World → Prop) : B11 std rule_0 n_2 out_7 labels_9 k_10 w k Q = (
  bif decide (k_10 ≤ n_2) then (
  bif decide ((labels_9.n : Int) > 5000) then (
  sem1 .sl PP (Instr.buildSlice T_Sint 0 #[]) w fun (ρ13 : Sl) ω14 =>
  Q .ret [(6, Sl.v ρ13)] ω14)
  else (
  sem1 .sl PP (Instr.buildSlice T_Sint 1 #[(0, vI (labels_9.n : Int))]) w fun (ρ15 : Sl) ω16 =>
  sem1 .sl PP (Builtin.append_ #[T_Sint, T_Sint] T_Sint #[Sl.v out_7, Sl.v ρ15]) ω16 fun (ρ17 : Sl) ω18 =>
  bif decide (k_10 < n_2) then (
  call1 .sl PP F.spec_l15Step #[Sl.v rule_0, Sl.v labels_9] ω18 fun (ρ19 : Sl) ω20 =>
  k (emb11 rule_0 n_2 ρ17 ρ19 (w64 (k_10 + 1))) ω20)
  else (
  k (emb11 rule_0 n_2 ρ17 labels_9 (w64 (k_10 + 1))) ω18)))
  else (
  Q (.exit 2) (x2 out_7) w)) := B11_eq std rule_0 n_2 out_7 labels_9 k_10 w k Q
theorem L11_rule (rule_0 : Sl) (n_2 : Int) (out_7 : Sl) (labels_9 : Sl) (k_10 : Int) (w : World) (Q : Exit → Env → World → Prop) (I : Sl → Sl → Int → World → Prop) (μ : Sl → Sl → Int → World → Nat) (h0 : I out_7 labels_9 k_10 w)
    (h : ∀ (out_7 : Sl) (labels_9 : Sl) (k_10 : Int) (w' : World), I out_7 labels_9 k_10 w' → B11 std rule_0 n_2 out_7 labels_9 k_10 w' (fun e2 w2 => ∃ out_7_n labels_9_n k_10_n, e2 = emb11 rule_0 n_2 out_7_n labels_9_n k_10_n ∧ I out_7_n labels_9_n k_10_n w2 ∧ μ out_7_n labels_9_n k_10_n w2 < μ out_7 labels_9 k_10 w') Q) :
    L11 std rule_0 n_2 out_7 labels_9 k_10 w Q := by
  unfold L11
  refine LoopE.intro (σ := Sl × Sl × Int) (step := S11 std Q) (fun s => emb11 rule_0 n_2 s.1 s.2.1 s.2.2) (fun s w => I s.1 s.2.1 s.2.2 w) (fun s w => μ s.1 s.2.1 s.2.2 w) (out_7, labels_9, k_10) rfl h0 ?_
  intro s w' hI
  have h1 := h s.1 s.2.1 s.2.2 w' hI
  unfold B11 at h1
  simp only [Prod.exists]
  exact h1
theorem A11_2_eq (pr : Prims) (out_7 : Sl) (w : World) (R : Ending → World → Prop) : (q12 pr R) (.exit 2) (x2 out_7) w = (
  R (.returned (Sl.v out_7)) w) := by kernel_rfl
theorem A11_2_s (out_7 : Sl) (w : World) (R : Ending → World → Prop) : (q12 std R) (.exit 2) (x2 out_7) w = (
  R (.returned (Sl.v out_7)) w) := A11_2_eq std out_7 w R
theorem R11_eq (pr : Prims) (v6 : Value) (w : World) (R : Ending → World → Prop) : (q12 pr R) .ret [(6, v6)] w = (
  R (.returned (v6)) w) := by kernel_rfl
theorem R11_s (v6 : Value) (w : World) (R : Ending → World → Prop) : (q12 std R) .ret [(6, v6)] w = (
  R (.returned (v6)) w) := R11_eq std v6 w R
theorem A3_0_eq (pr : Prims) (rule_0 : Sl) (label_1 : Int) (n_2 : Int) (out_7 : Sl) (w : World) (R : Ending → World → Prop) : (q3 pr R) (.exit 0) (x0 rule_0 label_1 n_2 out_7) w = (
  pr.pcall1 .bool PP F.spec_l1In #[vI n_2, vI 0, vI 8] fun (ρ8 : Bool) =>
  bif !ρ8 then (
  R (.returned (Sl.v out_7)) w)
  else (
  pr.sem1 .sl PP (Instr.buildSlice T_Sint 1 #[(0, vI label_1)]) w fun (ρ9 : Sl) ω10 =>
  L11 pr rule_0 n_2 out_7 ρ9 0 ω10 (q12 pr R))) := by kernel_rfl
theorem A3_0_s (rule_0 : Sl) (label_1 : Int) (n_2 : Int) (out_7 : Sl) (w : World) (R : Ending → World → Prop) : (q3 std R) (.exit 0) (x0 rule_0 label_1 n_2 out_7) w = (
  pcall1 .bool PP F.spec_l1In #[vI n_2, vI 0, vI 8] fun (ρ8 : Bool) =>
  bif !ρ8 then (
  R (.returned (Sl.v out_7)) w)
  else (
  sem1 .sl PP (Instr.buildSlice T_Sint 1 #[(0, vI label_1)]) w fun (ρ9 : Sl) ω10 =>
  L11 std rule_0 n_2 out_7 ρ9 0 ω10 (q12 std R))) := A3_0_eq std rule_0 label_1 n_2 out_7 w R
theorem R3_eq (pr : Prims) (v6 : Value) (w : World) (R : Ending → World → Prop) : (q3 pr R) .ret [(6, v6)] w = (
  R (.returned (v6)) w) := by kernel_rfl
theorem R3_s (v6 : Value) (w : World) (R : Ending → World → Prop) : (q3 std R) .ret [(6, v6)] w = (
  R (.returned (v6)) w) := R3_eq std v6 w R
theorem E_eq (pr : Prims) (rule_0 : Sl) (label_1 : Int) (n_2 : Int) (w : World) (R : Ending → World → Prop) : E pr rule_0 label_1 n_2 w R = (
  pr.sem1 .sl PP (Instr.buildSlice T_Sint 0 #[]) w fun (ρ0 : Sl) ω1 =>
  L3 pr rule_0 label_1 n_2 ρ0 0 ω1 (q3 pr R)) := by kernel_rfl
theorem E_s (rule_0 : Sl) (label_1 : Int) (n_2 : Int) (w : World) (R : Ending → World → Prop) : E std rule_0 label_1 n_2 w R = (
  sem1 .sl PP (Instr.buildSlice T_Sint 0 #[]) w fun (ρ0 : Sl) ω1 =>
  L3 std rule_0 label_1 n_2 ρ0 0 ω1 (q3 std R)) := E_eq std rule_0 label_1 n_2 w R
theorem drawsOk : drawsOk PP cfg okD (codeOf Try.f20) = true := by kernel_rfl
theorem calls (rule_0 : Sl) (label_1 : Int) (n_2 : Int) {w : World} {R : Ending → World → Prop} (h : E std rule_0 label_1 n_2 w R) : Calls PP F.spec_RuleCounts #[Sl.v rule_0, vI label_1, vI n_2] w R :=
  calls_of noCount mixed drawOk Try.func20 rfl (c := cfg) (args := [Sl.v rule_0, vI label_1, vI n_2]) rfl (Nat.le_of_ble_eq_true (by kernel_rfl)) drawsOk h
end spec_RuleCounts

namespace impl_RuleCounts
@[reducible] def cfg : Cfg := ⟨65, [(9, [0, 8, 9, 31, 32, 35, 36, 37]), (6, [0, 7, 8, 31, 32])], [(3, [0, 8, 9, 31, 32, 35, 36, 37]), (2, [0, 8, 9, 31, 32]), (1, [0, 7, 8, 31, 32]), (0, [8])], [(14, [0, 8, 9, 31, 32, 35, 36, 37])], [6], [], [93, 51, 18, 26, 23, 44, 60, 19, 57, 123, 109, 126, 53, 100], [61, 85, 110, 74, 127, 120]⟩
def q6 (pr : Prims) (R : Ending → World → Prop) : Exit → Env → World → Prop := fun ex e w => normQ ex (fun e w => contE pr cfg (sub (codeOf Try.f22) [1, 1, 1, 1, 1]) (fun e w => wpC pr PP cfg (DD pr) (sub (codeOf Try.f22) [1, 1, 1, 1, 1]) (retQ Try.f22.results.toList R) e w) e w) (retQ Try.f22.results.toList R) e w
def q7 (pr : Prims) (R : Ending → World → Prop) : Exit → Env → World → Prop := fun ex e w => blockQ ex 0 (q6 pr R) e w
def q8 (pr : Prims) (k : Env → World → Prop) (Q : Exit → Env → World → Prop) : Exit → Env → World → Prop := fun ex e w => normQ ex (fun e w => contE pr cfg (sub (codeOf Try.f22) [1, 1, 1, 1, 0, 1, 0, 0, 1, 1, 1]) (fun e w => wpC pr PP cfg (DD pr) (sub (codeOf Try.f22) [1, 1, 1, 1, 0, 1, 0, 0, 1, 1, 1]) (fun ex e w => normQ ex (fun e' w' => k (Env.restr e' (lookN cfg.loops (keyOf (sub (codeOf Try.f22) [1, 1, 1, 1, 0, 1, 0, 0])))) w') Q e w) e w) e w) (fun ex e w => normQ ex (fun e' w' => k (Env.restr e' (lookN cfg.loops (keyOf (sub (codeOf Try.f22) [1, 1, 1, 1, 0, 1, 0, 0])))) w') Q e w) e w
def q9 (pr : Prims) (k : Env → World → Prop) (Q : Exit → Env → World → Prop) : Exit → Env → World → Prop := fun ex e w => blockQ ex 1 (q8 pr k Q) e w
def q12 (pr : Prims) (k : Env → World → Prop) (Q : Exit → Env → World → Prop) : Exit → Env → World → Prop := fun ex e w => normQ ex (fun e w => contE pr cfg (sub (codeOf Try.f22) [1, 1, 1, 1, 0, 1, 0, 0, 1, 1, 0, 0, 1, 1]) (fun e w => wpC pr PP cfg (DD pr) (sub (codeOf Try.f22) [1, 1, 1, 1, 0, 1, 0, 0, 1, 1, 0, 0, 1, 1]) (q9 pr k Q) e w) e w) (q9 pr k Q) e w
def q13 (pr : Prims) (k : Env → World → Prop) (Q : Exit → Env → World → Prop) : Exit → Env → World → Prop := fun ex e w => blockQ ex 2 (q12 pr k Q) e w
def q14 (pr : Prims) (k : Env → World → Prop) (Q : Exit → Env → World → Prop) : Exit → Env → World → Prop := fun ex e w => normQ ex (fun e w => contE pr cfg (sub (codeOf Try.f22) [1, 1, 1, 1, 0, 1, 0, 0, 1, 1, 0, 0, 1, 0, 1, 0, 0, 1, 1, 1]) (fun e w => wpC pr PP cfg (DD pr) (sub (codeOf Try.f22) [1, 1, 1, 1, 0, 1, 0, 0, 1, 1, 0, 0, 1, 0, 1, 0, 0, 1, 1, 1]) (fun ex e w => normQ ex (fun e' w' => k (Env.restr e' (lookN cfg.loops (keyOf (sub (codeOf Try.f22) [1, 1, 1, 1, 0, 1, 0, 0, 1, 1, 0, 0, 1, 0, 1, 0, 0])))) w') Q e w) e w) e w) (fun ex e w => normQ ex (fun e' w' => k (Env.restr e' (lookN cfg.loops (keyOf (sub (codeOf Try.f22) [1, 1, 1, 1, 0, 1, 0, 0, 1, 1, 0, 0, 1, 0, 1, 0, 0])))) w') Q e w) e w
def q15 (pr : Prims) (k : Env → World → Prop) (Q : Exit → Env → World → Prop) : Exit → Env → World → Prop := fun ex e w => blockQ ex 3 (q14 pr k Q) e w
def q23 (pr : Prims) (k : Env → World → Prop) (Q : Exit → Env → World → Prop) : Exit → Env → World → Prop := fun ex e w => normQ ex (fun e w => contE pr cfg (sub (codeOf Try.f22) [1, 1, 1, 1, 0, 1, 0, 0, 1, 1, 0, 0, 1, 0, 1, 0, 0, 1, 1, 0, 0, 1, 1, 1]) (fun e w => wpC pr PP cfg (DD pr) (sub (codeOf Try.f22) [1, 1, 1, 1, 0, 1, 0, 0, 1, 1, 0, 0, 1, 0, 1, 0, 0, 1, 1, 0, 0, 1, 1, 1]) (q15 pr k Q) e w) e w) (q15 pr k Q) e w
def emb6 (rule_0 : Sl) (list_7 : Sl) (out_8 : Sl) (t31 : Int) (t32 : Int) : Env := [(0, Sl.v rule_0), (7, Sl.v list_7), (8, Sl.v out_8), (31, vI t31), (32, vI t32)]
def emb9 (rule_0 : Sl) (out_8 : Sl) (next_9 : Sl) (t31 : Int) (t32 : Int) (t35 : Sl) (t36 : Int) (t37 : Int) : Env := [(0, Sl.v rule_0), (8, Sl.v out_8), (9, Sl.v next_9), (31, vI t31), (32, vI t32), (35, Sl.v t35), (36, vI t36), (37, vI t37)]
def j14 (rule_0 : Sl) (out_8 : Sl) (next_9 : Sl) (t31 : Int) (t32 : Int) (t35 : Sl) (t36 : Int) (t37 : Int) : Env := [(0, Sl.v rule_0), (8, Sl.v out_8), (9, Sl.v next_9), (31, vI t31), (32, vI t32), (35, Sl.v t35), (36, vI t36), (37, vI t37)]
def x2 (rule_0 : Sl) (out_8 : Sl) (next_9 : Sl) (t31 : Int) (t32 : Int) : Env := [(0, Sl.v rule_0), (8, Sl.v out_8), (9, Sl.v next_9), (31, vI t31), (32, vI t32)]
def x0 (out_8 : Sl) : Env := [(8, Sl.v out_8)]
def S9 (pr : Prims) (Q : Exit → Env → World → Prop) : (Env → World → Prop) → Env → World → Prop := fun k e w => wpC pr PP cfg (DD pr) (sub (codeOf Try.f22) [1, 1, 1, 1, 0, 1, 0, 0, 1, 1, 0, 0, 1, 0, 1, 0, 0]) (fun ex e w => normQ ex (fun e' w' => k (Env.restr e' (lookN cfg.loops (keyOf (sub (codeOf Try.f22) [1, 1, 1, 1, 0, 1, 0, 0, 1, 1, 0, 0, 1, 0, 1, 0, 0])))) w') Q e w) e w
def S6 (pr : Prims) (Q : Exit → Env → World → Prop) : (Env → World → Prop) → Env → World → Prop := fun k e w => wpC pr PP cfg (DD pr) (sub (codeOf Try.f22) [1, 1, 1, 1, 0, 1, 0, 0]) (fun ex e w => normQ ex (fun e' w' => k (Env.restr e' (lookN cfg.loops (keyOf (sub (codeOf Try.f22) [1, 1, 1, 1, 0, 1, 0, 0])))) w') Q e w) e w
def J14 (pr : Prims) (rule_0 : Sl) (out_8 : Sl) (next_9 : Sl) (t31 : Int) (t32 : Int) (t35 : Sl) (t36 : Int) (t37 : Int) (w : World) (k : Env → World → Prop) (Q : Exit → Env → World → Prop) : Prop :=
  pr.seg (fun e w => wpC pr PP cfg (DD pr) (sub (codeOf Try.f22) [1, 1, 1, 1, 0, 1, 0, 0, 1, 1, 0, 0, 1, 0, 1, 0, 0, 1, 1, 0, 0, 1, 1, 1]) (q15 pr k Q) e w) (j14 rule_0 out_8 next_9 t31 t32 t35 t36 t37) w
def B9 (pr : Prims) (rule_0 : Sl) (out_8 : Sl) (next_9 : Sl) (t31 : Int) (t32 : Int) (t35 : Sl) (t36 : Int) (t37 : Int) (w : World) (k : Env → World → Prop) (Q : Exit → Env → World → Prop) : Prop :=
  S9 pr Q k (emb9 rule_0 out_8 next_9 t31 t32 t35 t36 t37) w
def L9 (pr : Prims) (rule_0 : Sl) (out_8 : Sl) (next_9 : Sl) (t31 : Int) (t32 : Int) (t35 : Sl) (t36 : Int) (t37 : Int) (w : World) (Q : Exit → Env → World → Prop) : Prop :=
  pr.loop (S9 pr Q) (emb9 rule_0 out_8 next_9 t31 t32 t35 t36 t37) w
def B6 (pr : Prims) (rule_0 : Sl) (list_7 : Sl) (out_8 : Sl) (t31 : Int) (t32 : Int) (w : World) (k : Env → World → Prop) (Q : Exit → Env → World → Prop) : Prop :=
  S6 pr Q k (emb6 rule_0 list_7 out_8 t31 t32) w
def L6 (pr : Prims) (rule_0 : Sl) (list_7 : Sl) (out_8 : Sl) (t31 : Int) (t32 : Int) (w : World) (Q : Exit → Env → World → Prop) : Prop :=
  pr.loop (S6 pr Q) (emb6 rule_0 list_7 out_8 t31 t32) w
def E (pr : Prims) (rule_0 : Sl) (label_1 : Int) (n_2 : Int) (w : World) (R : Ending → World → Prop) : Prop :=
  wpC pr PP cfg (DD pr) (codeOf Try.f22) (retQ Try.f22.results.toList R) (argE 0 [Sl.v rule_0, vI label_1, vI n_2]) w
theorem J14_gen (pr : Prims) (rule_0 : Sl) (out_8 : Sl) (next_9 : Sl) (t31 : Int) (t32 : Int) (t35 : Sl) (t36 : Int) (t37 : Int) (w : World) (k : Env → World → Prop) (Q : Exit → Env → World → Prop) : wpC pr PP cfg (DD pr) (sub (codeOf Try.f22) [1, 1, 1, 1, 0, 1, 0, 0, 1, 1, 0, 0, 1, 0, 1, 0, 0, 1, 1, 0, 0, 1, 1, 1]) (q15 pr k Q) (j14 rule_0 out_8 next_9 t31 t32 t35 t36 t37) w = (
  bif decide ((next_9.n : Int) > 5000) then (
  Q .ret [(6, Sl.v Sl.nil)] w)
  else (
  k (emb9 rule_0 out_8 next_9 t31 t32 t35 t36 (w64 (t37 + 1))) w)) := by kernel_rfl
theorem J14_s (rule_0 : Sl) (out_8 : Sl) (next_9 : Sl) (t31 : Int) (t32 : Int) (t35 : Sl) (t36 : Int) (t37 : Int) (w : World) (k : Env → World → Prop) (Q : Exit → Env → World → Prop) : J14 std rule_0 out_8 next_9 t31 t32 t35 t36 t37 w k Q = (
  bif decide ((next_9.n : Int) > 5000) then (
  Q .ret [(6, Sl.v Sl.nil)] w)
  else (
  k (emb9 rule_0 out_8 next_9 t31 t32 t35 t36 (w64 (t37 + 1))) w)) := J14_gen std rule_0 out_8 next_9 t31 t32 t35 t36 t37 w k Q
theorem B9_eq (pr : Prims) (rule_0 : Sl) (out_8 : Sl) (next_9 : Sl) (t31 : Int) (t32 : Int) (t35 : Sl) (t36 : Int) (t37 : Int) (w : World) (k : Env → World → Prop) (Q : Exit → Env → World → Prop) : B9 pr rule_0 out_8 next_9 t31 t32 t35 t36 t37 w k Q = (
  bif decide (t37 < t36) then (
  pr.idxK 1 t35 t37 fun (a16 : Addr) =>
  pr.load1 (.int .i64) a16 w fun (ξ17 : Int) =>
  pr.newK T_int #[vI 0] w fun (a18 : Addr) ω19 =>
  pr.storeC a18 (vI ξ17) ω19 fun ω20 =>
  pr.call1 (.int .i64) PP F.slices_IndexFunc_____int___int_ #[Sl.v rule_0, (.func (.func F.impl_RuleCountsL2) #[] #[.pointer (some a18)])] ω20 fun (ρ21 : Int) ω22 =>
  bif decide (ρ21 ≥ 0) then (
  pr.idxK 1 rule_0 ρ21 fun (a24 : Addr) =>
  pr.load1 .sl a24 ω22 fun (ξ25 : Sl) =>
  pr.cutK 1 ξ25 (some 1) none fun (s26 : Sl) =>
  pr.sem1 .sl PP (Builtin.append_ #[T_Sint, T_Sint] T_Sint #[Sl.v next_9, Sl.v s26]) ω22 fun (ρ27 : Sl) ω28 =>
  J14 pr rule_0 out_8 ρ27 t31 t32 t35 t36 t37 ω28 k Q)
  else (
  J14 pr rule_0 out_8 next_9 t31 t32 t35 t36 t37 ω22 k Q))
  else (
  Q (.exit 2) (x2 rule_0 out_8 next_9 t31 t32) w)) := by kernel_rfl
theorem B9_s (rule_0 : Sl) (out_8 : Sl) (next_9 : Sl) (t31 : Int) (t32 : Int) (t35 : Sl) (t36 : Int) (t37 : Int) (w : World) (k : Env → World → Prop) (Q : Exit → Env → World → Prop) : B9 std rule_0 out_8 next_9 t31 t32 t35 t36 t37 w k Q = (
  bif decide (t37 < t36) then (
  idxK 1 t35 t37 fun (a16 : Addr) =>
  load1 (.int .i64) a16 w fun (ξ17 : Int) =>
  newK T_int #[vI 0] w fun (a18 : Addr) ω19 =>
  storeC a18 (vI ξ17) ω19 fun ω20 =>
  call1 (.int .i64) PP F.slices_IndexFunc_____int___int_ #[Sl.v rule_0, (.func (.func F.impl_RuleCountsL2) #[] #[.pointer (some a18)])] ω20 fun (ρ21 : Int) ω22 =>
  bif decide (ρ21 ≥ 0) then (
  idxK 1 rule_0 ρ21 fun (a24 : Addr) =>
  load1 .sl a24 ω22 fun (ξ25 : Sl) =>
  cutK 1 ξ25 (some 1) none fun (s26 : Sl) =>
  sem1 .sl PP (Builtin.append_ #[T_Sint, T_Sint] T_Sint #[Sl.v next_9, Sl.v s26]) ω22 fun (ρ27 : Sl) ω28 =>
  J14 std rule_0 out_8 ρ27 t31 t32 t35 t36 t37 ω28 k Q)
  else (
  J14 std rule_0 out_8 next_9 t31 t32 t35 t36 t37 ω22 k Q))
  else (
  Q (.exit 2) (x2 rule_0 out_8 next_9 t31 t32) w)) := B9_eq std rule_0 out_8 next_9 t31 t32 t35 t36 t37 w k Q
theorem L9_rule (rule_0 : Sl) (out_8 : Sl) (next_9 : Sl) (t31 : Int) (t32 : Int) (t35 : Sl) (t36 : Int) (t37 : Int) (w : World) (Q : Exit → Env → World → Prop) (I : Sl → Int → World → Prop) (μ : Sl → Int → World → Nat) (h0 : I next_9 t37 w)
    (h : ∀ (next_9 : Sl) (t37 : Int) (w' : World), I next_9 t37 w' → B9 std rule_0 out_8 next_9 t31 t32 t35 t36 t37 w' (fun e2 w2 => ∃ next_9_n t37_n, e2 = emb9 rule_0 out_8 next_9_n t31 t32 t35 t36 t37_n ∧ I next_9_n t37_n w2 ∧ μ next_9_n t37_n w2 < μ next_9 t37 w') Q) :
    L9 std rule_0 out_8 next_9 t31 t32 t35 t36 t37 w Q := by
  unfold L9
  refine LoopE.intro (σ := Sl × Int) (step := S9 std Q) (fun s => emb9 rule_0 out_8 s.1 t31 t32 t35 t36 s.2) (fun s w => I s.1 s.2 w) (fun s w => μ s.1 s.2 w) (next_9, t37) rfl h0 ?_
  intro s w' hI
  have h1 := h s.1 s.2 w' hI
  unfold B9 at h1
  simp only [Prod.exists]
  exact h1
theorem A9_2_eq (pr : Prims) (rule_0 : Sl) (out_8 : Sl) (next_9 : Sl) (t31 : Int) (t32 : Int) (w : World) (k : Env → World → Prop) (Q : Exit → Env → World → Prop) : (q13 pr k Q) (.exit 2) (x2 rule_0 out_8 next_9 t31 t32) w = (
  pr.sem1 .sl PP (Instr.buildSlice T_Sint 1 #[(0, vI (next_9.n : Int))]) w fun (ρ29 : Sl) ω30 =>
  pr.sem1 .sl PP (Builtin.append_ #[T_Sint, T_Sint] T_Sint #[Sl.v out_8, Sl.v ρ29]) ω30 fun (ρ31 : Sl) ω32 =>
  k (emb6 rule_0 next_9 ρ31 t31 (w64 (t32 + 1))) ω32) := by kernel_rfl
theorem A9_2_s (rule_0 : Sl) (out_8 : Sl) (next_9 : Sl) (t31 : Int) (t32 : Int) (w : World) (k : Env → World → Prop) (Q : Exit → Env → World → Prop) : (q13 std k Q) (.exit 2) (x2 rule_0 out_8 next_9 t31 t32) w = (
  sem1 .sl PP (Instr.buildSlice T_Sint 1 #[(0, vI (next_9.n : Int))]) w fun (ρ29 : Sl) ω30 =>
  sem1 .sl PP (Builtin.append_ #[T_Sint, T_Sint] T_Sint #[Sl.v out_8, Sl.v ρ29]) ω30 fun (ρ31 : Sl) ω32 =>
  k (emb6 rule_0 next_9 ρ31 t31 (w64 (t32 + 1))) ω32) := A9_2_eq std rule_0 out_8 next_9 t31 t32 w k Q
theorem R9_eq (pr : Prims) (v6 : Value) (w : World) (k : Env → World → Prop) (Q : Exit → Env → World → Prop) : (q13 pr k Q) .ret [(6, v6)] w = (
  Q .ret [(6, v6)] w) := by kernel_rfl
theorem R9_s (v6 : Value) (w : World) (k : Env → World → Prop) (Q : Exit → Env → World → Prop) : (q13 std k Q) .ret [(6, v6)] w = (
  Q .ret [(6, v6)] w) := R9_eq std v6 w k Q
theorem B6_eq (pr : Prims) (rule_0 : Sl) (list_7 : Sl) (out_8 : Sl) (t31 : Int) (t32 : Int) (w : World) (k : Env → World → Prop) (Q : Exit → Env → World → Prop) : B6 pr rule_0 list_7 out_8 t31 t32 w k Q = (
  bif decide (t32 < t31) then (
  pr.sem1 .sl PP (Instr.buildSlice T_Sint 0 #[]) w fun (ρ10 : Sl) ω11 =>
  L9 pr rule_0 out_8 ρ10 t31 t32 list_7 (list_7.n : Int) 0 ω11 (q13 pr k Q))
  else (
  Q (.exit 0) (x0 out_8) w)) := by kernel_rfl
theorem B6_s (rule_0 : Sl) (list_7 : Sl) (out_8 : Sl) (t31 : Int) (t32 : Int) (w : World) (k : Env → World → Prop) (Q : Exit → Env → World → Prop) : B6 std rule_0 list_7 out_8 t31 t32 w k Q = (
  bif decide (t32 < t31) then (
  sem1 .sl PP (Instr.buildSlice T_Sint 0 #[]) w fun (ρ10 : Sl) ω11 =>
  L9 std rule_0 out_8 ρ10 t31 t32 list_7 (list_7.n : Int) 0 ω11 (q13 std k Q))
  else (
  Q (.exit 0) (x0 out_8) w)) := B6_eq std rule_0 list_7 out_8 t31 t32 w k Q
theorem L6_rule (rule_0 : Sl) (list_7 : Sl) (out_8 : Sl) (t31 : Int) (t32 : Int) (w : World) (Q : Exit → Env → World → Prop) (I : Sl → Sl → Int → World → Prop) (μ : Sl → Sl → Int → World → Nat) (h0 : I list_7 out_8 t32 w)
    (h : ∀ (list_7 : Sl) (out_8 : Sl) (t32 : Int) (w' : World), I list_7 out_8 t32 w' → B6 std rule_0 list_7 out_8 t31 t32 w' (fun e2 w2 => ∃ list_7_n out_8_n t32_n, e2 = emb6 rule_0 list_7_n out_8_n t31 t32_n ∧ I list_7_n out_8_n t32_n w2 ∧ μ list_7_n out_8_n t32_n w2 < μ list_7 out_8 t32 w') Q) :
    L6 std rule_0 list_7 out_8 t31 t32 w Q := by
  unfold L6
  refine LoopE.intro (σ := Sl × Sl × Int) (step := S6 std Q) (fun s => emb6 rule_0 s.1 s.2.1 t31 s.2.2) (fun s w => I s.1 s.2.1 s.2.2 w) (fun s w => μ s.1 s.2.1 s.2.2 w) (list_7, out_8, t32) rfl h0 ?_
  intro s w' hI
  have h1 := h s.1 s.2.1 s.2.2 w' hI
  unfold B6 at h1
  simp only [Prod.exists]
  exact h1
theorem A6_0_eq (pr : Prims) (out_8 : Sl) (w : World) (R : Ending → World → Prop) : (q7 pr R) (.exit 0) (x0 out_8) w = (
  R (.returned (Sl.v out_8)) w) := by kernel_rfl
theorem A6_0_s (out_8 : Sl) (w : World) (R : Ending → World → Prop) : (q7 std R) (.exit 0) (x0 out_8) w = (
  R (.returned (Sl.v out_8)) w) := A6_0_eq std out_8 w R
theorem R6_eq (pr : Prims) (v6 : Value) (w : World) (R : Ending → World → Prop) : (q7 pr R) .ret [(6, v6)] w = (
  R (.returned (v6)) w) := by kernel_rfl
theorem R6_s (v6 : Value) (w : World) (R : Ending → World → Prop) : (q7 std R) .ret [(6, v6)] w = (
  R (.returned (v6)) w) := R6_eq std v6 w R
theorem E_eq (pr : Prims) (rule_0 : Sl) (label_1 : Int) (n_2 : Int) (w : World) (R : Ending → World → Prop) : E pr rule_0 label_1 n_2 w R = (
  bif decide (n_2 < 0) then (
  R (.returned (Sl.v Sl.nil)) w)
  else (
  bif decide (n_2 > 8) then (
  R (.returned (Sl.v Sl.nil)) w)
  else (
  bif decide ((rule_0.n : Int) > 20) then (
  R (.returned (Sl.v Sl.nil)) w)
  else (
  pr.call1 .bool PP F.slices_ContainsFunc_____int___int_ #[Sl.v rule_0, .func (.func F.impl_RuleCountsL1) #[] #[]] w fun (ρ0 : Bool) ω1 =>
  bif ρ0 then (
  R (.returned (Sl.v Sl.nil)) ω1)
  else (
  pr.sem1 .sl PP (Instr.buildSlice T_Sint 1 #[(0, vI label_1)]) ω1 fun (ρ2 : Sl) ω3 =>
  pr.sem1 .sl PP (Instr.buildSlice T_Sint 1 #[(0, vI 1)]) ω3 fun (ρ4 : Sl) ω5 =>
  L6 pr rule_0 ρ2 ρ4 n_2 0 ω5 (q7 pr R)))))) := by kernel_rfl
theorem E_s (rule_0 : Sl) (label_1 : Int) (n_2 : Int) (w : World) (R : Ending → World → Prop) : E std rule_0 label_1 n_2 w R = (
  bif decide (n_2 < 0) then (
  R (.returned (Sl.v Sl.nil)) w)
  else (
  bif decide (n_2 > 8) then (
  R (.returned (Sl.v Sl.nil)) w)
  else (
  bif decide ((rule_0.n : Int) > 20) then (
  R (.returned (Sl.v Sl.nil)) w)
  else (
  call1 .bool PP F.slices_ContainsFunc_____int___int_ #[Sl.v rule_0, .func (.func F.impl_RuleCountsL1) #[] #[]] w fun (ρ0 : Bool) ω1 =>
  bif ρ0 then (
  R (.returned (Sl.v Sl.nil)) ω1)
  else (
  sem1 .sl PP (Instr.buildSlice T_Sint 1 #[(0, vI label_1)]) ω1 fun (ρ2 : Sl) ω3 =>
  sem1 .sl PP (Instr.buildSlice T_Sint 1 #[(0, vI 1)]) ω3 fun (ρ4 : Sl) ω5 =>
  L6 std rule_0 ρ2 ρ4 n_2 0 ω5 (q7 std R)))))) := E_eq std rule_0 label_1 n_2 w R
theorem drawsOk : drawsOk PP cfg okD (codeOf Try.f22) = true := by kernel_rfl
theorem calls (rule_0 : Sl) (label_1 : Int) (n_2 : Int) {w : World} {R : Ending → World → Prop} (h : E std rule_0 label_1 n_2 w R) : Calls PP F.impl_RuleCounts #[Sl.v rule_0, vI label_1, vI n_2] w R :=
  calls_of noCount mixed drawOk Try.func22 rfl (c := cfg) (args := [Sl.v rule_0, vI label_1, vI n_2]) rfl (Nat.le_of_ble_eq_true (by kernel_rfl)) drawsOk h
end impl_RuleCounts

namespace impl_RuleCountsL1
@[reducible] def cfg : Cfg := ⟨11, [], [], [], [2], [], [93, 51, 18, 26, 23, 44, 60, 19, 57, 123, 109, 126, 53, 100], [61, 85, 110, 74, 127, 120]⟩
def E (pr : Prims) (r_0 : Sl) (w : World) (R : Ending → World → Prop) : Prop :=
  wpC pr PP cfg (DD pr) (codeOf Try.f64) (retQ Try.f64.results.toList R) (argE 0 [Sl.v r_0]) w
theorem E_eq (pr : Prims) (r_0 : Sl) (w : World) (R : Ending → World → Prop) : E pr r_0 w R = (
  bif (r_0.n : Int) == 0 then (
  R (.returned (.bool true)) w)
  else (
  R (.returned (.bool (decide ((r_0.n : Int) > 20)))) w)) := by kernel_rfl
theorem E_s (r_0 : Sl) (w : World) (R : Ending → World → Prop) : E std r_0 w R = (
  bif (r_0.n : Int) == 0 then (
  R (.returned (.bool true)) w)
  else (
  R (.returned (.bool (decide ((r_0.n : Int) > 20)))) w)) := E_eq std r_0 w R
theorem drawsOk : drawsOk PP cfg okD (codeOf Try.f64) = true := by kernel_rfl
theorem calls (r_0 : Sl) {w : World} {R : Ending → World → Prop} (h : E std r_0 w R) : Calls PP F.impl_RuleCountsL1 #[Sl.v r_0] w R :=
  calls_of noCount mixed drawOk Try.func64 rfl (c := cfg) (args := [Sl.v r_0]) rfl (Nat.le_of_ble_eq_true (by kernel_rfl)) drawsOk h
end impl_RuleCountsL1

namespace impl_RuleCountsL2
@[reducible] def cfg : Cfg := ⟨9, [], [], [], [3], [1], [93, 51, 18, 26, 23, 44, 60, 19, 57, 123, 109, 126, 53, 100], [61, 85, 110, 74, 127, 120]⟩
def E (pr : Prims) (r_0 : Sl) (t1 : Addr) (w : World) (R : Ending → World → Prop) : Prop :=
  wpC pr PP cfg (DD pr) (codeOf Try.f66) (retQ Try.f66.results.toList R) (argE 0 [Sl.v r_0, .pointer (some t1)]) w
theorem E_eq (pr : Prims) (r_0 : Sl) (t1 : Addr) (w : World) (R : Ending → World → Prop) : E pr r_0 t1 w R = (
  pr.idxK 1 r_0 0 fun (a0 : Addr) =>
  pr.load1 (.int .i64) a0 w fun (ξ1 : Int) =>
  pr.load1 (.int .i64) t1 w fun (ξ2 : Int) =>
  pr.drewAll w fun ω3 =>
  R (.returned (.bool (ξ1 == ξ2))) ω3) := by kernel_rfl
theorem E_s (r_0 : Sl) (t1 : Addr) (w : World) (R : Ending → World → Prop) : E std r_0 t1 w R = (
  idxK 1 r_0 0 fun (a0 : Addr) =>
  load1 (.int .i64) a0 w fun (ξ1 : Int) =>
  load1 (.int .i64) t1 w fun (ξ2 : Int) =>
  drewAll w fun ω3 =>
  R (.returned (.bool (ξ1 == ξ2))) ω3) := E_eq std r_0 t1 w R
theorem drawsOk : drawsOk PP cfg okD (codeOf Try.f66) = true := by kernel_rfl
theorem calls (r_0 : Sl) (t1 : Addr) {w : World} {R : Ending → World → Prop} (h : E std r_0 t1 w R) : Calls PP F.impl_RuleCountsL2 #[Sl.v r_0, .pointer (some t1)] w R :=
  calls_of noCount mixed drawOk Try.func66 rfl (c := cfg) (args := [Sl.v r_0, .pointer (some t1)]) rfl (Nat.le_of_ble_eq_true (by kernel_rfl)) drawsOk h
end impl_RuleCountsL2

namespace spec_l15Step
@[reducible] def cfg : Cfg := ⟨40, [(6, [0, 1, 5, 6, 7]), (3, [0, 1, 5, 6])], [(3, [0, 1, 5, 6, 7]), (2, [0, 1, 5, 6]), (1, [0, 1, 5, 6]), (0, [5])], [], [4], [8], [93, 51, 18, 26, 23, 44, 60, 19, 57, 123, 109, 126, 53, 100], [61, 85, 110, 74, 127, 120]⟩
def q2 (pr : Prims) (R : Ending → World → Prop) : Exit → Env → World → Prop := fun ex e w => normQ ex (fun e w => contE pr cfg (sub (codeOf Try.f62) [1, 1, 1]) (fun e w => wpC pr PP cfg (DD pr) (sub (codeOf Try.f62) [1, 1, 1]) (retQ Try.f62.results.toList R) e w) e w) (retQ Try.f62.results.toList R) e w
def q3 (pr : Prims) (R : Ending → World → Prop) : Exit → Env → World → Prop := fun ex e w => blockQ ex 0 (q2 pr R) e w
def q4 (pr : Prims) (k : Env → World → Prop) (Q : Exit → Env → World → Prop) : Exit → Env → World → Prop := fun ex e w => normQ ex (fun e w => contE pr cfg (sub (codeOf Try.f62) [1, 1, 0, 1, 0, 0, 1, 1]) (fun e w => wpC pr PP cfg (DD pr) (sub (codeOf Try.f62) [1, 1, 0, 1, 0, 0, 1, 1]) (fun ex e w => normQ ex (fun e' w' => k (Env.restr e' (lookN cfg.loops (keyOf (sub (codeOf Try.f62) [1, 1, 0, 1, 0, 0])))) w') Q e w) e w) e w) (fun ex e w => normQ ex (fun e' w' => k (Env.restr e' (lookN cfg.loops (keyOf (sub (codeOf Try.f62) [1, 1, 0, 1, 0, 0])))) w') Q e w) e w
def q5 (pr : Prims) (k : Env → World → Prop) (Q : Exit → Env → World → Prop) : Exit → Env → World → Prop := fun ex e w => blockQ ex 1 (q4 pr k Q) e w
def q6 (pr : Prims) (k : Env → World → Prop) (Q : Exit → Env → World → Prop) : Exit → Env → World → Prop := fun ex e w => blockQ ex 2 (q5 pr k Q) e w
def emb3 (rule_0 : Sl) (labels_1 : Sl) (out_5 : Sl) (k_6 : Int) : Env := [(0, Sl.v rule_0), (1, Sl.v labels_1), (5, Sl.v out_5), (6, vI k_6)]
def emb6 (rule_0 : Sl) (labels_1 : Sl) (out_5 : Sl) (k_6 : Int) (i_7 : Int) : Env := [(0, Sl.v rule_0), (1, Sl.v labels_1), (5, Sl.v out_5), (6, vI k_6), (7, vI i_7)]
def x2 (rule_0 : Sl) (labels_1 : Sl) (out_5 : Sl) (k_6 : Int) : Env := [(0, Sl.v rule_0), (1, Sl.v labels_1), (5, Sl.v out_5), (6, vI k_6)]
def x0 (out_5 : Sl) : Env := [(5, Sl.v out_5)]
def S6 (pr : Prims) (Q : Exit → Env → World → Prop) : (Env → World → Prop) → Env → World → Prop := fun k e w => wpC pr PP cfg (DD pr) (sub (codeOf Try.f62) [1, 1, 0, 1, 0, 0, 1, 0, 0, 1, 0, 0]) (fun ex e w => normQ ex (fun e' w' => k (Env.restr e' (lookN cfg.loops (keyOf (sub (codeOf Try.f62) [1, 1, 0, 1, 0, 0, 1, 0, 0, 1, 0, 0])))) w') Q e w) e w
def S3 (pr : Prims) (Q : Exit → Env → World → Prop) : (Env → World → Prop) → Env → World → Prop := fun k e w => wpC pr PP cfg (DD pr) (sub (codeOf Try.f62) [1, 1, 0, 1, 0, 0]) (fun ex e w => normQ ex (fun e' w' => k (Env.restr e' (lookN cfg.loops (keyOf (sub (codeOf Try.f62) [1, 1, 0, 1, 0, 0])))) w') Q e w) e w
def B6 (pr : Prims) (rule_0 : Sl) (labels_1 : Sl) (out_5 : Sl) (k_6 : Int) (i_7 : Int) (w : World) (k : Env → World → Prop) (Q : Exit → Env → World → Prop) : Prop :=
  S6 pr Q k (emb6 rule_0 labels_1 out_5 k_6 i_7) w
def L6 (pr : Prims) (rule_0 : Sl) (labels_1 : Sl) (out_5 : Sl) (k_6 : Int) (i_7 : Int) (w : World) (Q : Exit → Env → World → Prop) : Prop :=
  pr.loop (S6 pr Q) (emb6 rule_0 labels_1 out_5 k_6 i_7) w
def B3 (pr : Prims) (rule_0 : Sl) (labels_1 : Sl) (out_5 : Sl) (k_6 : Int) (w : World) (k : Env → World → Prop) (Q : Exit → Env → World → Prop) : Prop :=
  S3 pr Q k (emb3 rule_0 labels_1 out_5 k_6) w
def L3 (pr : Prims) (rule_0 : Sl) (labels_1 : Sl) (out_5 : Sl) (k_6 : Int) (w : World) (Q : Exit → Env → World → Prop) : Prop :=
  pr.loop (S3 pr Q) (emb3 rule_0 labels_1 out_5 k_6) w
def E (pr : Prims) (rule_0 : Sl) (labels_1 : Sl) (w : World) (R : Ending → World → Prop) : Prop :=
  wpC pr PP cfg (DD pr) (codeOf Try.f62) (retQ Try.f62.results.toList R) (argE 0 [Sl.v rule_0, Sl.v labels_1]) w
theorem B6_eq (pr : Prims) (rule_0 : Sl) (labels_1 : Sl) (out_5 : Sl) (k_6 : Int) (i_7 : Int) (w : World) (k : Env → World → Prop) (Q : Exit → Env → World → Prop) : B6 pr rule_0 labels_1 out_5 k_6 i_7 w k Q = (
  bif decide (i_7 < (rule_0.n : Int)) then (
  pr.idxK 1 rule_0 i_7 fun (a7 : Addr) =>
  pr.load1 .sl a7 w fun (ξ8 : Sl) =>
  pr.idxK 1 ξ8 0 fun (a9 : Addr) =>
  pr.load1 (.int .i64) a9 w fun (ξ10 : Int) =>
  pr.idxK 1 labels_1 k_6 fun (a11 : Addr) =>
  pr.load1 (.int .i64) a11 w fun (ξ12 : Int) =>
  pr.drewAll w fun ω13 =>
  bif ξ10 == ξ12 then (
  pr.idxK 1 rule_0 i_7 fun (a14 : Addr) =>
  pr.load1 .sl a14 ω13 fun (ξ15 : Sl) =>
  pr.cutK 1 ξ15 (some 1) none fun (s16 : Sl) =>
  pr.sem1 .sl PP (Builtin.append_ #[T_Sint, T_Sint] T_Sint #[Sl.v out_5, Sl.v s16]) ω13 fun (ρ17 : Sl) ω18 =>
  Q (.exit 2) (x2 rule_0 labels_1 ρ17 k_6) ω18)
  else (
  k (emb6 rule_0 labels_1 out_5 k_6 (w64 (i_7 + 1))) ω13))
  else (
  Q (.exit 2) (x2 rule_0 labels_1 out_5 k_6) w)) := by kernel_rfl
theorem B6_s (rule_0 : Sl) (labels_1 : Sl) (out_5 : Sl) (k_6 : Int) (i_7 : Int) (w : World) (k : Env → World → Prop) (Q : Exit → Env → World → Prop) : B6 std rule_0 labels_1 out_5 k_6 i_7 w k Q = (
  bif decide (i_7 < (rule_0.n : Int)) then (
  idxK 1 rule_0 i_7 fun (a7 : Addr) =>
  load1 .sl a7 w fun (ξ8 : Sl) =>
  idxK 1 ξ8 0 fun (a9 : Addr) =>
  load1 (.int .i64) a9 w fun (ξ10 : Int) =>
  idxK 1 labels_1 k_6 fun (a11 : Addr) =>
  load1 (.int .i64) a11 w fun (ξ12 : Int) =>
  drewAll w fun ω13 =>
  bif ξ10 == ξ12 then (
  idxK 1 rule_0 i_7 fun (a14 : Addr) =>
  load1 .sl a14 ω13 fun (ξ15 : Sl) =>
  cutK 1 ξ15 (some 1) none fun (s16 : Sl) =>
  sem1 .sl PP (Builtin.append_ #[T_Sint, T_Sint] T_Sint #[Sl.v out_5, Sl.v s16]) ω13 fun (ρ17 : Sl) ω18 =>
  Q (.exit 2) (x2 rule_0 labels_1 ρ17 k_6) ω18)
  else (
  k (emb6 rule_0 labels_1 out_5 k_6 (w64 (i_7 + 1))) ω13))
  else (
  Q (.exit 2) (x2 rule_0 labels_1 out_5 k_6) w)) := B6_eq std rule_0 labels_1 out_5 k_6 i_7 w k Q
theorem L6_rule (rule_0 : Sl) (labels_1 : Sl) (out_5 : Sl) (k_6 : Int) (i_7 : Int) (w : World) (Q : Exit → Env → World → Prop) (I : Sl → Int → World → Prop) (μ : Sl → Int → World → Nat) (h0 : I out_5 i_7 w)
    (h : ∀ (out_5 : Sl) (i_7 : Int) (w' : World), I out_5 i_7 w' → B6 std rule_0 labels_1 out_5 k_6 i_7 w' (fun e2 w2 => ∃ out_5_n i_7_n, e2 = emb6 rule_0 labels_1 out_5_n k_6 i_7_n ∧ I out_5_n i_7_n w2 ∧ μ out_5_n i_7_n w2 < μ out_5 i_7 w') Q) :
    L6 std rule_0 labels_1 out_5 k_6 i_7 w Q := by
  unfold L6
  refine LoopE.intro (σ := Sl × Int) (step := S6 std Q) (fun s => emb6 rule_0 labels_1 s.1 k_6 s.2) (fun s w => I s.1 s.2 w) (fun s w => μ s.1 s.2 w) (out_5, i_7) rfl h0 ?_
  intro s w' hI
  have h1 := h s.1 s.2 w' hI
  unfold B6 at h1
  simp only [Prod.exists]
  exact h1
theorem A6_2_eq (pr : Prims) (rule_0 : Sl) (labels_1 : Sl) (out_5 : Sl) (k_6 : Int) (w : World) (k : Env → World → Prop) (Q : Exit → Env → World → Prop) : (q6 pr k Q) (.exit 2) (x2 rule_0 labels_1 out_5 k_6) w = (
  k (emb3 rule_0 labels_1 out_5 (w64 (k_6 + 1))) w) := by kernel_rfl
theorem A6_2_s (rule_0 : Sl) (labels_1 : Sl) (out_5 : Sl) (k_6 : Int) (w : World) (k : Env → World → Prop) (Q : Exit → Env → World → Prop) : (q6 std k Q) (.exit 2) (x2 rule_0 labels_1 out_5 k_6) w = (
  k (emb3 rule_0 labels_1 out_5 (w64 (k_6 + 1))) w) := A6_2_eq std rule_0 labels_1 out_5 k_6 w k Q
theorem B3_eq (pr : Prims) (rule_0 : Sl) (labels_1 : Sl) (out_5 : Sl) (k_6 : Int) (w : World) (k : Env → World → Prop) (Q : Exit → Env → World → Prop) : B3 pr rule_0 labels_1 out_5 k_6 w k Q = (
  bif decide (k_6 < (labels_1.n : Int)) then (
  L6 pr rule_0 labels_1 out_5 k_6 0 w (q6 pr k Q))
  else (
  Q (.exit 0) (x0 out_5) w)) := by kernel_rfl
theorem B3_s (rule_0 : Sl) (labels_1 : Sl) (out_5 : Sl) (k_6 : Int) (w : World) (k : Env → World → Prop) (Q : Exit → Env → World → Prop) : B3 std rule_0 labels_1 out_5 k_6 w k Q = (
  bif decide (k_6 < (labels_1.n : Int)) then (
  L6 std rule_0 labels_1 out_5 k_6 0 w (q6 std k Q))
  else (
  Q (.exit 0) (x0 out_5) w)) := B3_eq std rule_0 labels_1 out_5 k_6 w k Q
theorem L3_rule (rule_0 : Sl) (labels_1 : Sl) (out_5 : Sl) (k_6 : Int) (w : World) (Q : Exit → Env → World → Prop) (I : Sl → Int → World → Prop) (μ : Sl → Int → World → Nat) (h0 : I out_5 k_6 w)
    (h : ∀ (out_5 : Sl) (k_6 : Int) (w' : World), I out_5 k_6 w' → B3 std rule_0 labels_1 out_5 k_6 w' (fun e2 w2 => ∃ out_5_n k_6_n, e2 = emb3 rule_0 labels_1 out_5_n k_6_n ∧ I out_5_n k_6_n w2 ∧ μ out_5_n k_6_n w2 < μ out_5 k_6 w') Q) :
    L3 std rule_0 labels_1 out_5 k_6 w Q := by
  unfold L3
  refine LoopE.intro (σ := Sl × Int) (step := S3 std Q) (fun s => emb3 rule_0 labels_1 s.1 s.2) (fun s w => I s.1 s.2 w) (fun s w => μ s.1 s.2 w) (out_5, k_6) rfl h0 ?_
  intro s w' hI
  have h1 := h s.1 s.2 w' hI
  unfold B3 at h1
  simp only [Prod.exists]
  exact h1
theorem A3_0_eq (pr : Prims) (out_5 : Sl) (w : World) (R : Ending → World → Prop) : (q3 pr R) (.exit 0) (x0 out_5) w = (
  R (.returned (Sl.v out_5)) w) := by kernel_rfl
theorem A3_0_s (out_5 : Sl) (w : World) (R : Ending → World → Prop) : (q3 std R) (.exit 0) (x0 out_5) w = (
  R (.returned (Sl.v out_5)) w) := A3_0_eq std out_5 w R
theorem E_eq (pr : Prims) (rule_0 : Sl) (labels_1 : Sl) (w : World) (R : Ending → World → Prop) : E pr rule_0 labels_1 w R = (
  pr.sem1 .sl PP (Instr.buildSlice T_Sint 0 #[]) w fun (ρ0 : Sl) ω1 =>
  L3 pr rule_0 labels_1 ρ0 0 ω1 (q3 pr R)) := by kernel_rfl
theorem E_s (rule_0 : Sl) (labels_1 : Sl) (w : World) (R : Ending → World → Prop) : E std rule_0 labels_1 w R = (
  sem1 .sl PP (Instr.buildSlice T_Sint 0 #[]) w fun (ρ0 : Sl) ω1 =>
  L3 std rule_0 labels_1 ρ0 0 ω1 (q3 std R)) := E_eq std rule_0 labels_1 w R
theorem drawsOk : drawsOk PP cfg okD (codeOf Try.f62) = true := by kernel_rfl
theorem calls (rule_0 : Sl) (labels_1 : Sl) {w : World} {R : Ending → World → Prop} (h : E std rule_0 labels_1 w R) : Calls PP F.spec_l15Step #[Sl.v rule_0, Sl.v labels_1] w R :=
  calls_of noCount mixed drawOk Try.func62 rfl (c := cfg) (args := [Sl.v rule_0, Sl.v labels_1]) rfl (Nat.le_of_ble_eq_true (by kernel_rfl)) drawsOk h
end spec_l15Step

namespace laws_FnExactRuleCounts
@[reducible] def cfg : Cfg := ⟨79, [], [], [], [6], [], [93, 51, 18, 26, 23, 44, 60, 19, 57, 123, 109, 126, 53, 100], [61, 85, 110, 74, 127, 120]⟩
def E (pr : Prims) (aRule_0 : Sl) (aLabel_1 : Int) (aN_2 : Int) (w : World) (R : Ending → World → Prop) : Prop :=
  wpC pr PP cfg (DD pr) (codeOf Try.f4) (retQ Try.f4.results.toList R) (argE 0 [Sl.v aRule_0, vI aLabel_1, vI aN_2]) w
theorem E_eq (pr : Prims) (aRule_0 : Sl) (aLabel_1 : Int) (aN_2 : Int) (w : World) (R : Ending → World → Prop) : E pr aRule_0 aLabel_1 aN_2 w R = (
  pr.call1 (.int .i64) PP F.laws_szIntSS #[Sl.v aRule_0, vI 1048576] w fun (ρ0 : Int) ω1 =>
  bif decide (ρ0 < 0) then (
  R (.returned (.bool true)) ω1)
  else (
  pr.call1 .sl PP F.laws_toIntSS #[Sl.v aRule_0] ω1 fun (ρ2 : Sl) ω3 =>
  pr.call1 .sl PP F.spec_RuleCounts #[Sl.v ρ2, vI aLabel_1, vI aN_2] ω3 fun (ρ4 : Sl) ω5 =>
  pr.call1 .sl PP F.laws_toIntSS #[Sl.v aRule_0] ω5 fun (ρ6 : Sl) ω7 =>
  pr.call1 .sl PP F.impl_RuleCounts #[Sl.v ρ6, vI aLabel_1, vI aN_2] ω7 fun (ρ8 : Sl) ω9 =>
  pr.call1 .bool PP F.laws_eqIntS #[Sl.v ρ8, Sl.v ρ4] ω9 fun (ρ10 : Bool) ω11 =>
  bif !ρ10 then (
  R (.returned (.bool false)) ω11)
  else (
  pr.call1 .sl PP F.laws_toIntSS #[Sl.v aRule_0] ω11 fun (ρ12 : Sl) ω13 =>
  pr.call1 .bool PP F.laws_eqIntSS #[Sl.v ρ6, Sl.v ρ12] ω13 fun (ρ14 : Bool) ω15 =>
  bif !ρ14 then (
  R (.returned (.bool false)) ω15)
  else (
  pr.call1 (.int .i64) PP F.laws_markIntSS #[Sl.v ρ6, vI 1] ω15 fun (ρ16 : Int) ω17 =>
  bif decide (ρ16 < 0) then (
  R (.returned (.bool false)) ω17)
  else (
  pr.call1 .bool PP F.laws_eqIntS #[Sl.v ρ8, Sl.v ρ4] ω17 fun (ρ18 : Bool) ω19 =>
  bif !ρ18 then (
  R (.returned (.bool false)) ω19)
  else (
  pr.call1 (.int .i64) PP F.laws_markIntS #[Sl.v ρ8, vI 1] ω19 fun (ρ20 : Int) ω21 =>
  pr.call1 (.int .i64) PP F.laws_heldIntS #[Sl.v ρ8, vI 1] ω21 fun (ρ22 : Int) ω23 =>
  bif decide (ρ22 < 0) then (
  R (.returned (.bool false)) ω23)
  else (
  bif ρ22 != ρ20 then (
  R (.returned (.bool false)) ω23)
  else (
  pr.call1 .sl PP F.laws_toIntSS #[Sl.v aRule_0] ω23 fun (ρ24 : Sl) ω25 =>
  pr.call1 .sl PP F.impl_RuleCounts #[Sl.v ρ24, vI aLabel_1, vI aN_2] ω25 fun (ρ26 : Sl) ω27 =>
  pr.call1 .bool PP F.laws_eqIntS #[Sl.v ρ26, Sl.v ρ4] ω27 fun (ρ28 : Bool) ω29 =>
  bif !ρ28 then (
  R (.returned (.bool false)) ω29)
  else (
  pr.call1 (.int .i64) PP F.laws_heldIntS #[Sl.v ρ8, vI 1] ω29 fun (ρ30 : Int) ω31 =>
  bif decide (ρ30 < 0) then (
  R (.returned (.bool false)) ω31)
  else (
  bif ρ30 != ρ20 then (
  R (.returned (.bool false)) ω31)
  else (
  R (.returned (.bool true)) ω31))))))))))) := by kernel_rfl
theorem E_s (aRule_0 : Sl) (aLabel_1 : Int) (aN_2 : Int) (w : World) (R : Ending → World → Prop) : E std aRule_0 aLabel_1 aN_2 w R = (
  call1 (.int .i64) PP F.laws_szIntSS #[Sl.v aRule_0, vI 1048576] w fun (ρ0 : Int) ω1 =>
  bif decide (ρ0 < 0) then (
  R (.returned (.bool true)) ω1)
  else (
  call1 .sl PP F.laws_toIntSS #[Sl.v aRule_0] ω1 fun (ρ2 : Sl) ω3 =>
  call1 .sl PP F.spec_RuleCounts #[Sl.v ρ2, vI aLabel_1, vI aN_2] ω3 fun (ρ4 : Sl) ω5 =>
  call1 .sl PP F.laws_toIntSS #[Sl.v aRule_0] ω5 fun (ρ6 : Sl) ω7 =>
  call1 .sl PP F.impl_RuleCounts #[Sl.v ρ6, vI aLabel_1, vI aN_2] ω7 fun (ρ8 : Sl) ω9 =>
  call1 .bool PP F.laws_eqIntS #[Sl.v ρ8, Sl.v ρ4] ω9 fun (ρ10 : Bool) ω11 =>
  bif !ρ10 then (
  R (.returned (.bool false)) ω11)
  else (
  call1 .sl PP F.laws_toIntSS #[Sl.v aRule_0] ω11 fun (ρ12 : Sl) ω13 =>
  call1 .bool PP F.laws_eqIntSS #[Sl.v ρ6, Sl.v ρ12] ω13 fun (ρ14 : Bool) ω15 =>
  bif !ρ14 then (
  R (.returned (.bool false)) ω15)
  else (
  call1 (.int .i64) PP F.laws_markIntSS #[Sl.v ρ6, vI 1] ω15 fun (ρ16 : Int) ω17 =>
  bif decide (ρ16 < 0) then (
  R (.returned (.bool false)) ω17)
  else (
  call1 .bool PP F.laws_eqIntS #[Sl.v ρ8, Sl.v ρ4] ω17 fun (ρ18 : Bool) ω19 =>
  bif !ρ18 then (
  R (.returned (.bool false)) ω19)
  else (
  call1 (.int .i64) PP F.laws_markIntS #[Sl.v ρ8, vI 1] ω19 fun (ρ20 : Int) ω21 =>
  call1 (.int .i64) PP F.laws_heldIntS #[Sl.v ρ8, vI 1] ω21 fun (ρ22 : Int) ω23 =>
  bif decide (ρ22 < 0) then (
  R (.returned (.bool false)) ω23)
  else (
  bif ρ22 != ρ20 then (
  R (.returned (.bool false)) ω23)
  else (
  call1 .sl PP F.laws_toIntSS #[Sl.v aRule_0] ω23 fun (ρ24 : Sl) ω25 =>
  call1 .sl PP F.impl_RuleCounts #[Sl.v ρ24, vI aLabel_1, vI aN_2] ω25 fun (ρ26 : Sl) ω27 =>
  call1 .bool PP F.laws_eqIntS #[Sl.v ρ26, Sl.v ρ4] ω27 fun (ρ28 : Bool) ω29 =>
  bif !ρ28 then (
  R (.returned (.bool false)) ω29)
  else (
  call1 (.int .i64) PP F.laws_heldIntS #[Sl.v ρ8, vI 1] ω29 fun (ρ30 : Int) ω31 =>
  bif decide (ρ30 < 0) then (
  R (.returned (.bool false)) ω31)
  else (
  bif ρ30 != ρ20 then (
  R (.returned (.bool false)) ω31)
  else (
  R (.returned (.bool true)) ω31))))))))))) := E_eq std aRule_0 aLabel_1 aN_2 w R
theorem drawsOk : drawsOk PP cfg okD (codeOf Try.f4) = true := by kernel_rfl
theorem calls (aRule_0 : Sl) (aLabel_1 : Int) (aN_2 : Int) {w : World} {R : Ending → World → Prop} (h : E std aRule_0 aLabel_1 aN_2 w R) : Calls PP F.laws_FnExactRuleCounts #[Sl.v aRule_0, vI aLabel_1, vI aN_2] w R :=
  calls_of noCount mixed drawOk Try.func4 rfl (c := cfg) (args := [Sl.v aRule_0, vI aLabel_1, vI aN_2]) rfl (Nat.le_of_ble_eq_true (by kernel_rfl)) drawsOk h
end laws_FnExactRuleCounts

end Go.Proofs.Ythbjkgpbnfibkaa
