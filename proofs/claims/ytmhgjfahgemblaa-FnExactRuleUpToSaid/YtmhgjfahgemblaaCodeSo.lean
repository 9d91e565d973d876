/- What each function does, step by step, written by a program (Gen.lean); each equation is checked by the kernel. -/
import Derived.Test.YtmhgjfahgemblaaHead
namespace Go.Proofs.Ytmhgjfahgemblaa
open Go
set_option linter.unusedVariables false
set_option maxRecDepth 100000
namespace spec_l15Sort
@[reducible] def cfg : Cfg := ⟨49, [(6, [0, 3, 4, 5]), (3, [0, 3, 4])], [(3, [0, 3, 4, 5]), (2, [0, 3, 4, 5]), (1, [0, 3, 4]), (0, [3])], [], [2], [6], [62, 10, 22, 58, 24, 44, 18, 70, 43, 85, 25, 71, 59, 37, 63], [82, 113, 102, 38, 103, 26, 60]⟩
def q2 (pr : Prims) (R : Ending → World → Prop) : Exit → Env → World → Prop := fun ex e w => normQ ex (fun e w => contE pr cfg (sub (codeOf Try.f75) [1, 1, 1]) (fun e w => wpC pr PP cfg (DD pr) (sub (codeOf Try.f75) [1, 1, 1]) (retQ Try.f75.results.toList R) e w) e w) (retQ Try.f75.results.toList R) e w
def q3 (pr : Prims) (R : Ending → World → Prop) : Exit → Env → World → Prop := fun ex e w => blockQ ex 0 (q2 pr R) e w
def q4 (pr : Prims) (k : Env → World → Prop) (Q : Exit → Env → World → Prop) : Exit → Env → World → Prop := fun ex e w => normQ ex (fun e w => contE pr cfg (sub (codeOf Try.f75) [1, 1, 0, 1, 0, 0, 1, 1]) (fun e w => wpC pr PP cfg (DD pr) (sub (codeOf Try.f75) [1, 1, 0, 1, 0, 0, 1, 1]) (fun ex e w => normQ ex (fun e' w' => k (Env.restr e' (lookN cfg.loops (keyOf (sub (codeOf Try.f75) [1, 1, 0, 1, 0, 0])))) w') Q e w) e w) e w) (fun ex e w => normQ ex (fun e' w' => k (Env.restr e' (lookN cfg.loops (keyOf (sub (codeOf Try.f75) [1, 1, 0, 1, 0, 0])))) w') Q e w) e w
def q5 (pr : Prims) (k : Env → World → Prop) (Q : Exit → Env → World → Prop) : Exit → Env → World → Prop := fun ex e w => blockQ ex 1 (q4 pr k Q) e w
def q6 (pr : Prims) (k : Env → World → Prop) (Q : Exit → Env → World → Prop) : Exit → Env → World → Prop := fun ex e w => normQ ex (fun e w => contE pr cfg (sub (codeOf Try.f75) [1, 1, 0, 1, 0, 0, 1, 0, 0, 1, 1]) (fun e w => wpC pr PP cfg (DD pr) (sub (codeOf Try.f75) [1, 1, 0, 1, 0, 0, 1, 0, 0, 1, 1]) (q5 pr k Q) e w) e w) (q5 pr k Q) e w
def q7 (pr : Prims) (k : Env → World → Prop) (Q : Exit → Env → World → Prop) : Exit → Env → World → Prop := fun ex e w => blockQ ex 2 (q6 pr k Q) e w
def emb3 (list_0 : Sl) (out_3 : Sl) (k_4 : Int) : Env := [(0, Sl.v list_0), (3, Sl.v out_3), (4, vI k_4)]
def emb6 (list_0 : Sl) (out_3 : Sl) (k_4 : Int) (at_5 : Int) : Env := [(0, Sl.v list_0), (3, Sl.v out_3), (4, vI k_4), (5, vI at_5)]
def x2 (list_0 : Sl) (out_3 : Sl) (k_4 : Int) (at_5 : Int) : Env := [(0, Sl.v list_0), (3, Sl.v out_3), (4, vI k_4), (5, vI at_5)]
def x0 (out_3 : Sl) : Env := [(3, Sl.v out_3)]
def S6 (pr : Prims) (Q : Exit → Env → World → Prop) : (Env → World → Prop) → Env → World → Prop := fun k e w => wpC pr PP cfg (DD pr) (sub (codeOf Try.f75) [1, 1, 0, 1, 0, 0, 1, 0, 0, 1, 0, 0, 0]) (fun ex e w => normQ ex (fun e' w' => k (Env.restr e' (lookN cfg.loops (keyOf (sub (codeOf Try.f75) [1, 1, 0, 1, 0, 0, 1, 0, 0, 1, 0, 0, 0])))) w') Q e w) e w
def S3 (pr : Prims) (Q : Exit → Env → World → Prop) : (Env → World → Prop) → Env → World → Prop := fun k e w => wpC pr PP cfg (DD pr) (sub (codeOf Try.f75) [1, 1, 0, 1, 0, 0]) (fun ex e w => normQ ex (fun e' w' => k (Env.restr e' (lookN cfg.loops (keyOf (sub (codeOf Try.f75) [1, 1, 0, 1, 0, 0])))) w') Q e w) e w
def B6 (pr : Prims) (list_0 : Sl) (out_3 : Sl) (k_4 : Int) (at_5 : Int) (w : World) (k : Env → World → Prop) (Q : Exit → Env → World → Prop) : Prop :=
  S6 pr Q k (emb6 list_0 out_3 k_4 at_5) w
def L6 (pr : Prims) (list_0 : Sl) (out_3 : Sl) (k_4 : Int) (at_5 : Int) (w : World) (Q : Exit → Env → World → Prop) : Prop :=
  pr.loop (S6 pr Q) (emb6 list_0 out_3 k_4 at_5) w
def B3 (pr : Prims) (list_0 : Sl) (out_3 : Sl) (k_4 : Int) (w : World) (k : Env → World → Prop) (Q : Exit → Env → World → Prop) : Prop :=
  S3 pr Q k (emb3 list_0 out_3 k_4) w
def L3 (pr : Prims) (list_0 : Sl) (out_3 : Sl) (k_4 : Int) (w : World) (Q : Exit → Env → World → Prop) : Prop :=
  pr.loop (S3 pr Q) (emb3 list_0 out_3 k_4) w
def E (pr : Prims) (list_0 : Sl) (w : World) (R : Ending → World → Prop) : Prop :=
  wpC pr PP cfg (DD pr) (codeOf Try.f75) (retQ Try.f75.results.toList R) (argE 0 [Sl.v list_0]) w
theorem B6_eq (pr : Prims) (list_0 : Sl) (out_3 : Sl) (k_4 : Int) (at_5 : Int) (w : World) (k : Env → World → Prop) (Q : Exit → Env → World → Prop) : B6 pr list_0 out_3 k_4 at_5 w k Q = (
  bif decide (at_5 > 0) then (
  pr.idxK 1 list_0 k_4 fun (a8 : Addr) =>
  pr.load1 (.int .i64) a8 w fun (ξ9 : Int) =>
  pr.idxK 1 out_3 (w64 (at_5 - 1)) fun (a10 : Addr) =>
  pr.load1 (.int .i64) a10 w fun (ξ11 : Int) =>
  pr.drewAll w fun ω12 =>
  bif decide (ξ9 < ξ11) then (
  k (emb6 list_0 out_3 k_4 (w64 (at_5 - 1))) ω12)
  else (
  Q (.exit 2) (x2 list_0 out_3 k_4 at_5) ω12))
  else (
  pr.drewAll w fun ω13 =>
  Q (.exit 2) (x2 list_0 out_3 k_4 at_5) ω13)) := by kernel_rfl
theorem B6_s (list_0 : Sl) (out_3 : Sl) (k_4 : Int) (at_5 : Int) (w : World) (k : Env → World → Prop) (Q : Exit → Env → World → Prop) : B6 std list_0 out_3 k_4 at_5 w k Q = (
  bif decide (at_5 > 0) then (
  idxK 1 list_0 k_4 fun (a8 : Addr) =>
  load1 (.int .i64) a8 w fun (ξ9 : Int) =>
  idxK 1 out_3 (w64 (at_5 - 1)) fun (a10 : Addr) =>
  load1 (.int .i64) a10 w fun (ξ11 : Int) =>
  drewAll w fun ω12 =>
  bif decide (ξ9 < ξ11) then (
  k (emb6 list_0 out_3 k_4 (w64 (at_5 - 1))) ω12)
  else (
  Q (.exit 2) (x2 list_0 out_3 k_4 at_5) ω12))
  else (
  drewAll w fun ω13 =>
  Q (.exit 2) (x2 list_0 out_3 k_4 at_5) ω13)) := B6_eq std list_0 out_3 k_4 at_5 w k Q
theorem L6_rule (list_0 : Sl) (out_3 : Sl) (k_4 : Int) (at_5 : Int) (w : World) (Q : Exit → Env → World → Prop) (I : Int → World → Prop) (μ : Int → World → Nat) (h0 : I at_5 w)
    (h : ∀ (at_5 : Int) (w' : World), I at_5 w' → B6 std list_0 out_3 k_4 at_5 w' (fun e2 w2 => ∃ at_5_n, e2 = emb6 list_0 out_3 k_4 at_5_n ∧ I at_5_n w2 ∧ μ at_5_n w2 < μ at_5 w') Q) :
    L6 std list_0 out_3 k_4 at_5 w Q := by
  unfold L6
  refine LoopE.intro (σ := Int) (step := S6 std Q) (fun s => emb6 list_0 out_3 k_4 s) (fun s w => I s w) (fun s w => μ s w) at_5 rfl h0 ?_
  intro s w' hI
  have h1 := h s w' hI
  unfold B6 at h1
  exact h1
theorem A6_2_eq (pr : Prims) (list_0 : Sl) (out_3 : Sl) (k_4 : Int) (at_5 : Int) (w : World) (k : Env → World → Prop) (Q : Exit → Env → World → Prop) : (q7 pr k Q) (.exit 2) (x2 list_0 out_3 k_4 at_5) w = (
  pr.sem1 .sl PP (Instr.buildSlice T_Sint 0 #[]) w fun (ρ14 : Sl) ω15 =>
  pr.cutK 1 out_3 (some at_5) none fun (s16 : Sl) =>
  pr.sem1 .sl PP (Builtin.append_ #[T_Sint, T_Sint] T_Sint #[Sl.v ρ14, Sl.v s16]) ω15 fun (ρ17 : Sl) ω18 =>
  pr.drewAll ω18 fun ω19 =>
  pr.cutK 1 out_3 none (some at_5) fun (s20 : Sl) =>
  pr.idxK 1 list_0 k_4 fun (a21 : Addr) =>
  pr.load1 (.int .i64) a21 ω19 fun (ξ22 : Int) =>
  pr.sem1 .sl PP (Instr.buildSlice T_Sint 1 #[(0, vI ξ22)]) ω19 fun (ρ23 : Sl) ω24 =>
  pr.sem1 .sl PP (Builtin.append_ #[T_Sint, T_Sint] T_Sint #[Sl.v s20, Sl.v ρ23]) ω24 fun (ρ25 : Sl) ω26 =>
  pr.sem1 .sl PP (Builtin.append_ #[T_Sint, T_Sint] T_Sint #[Sl.v ρ25, Sl.v ρ17]) ω26 fun (ρ27 : Sl) ω28 =>
  k (emb3 list_0 ρ27 (w64 (k_4 + 1))) ω28) := by kernel_rfl
theorem A6_2_s (list_0 : Sl) (out_3 : Sl) (k_4 : Int) (at_5 : Int) (w : World) (k : Env → World → Prop) (Q : Exit → Env → World → Prop) : (q7 std k Q) (.exit 2) (x2 list_0 out_3 k_4 at_5) w = (
  sem1 .sl PP (Instr.buildSlice T_Sint 0 #[]) w fun (ρ14 : Sl) ω15 =>
  cutK 1 out_3 (some at_5) none fun (s16 : Sl) =>
  sem1 .sl PP (Builtin.append_ #[T_Sint, T_Sint] T_Sint #[Sl.v ρ14, Sl.v s16]) ω15 fun (ρ17 : Sl) ω18 =>
  drewAll ω18 fun ω19 =>
  cutK 1 out_3 none (some at_5) fun (s20 : Sl) =>
  idxK 1 list_0 k_4 fun (a21 : Addr) =>
  load1 (.int .i64) a21 ω19 fun (ξ22 : Int) =>
  sem1 .sl PP (Instr.buildSlice T_Sint 1 #[(0, vI ξ22)]) ω19 fun (ρ23 : Sl) ω24 =>
  sem1 .sl PP (Builtin.append_ #[T_Sint, T_Sint] T_Sint #[Sl.v s20, Sl.v ρ23]) ω24 fun (ρ25 : Sl) ω26 =>
  sem1 .sl PP (Builtin.append_ #[T_Sint, T_Sint] T_Sint #[Sl.v ρ25, Sl.v ρ17]) ω26 fun (ρ27 : Sl) ω28 =>
  k (emb3 list_0 ρ27 (w64 (k_4 + 1))) ω28) := A6_2_eq std list_0 out_3 k_4 at_5 w k Q
theorem B3_eq (pr : Prims) (list_0 : Sl) (out_3 : Sl) (k_4 : Int) (w : World) (k : Env → World → Prop) (Q : Exit → Env → World → Prop) : B3 pr list_0 out_3 k_4 w k Q = (
  bif decide (k_4 < (list_0.n : Int)) then (
  L6 pr list_0 out_3 k_4 (out_3.n : Int) w (q7 pr k Q))
  else (
  Q (.exit 0) (x0 out_3) w)) := by kernel_rfl
theorem B3_s (list_0 : Sl) (out_3 : Sl) (k_4 : Int) (w : World) (k : Env → World → Prop) (Q : Exit → Env → World → Prop) : B3 std list_0 out_3 k_4 w k Q = (
  bif decide (k_4 < (list_0.n : Int)) then (
  L6 std list_0 out_3 k_4 (out_3.n : Int) w (q7 std k Q))
  else (
  Q (.exit 0) (x0 out_3) w)) := B3_eq std list_0 out_3 k_4 w k Q
theorem L3_rule (list_0 : Sl) (out_3 : Sl) (k_4 : Int) (w : World) (Q : Exit → Env → World → Prop) (I : Sl → Int → World → Prop) (μ : Sl → Int → World → Nat) (h0 : I out_3 k_4 w)
    (h : ∀ (out_3 : Sl) (k_4 : Int) (w' : World), I out_3 k_4 w' → B3 std list_0 out_3 k_4 w' (fun e2 w2 => ∃ out_3_n k_4_n, e2 = emb3 list_0 out_3_n k_4_n ∧ I out_3_n k_4_n w2 ∧ μ out_3_n k_4_n w2 < μ out_3 k_4 w') Q) :
    L3 std list_0 out_3 k_4 w Q := by
  unfold L3
  refine LoopE.intro (σ := Sl × Int) (step := S3 std Q) (fun s => emb3 list_0 s.1 s.2) (fun s w => I s.1 s.2 w) (fun s w => μ s.1 s.2 w) (out_3, k_4) rfl h0 ?_
  intro s w' hI
  have h1 := h s.1 s.2 w' hI
  unfold B3 at h1
  simp only [Prod.exists]
  exact h1
theorem A3_0_eq (pr : Prims) (out_3 : Sl) (w : World) (R : Ending → World → Prop) : (q3 pr R) (.exit 0) (x0 out_3) w = (
  R (.returned (Sl.v out_3)) w) := by kernel_rfl
theorem A3_0_s (out_3 : Sl) (w : World) (R : Ending → World → Prop) : (q3 std R) (.exit 0) (x0 out_3) w = (
  R (.returned (Sl.v out_3)) w) := A3_0_eq std out_3 w R
theorem E_eq (pr : Prims) (list_0 : Sl) (w : World) (R : Ending → World → Prop) : E pr list_0 w R = (
  pr.sem1 .sl PP (Instr.buildSlice T_Sint 0 #[]) w fun (ρ0 : Sl) ω1 =>
  L3 pr list_0 ρ0 0 ω1 (q3 pr R)) := by kernel_rfl
theorem E_s (list_0 : Sl) (w : World) (R : Ending → World → Prop) : E std list_0 w R = (
  sem1 .sl PP (Instr.buildSlice T_Sint 0 #[]) w fun (ρ0 : Sl) ω1 =>
  L3 std list_0 ρ0 0 ω1 (q3 std R)) := E_eq std list_0 w R
theorem drawsOk : drawsOk PP cfg okD (codeOf Try.f75) = true := by kernel_rfl
theorem calls (list_0 : Sl) {w : World} {R : Ending → World → Prop} (h : E std list_0 w R) : Calls PP F.spec_l15Sort #[Sl.v list_0] w R :=
  calls_of noCount mixed drawOk Try.func75 rfl (c := cfg) (args := [Sl.v list_0]) rfl (Nat.le_of_ble_eq_true (by kernel_rfl)) drawsOk h
end spec_l15Sort

end Go.Proofs.Ytmhgjfahgemblaa
