/- What each function does, step by step, written by a program (Gen.lean); each equation is checked by the kernel. -/
import Derived.Test.YthbjkgpbnfibkaaHead
namespace Go.Proofs.Ythbjkgpbnfibkaa
open Go
set_option linter.unusedVariables false
set_option maxRecDepth 100000
namespace spec_l14Sites
@[reducible] def cfg : Cfg := ⟨24, [(3, [0, 1, 5, 6])], [(1, [0, 1, 5, 6]), (0, [5])], [], [4], [], [93, 51, 18, 26, 23, 44, 60, 19, 57, 123, 109, 126, 53, 100], [61, 85, 110, 74, 127, 120]⟩
def q2 (pr : Prims) (R : Ending → World → Prop) : Exit → Env → World → Prop := fun ex e w => normQ ex (fun e w => contE pr cfg (sub (codeOf Try.f77) [1, 1, 1]) (fun e w => wpC pr PP cfg (DD pr) (sub (codeOf Try.f77) [1, 1, 1]) (retQ Try.f77.results.toList R) e w) e w) (retQ Try.f77.results.toList R) e w
def q3 (pr : Prims) (R : Ending → World → Prop) : Exit → Env → World → Prop := fun ex e w => blockQ ex 0 (q2 pr R) e w
def emb3 (list_0 : Sl) (p_1 : Sl) (out_5 : Sl) (site_6 : Int) : Env := [(0, Sl.v list_0), (1, Sl.v p_1), (5, Sl.v out_5), (6, vI site_6)]
def x0 (out_5 : Sl) : Env := [(5, Sl.v out_5)]
def S3 (pr : Prims) (Q : Exit → Env → World → Prop) : (Env → World → Prop) → Env → World → Prop := fun k e w => wpC pr PP cfg (DD pr) (sub (codeOf Try.f77) [1, 1, 0, 1, 0, 0]) (fun ex e w => normQ ex (fun e' w' => k (Env.restr e' (lookN cfg.loops (keyOf (sub (codeOf Try.f77) [1, 1, 0, 1, 0, 0])))) w') Q e w) e w
def B3 (pr : Prims) (list_0 : Sl) (p_1 : Sl) (out_5 : Sl) (site_6 : Int) (w : World) (k : Env → World → Prop) (Q : Exit → Env → World → Prop) : Prop :=
  S3 pr Q k (emb3 list_0 p_1 out_5 site_6) w
def L3 (pr : Prims) (list_0 : Sl) (p_1 : Sl) (out_5 : Sl) (site_6 : Int) (w : World) (Q : Exit → Env → World → Prop) : Prop :=
  pr.loop (S3 pr Q) (emb3 list_0 p_1 out_5 site_6) w
def E (pr : Prims) (list_0 : Sl) (p_1 : Sl) (w : World) (R : Ending → World → Prop) : Prop :=
  wpC pr PP cfg (DD pr) (codeOf Try.f77) (retQ Try.f77.results.toList R) (argE 0 [Sl.v list_0, Sl.v p_1]) w
theorem B3_eq (pr : Prims) (list_0 : Sl) (p_1 : Sl) (out_5 : Sl) (site_6 : Int) (w : World) (k : Env → World → Prop) (Q : Exit → Env → World → Prop) : B3 pr list_0 p_1 out_5 site_6 w k Q = (
  bif decide (site_6 ≤ (p_1.n : Int)) then (
  pr.call1 .sl PP F.spec_l14Child #[Sl.v p_1, vI site_6] w fun (ρ4 : Sl) ω5 =>
  pr.call1 .bool PP F.spec_l12Avoids #[Sl.v list_0, Sl.v ρ4] ω5 fun (ρ6 : Bool) ω7 =>
  bif ρ6 then (
  pr.sem1 .sl PP (Instr.buildSlice T_Sint 1 #[(0, vI site_6)]) ω7 fun (ρ8 : Sl) ω9 =>
  pr.sem1 .sl PP (Builtin.append_ #[T_Sint, T_Sint] T_Sint #[Sl.v out_5, Sl.v ρ8]) ω9 fun (ρ10 : Sl) ω11 =>
  k (emb3 list_0 p_1 ρ10 (w64 (site_6 + 1))) ω11)
  else (
  k (emb3 list_0 p_1 out_5 (w64 (site_6 + 1))) ω7))
  else (
  Q (.exit 0) (x0 out_5) w)) := by kernel_rfl
theorem B3_s (list_0 : Sl) (p_1 : Sl) (out_5 : Sl) (site_6 : Int) (w : World) (k : Env → World → Prop) (Q : Exit → Env → World → Prop) : B3 std list_0 p_1 out_5 site_6 w k Q = (
  bif decide (site_6 ≤ (p_1.n : Int)) then (
  call1 .sl PP F.spec_l14Child #[Sl.v p_1, vI site_6] w fun (ρ4 : Sl) ω5 =>
  call1 .bool PP F.spec_l12Avoids #[Sl.v list_0, Sl.v ρ4] ω5 fun (ρ6 : Bool) ω7 =>
  bif ρ6 then (
  sem1 .sl PP (Instr.buildSlice T_Sint 1 #[(0, vI site_6)]) ω7 fun (ρ8 : Sl) ω9 =>
  sem1 .sl PP (Builtin.append_ #[T_Sint, T_Sint] T_Sint #[Sl.v out_5, Sl.v ρ8]) ω9 fun (ρ10 : Sl) ω11 =>
  k (emb3 list_0 p_1 ρ10 (w64 (site_6 + 1))) ω11)
  else (
  k (emb3 list_0 p_1 out_5 (w64 (site_6 + 1))) ω7))
  else (
  Q (.exit 0) (x0 out_5) w)) := B3_eq std list_0 p_1 out_5 site_6 w k Q
theorem L3_rule (list_0 : Sl) (p_1 : Sl) (out_5 : Sl) (site_6 : Int) (w : World) (Q : Exit → Env → World → Prop) (I : Sl → Int → World → Prop) (μ : Sl → Int → World → Nat) (h0 : I out_5 site_6 w)
    (h : ∀ (out_5 : Sl) (site_6 : Int) (w' : World), I out_5 site_6 w' → B3 std list_0 p_1 out_5 site_6 w' (fun e2 w2 => ∃ out_5_n site_6_n, e2 = emb3 list_0 p_1 out_5_n site_6_n ∧ I out_5_n site_6_n w2 ∧ μ out_5_n site_6_n w2 < μ out_5 site_6 w') Q) :
    L3 std list_0 p_1 out_5 site_6 w Q := by
  unfold L3
  refine LoopE.intro (σ := Sl × Int) (step := S3 std Q) (fun s => emb3 list_0 p_1 s.1 s.2) (fun s w => I s.1 s.2 w) (fun s w => μ s.1 s.2 w) (out_5, site_6) rfl h0 ?_
  intro s w' hI
  have h1 := h s.1 s.2 w' hI
  unfold B3 at h1
  simp only [Prod.exists]
  exact h1
theorem A3_0_eq (pr : Prims) (out_5 : Sl) (w : World) (R : Ending → World → Prop) : (q3 pr R) (.exit 0) (x0 out_5) w = (
  R (.returned (Sl.v out_5)) w) := by kernel_rfl
theorem A3_0_s (out_5 : Sl) (w : World) (R : Ending → World → Prop) : (q3 std R) (.exit 0) (x0 out_5) w = (
  R (.returned (Sl.v out_5)) w) := A3_0_eq std out_5 w R
theorem E_eq (pr : Prims) (list_0 : Sl) (p_1 : Sl) (w : World) (R : Ending → World → Prop) : E pr list_0 p_1 w R = (
  pr.sem1 .sl PP (Instr.buildSlice T_Sint 0 #[]) w fun (ρ0 : Sl) ω1 =>
  L3 pr list_0 p_1 ρ0 0 ω1 (q3 pr R)) := by kernel_rfl
theorem E_s (list_0 : Sl) (p_1 : Sl) (w : World) (R : Ending → World → Prop) : E std list_0 p_1 w R = (
  sem1 .sl PP (Instr.buildSlice T_Sint 0 #[]) w fun (ρ0 : Sl) ω1 =>
  L3 std list_0 p_1 ρ0 0 ω1 (q3 std R)) := E_eq std list_0 p_1 w R
theorem drawsOk : drawsOk PP cfg okD (codeOf Try.f77) = true := by kernel_rfl
theorem calls (list_0 : Sl) (p_1 : Sl) {w : World} {R : Ending → World → Prop} (h : E std list_0 p_1 w R) : Calls PP F.spec_l14Sites #[Sl.v list_0, Sl.v p_1] w R :=
  calls_of noCount mixed drawOk Try.func77 rfl (c := cfg) (args := [Sl.v list_0, Sl.v p_1]) rfl (Nat.le_of_ble_eq_true (by kernel_rfl)) drawsOk h
end spec_l14Sites

namespace spec_ActiveSites
@[reducible] def cfg : Cfg := ⟨18, [], [], [], [4], [], [93, 51, 18, 26, 23, 44, 60, 19, 57, 123, 109, 126, 53, 100], [61, 85, 110, 74, 127, 120]⟩
def E (pr : Prims) (list_0 : Sl) (p_1 : Sl) (w : World) (R : Ending → World → Prop) : Prop :=
  wpC pr PP cfg (DD pr) (codeOf Try.f35) (retQ Try.f35.results.toList R) (argE 0 [Sl.v list_0, Sl.v p_1]) w
theorem E_eq (pr : Prims) (list_0 : Sl) (p_1 : Sl) (w : World) (R : Ending → World → Prop) : E pr list_0 p_1 w R = (
  pr.call1 .bool PP F.spec_InClass #[Sl.v list_0, Sl.v p_1] w fun (ρ0 : Bool) ω1 =>
  bif !ρ0 then (
  pr.sem1 .sl PP (Instr.buildSlice T_Sint 0 #[]) ω1 fun (ρ2 : Sl) ω3 =>
  R (.returned (Sl.v ρ2)) ω3)
  else (
  bif (p_1.n : Int) == 8 then (
  pr.sem1 .sl PP (Instr.buildSlice T_Sint 0 #[]) ω1 fun (ρ4 : Sl) ω5 =>
  R (.returned (Sl.v ρ4)) ω5)
  else (
  pr.call1 .sl PP F.spec_l14Sites #[Sl.v list_0, Sl.v p_1] ω1 fun (ρ6 : Sl) ω7 =>
  R (.returned (Sl.v ρ6)) ω7))) := by kernel_rfl
theorem E_s (list_0 : Sl) (p_1 : Sl) (w : World) (R : Ending → World → Prop) : E std list_0 p_1 w R = (
  call1 .bool PP F.spec_InClass #[Sl.v list_0, Sl.v p_1] w fun (ρ0 : Bool) ω1 =>
  bif !ρ0 then (
  sem1 .sl PP (Instr.buildSlice T_Sint 0 #[]) ω1 fun (ρ2 : Sl) ω3 =>
  R (.returned (Sl.v ρ2)) ω3)
  else (
  bif (p_1.n : Int) == 8 then (
  sem1 .sl PP (Instr.buildSlice T_Sint 0 #[]) ω1 fun (ρ4 : Sl) ω5 =>
  R (.returned (Sl.v ρ4)) ω5)
  else (
  call1 .sl PP F.spec_l14Sites #[Sl.v list_0, Sl.v p_1] ω1 fun (ρ6 : Sl) ω7 =>
  R (.returned (Sl.v ρ6)) ω7))) := E_eq std list_0 p_1 w R
theorem drawsOk : drawsOk PP cfg okD (codeOf Try.f35) = true := by kernel_rfl
theorem calls (list_0 : Sl) (p_1 : Sl) {w : World} {R : Ending → World → Prop} (h : E std list_0 p_1 w R) : Calls PP F.spec_ActiveSites #[Sl.v list_0, Sl.v p_1] w R :=
  calls_of noCount mixed drawOk Try.func35 rfl (c := cfg) (args := [Sl.v list_0, Sl.v p_1]) rfl (Nat.le_of_ble_eq_true (by kernel_rfl)) drawsOk h
end spec_ActiveSites

namespace spec_ChildrenOf
@[reducible] def cfg : Cfg := ⟨28, [(4, [1, 5, 6, 7])], [(1, [1, 5, 6, 7]), (0, [5])], [], [4], [], [93, 51, 18, 26, 23, 44, 60, 19, 57, 123, 109, 126, 53, 100], [61, 85, 110, 74, 127, 120]⟩
def q4 (pr : Prims) (R : Ending → World → Prop) : Exit → Env → World → Prop := fun ex e w => normQ ex (fun e w => contE pr cfg (sub (codeOf Try.f42) [1, 1, 1, 1]) (fun e w => wpC pr PP cfg (DD pr) (sub (codeOf Try.f42) [1, 1, 1, 1]) (retQ Try.f42.results.toList R) e w) e w) (retQ Try.f42.results.toList R) e w
def q5 (pr : Prims) (R : Ending → World → Prop) : Exit → Env → World → Prop := fun ex e w => blockQ ex 0 (q4 pr R) e w
def emb4 (p_1 : Sl) (out_5 : Sl) (sites_6 : Sl) (k_7 : Int) : Env := [(1, Sl.v p_1), (5, Sl.v out_5), (6, Sl.v sites_6), (7, vI k_7)]
def x0 (out_5 : Sl) : Env := [(5, Sl.v out_5)]
def S4 (pr : Prims) (Q : Exit → Env → World → Prop) : (Env → World → Prop) → Env → World → Prop := fun k e w => wpC pr PP cfg (DD pr) (sub (codeOf Try.f42) [1, 1, 1, 0, 1, 0, 0]) (fun ex e w => normQ ex (fun e' w' => k (Env.restr e' (lookN cfg.loops (keyOf (sub (codeOf Try.f42) [1, 1, 1, 0, 1, 0, 0])))) w') Q e w) e w
def B4 (pr : Prims) (p_1 : Sl) (out_5 : Sl) (sites_6 : Sl) (k_7 : Int) (w : World) (k : Env → World → Prop) (Q : Exit → Env → World → Prop) : Prop :=
  S4 pr Q k (emb4 p_1 out_5 sites_6 k_7) w
def L4 (pr : Prims) (p_1 : Sl) (out_5 : Sl) (sites_6 : Sl) (k_7 : Int) (w : World) (Q : Exit → Env → World → Prop) : Prop :=
  pr.loop (S4 pr Q) (emb4 p_1 out_5 sites_6 k_7) w
def E (pr : Prims) (list_0 : Sl) (p_1 : Sl) (w : World) (R : Ending → World → Prop) : Prop :=
  wpC pr PP cfg (DD pr) (codeOf Try.f42) (retQ Try.f42.results.toList R) (argE 0 [Sl.v list_0, Sl.v p_1]) w
theorem B4_eq (pr : Prims) (p_1 : Sl) (out_5 : Sl) (sites_6 : Sl) (k_7 : Int) (w : World) (k : Env → World → Prop) (Q : Exit → Env → World → Prop) : B4 pr p_1 out_5 sites_6 k_7 w k Q = (
  bif decide (k_7 < (sites_6.n : Int)) then (
  pr.idxK 1 sites_6 k_7 fun (a6 : Addr) =>
  pr.load1 (.int .i64) a6 w fun (ξ7 : Int) =>
  pr.call1 .sl PP F.spec_l14Child #[Sl.v p_1, vI ξ7] w fun (ρ8 : Sl) ω9 =>
  pr.sem1 .sl PP (Instr.buildSlice T_SSint 1 #[(0, Sl.v ρ8)]) ω9 fun (ρ10 : Sl) ω11 =>
  pr.sem1 .sl PP (Builtin.append_ #[T_SSint, T_SSint] T_SSint #[Sl.v out_5, Sl.v ρ10]) ω11 fun (ρ12 : Sl) ω13 =>
  k (emb4 p_1 ρ12 sites_6 (w64 (k_7 + 1))) ω13)
  else (
  Q (.exit 0) (x0 out_5) w)) := by kernel_rfl
theorem B4_s (p_1 : Sl) (out_5 : Sl) (sites_6 : Sl) (k_7 : Int) (w : World) (k : Env → World → Prop) (Q : Exit → Env → World → Prop) : B4 std p_1 out_5 sites_6 k_7 w k Q = (
  bif decide (k_7 < (sites_6.n : Int)) then (
  idxK 1 sites_6 k_7 fun (a6 : Addr) =>
  load1 (.int .i64) a6 w fun (ξ7 : Int) =>
  call1 .sl PP F.spec_l14Child #[Sl.v p_1, vI ξ7] w fun (ρ8 : Sl) ω9 =>
  sem1 .sl PP (Instr.buildSlice T_SSint 1 #[(0, Sl.v ρ8)]) ω9 fun (ρ10 : Sl) ω11 =>
  sem1 .sl PP (Builtin.append_ #[T_SSint, T_SSint] T_SSint #[Sl.v out_5, Sl.v ρ10]) ω11 fun (ρ12 : Sl) ω13 =>
  k (emb4 p_1 ρ12 sites_6 (w64 (k_7 + 1))) ω13)
  else (
  Q (.exit 0) (x0 out_5) w)) := B4_eq std p_1 out_5 sites_6 k_7 w k Q
theorem L4_rule (p_1 : Sl) (out_5 : Sl) (sites_6 : Sl) (k_7 : Int) (w : World) (Q : Exit → Env → World → Prop) (I : Sl → Int → World → Prop) (μ : Sl → Int → World → Nat) (h0 : I out_5 k_7 w)
    (h : ∀ (out_5 : Sl) (k_7 : Int) (w' : World), I out_5 k_7 w' → B4 std p_1 out_5 sites_6 k_7 w' (fun e2 w2 => ∃ out_5_n k_7_n, e2 = emb4 p_1 out_5_n sites_6 k_7_n ∧ I out_5_n k_7_n w2 ∧ μ out_5_n k_7_n w2 < μ out_5 k_7 w') Q) :
    L4 std p_1 out_5 sites_6 k_7 w Q := by
  unfold L4
  refine LoopE.intro (σ := Sl × Int) (step := S4 std Q) (fun s => emb4 p_1 s.1 sites_6 s.2) (fun s w => I s.1 s.2 w) (fun s w => μ s.1 s.2 w) (out_5, k_7) rfl h0 ?_
  intro s w' hI
  have h1 := h s.1 s.2 w' hI
  unfold B4 at h1
  simp only [Prod.exists]
  exact h1
theorem A4_0_eq (pr : Prims) (out_5 : Sl) (w : World) (R : Ending → World → Prop) : (q5 pr R) (.exit 0) (x0 out_5) w = (
  R (.returned (Sl.v out_5)) w) := by kernel_rfl
theorem A4_0_s (out_5 : Sl) (w : World) (R : Ending → World → Prop) : (q5 std R) (.exit 0) (x0 out_5) w = (
  R (.returned (Sl.v out_5)) w) := A4_0_eq std out_5 w R
theorem E_eq (pr : Prims) (list_0 : Sl) (p_1 : Sl) (w : World) (R : Ending → World → Prop) : E pr list_0 p_1 w R = (
  pr.sem1 .sl PP (Instr.buildSlice T_SSint 0 #[]) w fun (ρ0 : Sl) ω1 =>
  pr.call1 .sl PP F.spec_ActiveSites #[Sl.v list_0, Sl.v p_1] ω1 fun (ρ2 : Sl) ω3 =>
  L4 pr p_1 ρ0 ρ2 0 ω3 (q5 pr R)) := by kernel_rfl
theorem E_s (list_0 : Sl) (p_1 : Sl) (w : World) (R : Ending → World → Prop) : E std list_0 p_1 w R = (
  sem1 .sl PP (Instr.buildSlice T_SSint 0 #[]) w fun (ρ0 : Sl) ω1 =>
  call1 .sl PP F.spec_ActiveSites #[Sl.v list_0, Sl.v p_1] ω1 fun (ρ2 : Sl) ω3 =>
  L4 std p_1 ρ0 ρ2 0 ω3 (q5 std R)) := E_eq std list_0 p_1 w R
theorem drawsOk : drawsOk PP cfg okD (codeOf Try.f42) = true := by kernel_rfl
theorem calls (list_0 : Sl) (p_1 : Sl) {w : World} {R : Ending → World → Prop} (h : E std list_0 p_1 w R) : Calls PP F.spec_ChildrenOf #[Sl.v list_0, Sl.v p_1] w R :=
  calls_of noCount mixed drawOk Try.func42 rfl (c := cfg) (args := [Sl.v list_0, Sl.v p_1]) rfl (Nat.le_of_ble_eq_true (by kernel_rfl)) drawsOk h
end spec_ChildrenOf

namespace spec_LabelOf
@[reducible] def cfg : Cfg := ⟨18, [], [], [], [4], [], [93, 51, 18, 26, 23, 44, 60, 19, 57, 123, 109, 126, 53, 100], [61, 85, 110, 74, 127, 120]⟩
def E (pr : Prims) (list_0 : Sl) (p_1 : Sl) (w : World) (R : Ending → World → Prop) : Prop :=
  wpC pr PP cfg (DD pr) (codeOf Try.f33) (retQ Try.f33.results.toList R) (argE 0 [Sl.v list_0, Sl.v p_1]) w
theorem E_eq (pr : Prims) (list_0 : Sl) (p_1 : Sl) (w : World) (R : Ending → World → Prop) : E pr list_0 p_1 w R = (
  pr.call1 .bool PP F.spec_InClass #[Sl.v list_0, Sl.v p_1] w fun (ρ0 : Bool) ω1 =>
  bif !ρ0 then (
  R (.returned (vI (-1))) ω1)
  else (
  bif (p_1.n : Int) == 8 then (
  R (.returned (vI (-1))) ω1)
  else (
  pr.call1 .sl PP F.spec_l14Sites #[Sl.v list_0, Sl.v p_1] ω1 fun (ρ2 : Sl) ω3 =>
  R (.returned (vI (ρ2.n : Int))) ω3))) := by kernel_rfl
theorem E_s (list_0 : Sl) (p_1 : Sl) (w : World) (R : Ending → World → Prop) : E std list_0 p_1 w R = (
  call1 .bool PP F.spec_InClass #[Sl.v list_0, Sl.v p_1] w fun (ρ0 : Bool) ω1 =>
  bif !ρ0 then (
  R (.returned (vI (-1))) ω1)
  else (
  bif (p_1.n : Int) == 8 then (
  R (.returned (vI (-1))) ω1)
  else (
  call1 .sl PP F.spec_l14Sites #[Sl.v list_0, Sl.v p_1] ω1 fun (ρ2 : Sl) ω3 =>
  R (.returned (vI (ρ2.n : Int))) ω3))) := E_eq std list_0 p_1 w R
theorem drawsOk : drawsOk PP cfg okD (codeOf Try.f33) = true := by kernel_rfl
theorem calls (list_0 : Sl) (p_1 : Sl) {w : World} {R : Ending → World → Prop} (h : E std list_0 p_1 w R) : Calls PP F.spec_LabelOf #[Sl.v list_0, Sl.v p_1] w R :=
  calls_of noCount mixed drawOk Try.func33 rfl (c := cfg) (args := [Sl.v list_0, Sl.v p_1]) rfl (Nat.le_of_ble_eq_true (by kernel_rfl)) drawsOk h
end spec_LabelOf

namespace spec_LevelSizes
@[reducible] def cfg : Cfg := ⟨54, [(11, [0, 1, 5, 6, 7, 8, 9]), (6, [0, 1, 5, 6, 7])], [(3, [0, 1, 5, 6, 7, 8, 9]), (2, [0, 1, 5, 7, 8]), (1, [0, 1, 5, 6, 7]), (0, [5])], [], [4], [], [93, 51, 18, 26, 23, 44, 60, 19, 57, 123, 109, 126, 53, 100], [61, 85, 110, 74, 127, 120]⟩
def q9 (pr : Prims) (R : Ending → World → Prop) : Exit → Env → World → Prop := fun ex e w => normQ ex (fun e w => contE pr cfg (sub (codeOf Try.f45) [1, 1, 1, 1, 1]) (fun e w => wpC pr PP cfg (DD pr) (sub (codeOf Try.f45) [1, 1, 1, 1, 1]) (retQ Try.f45.results.toList R) e w) e w) (retQ Try.f45.results.toList R) e w
def q10 (pr : Prims) (R : Ending → World → Prop) : Exit → Env → World → Prop := fun ex e w => blockQ ex 0 (q9 pr R) e w
def q11 (pr : Prims) (k : Env → World → Prop) (Q : Exit → Env → World → Prop) : Exit → Env → World → Prop := fun ex e w => normQ ex (fun e w => contE pr cfg (sub (codeOf Try.f45) [1, 1, 1, 1, 0, 1, 0, 0, 1, 1]) (fun e w => wpC pr PP cfg (DD pr) (sub (codeOf Try.f45) [1, 1, 1, 1, 0, 1, 0, 0, 1, 1]) (fun ex e w => normQ ex (fun e' w' => k (Env.restr e' (lookN cfg.loops (keyOf (sub (codeOf Try.f45) [1, 1, 1, 1, 0, 1, 0, 0])))) w') Q e w) e w) e w) (fun ex e w => normQ ex (fun e' w' => k (Env.restr e' (lookN cfg.loops (keyOf (sub (codeOf Try.f45) [1, 1, 1, 1, 0, 1, 0, 0])))) w') Q e w) e w
def q12 (pr : Prims) (k : Env → World → Prop) (Q : Exit → Env → World → Prop) : Exit → Env → World → Prop := fun ex e w => blockQ ex 1 (q11 pr k Q) e w
def q19 (pr : Prims) (k : Env → World → Prop) (Q : Exit → Env → World → Prop) : Exit → Env → World → Prop := fun ex e w => normQ ex (fun e w => contE pr cfg (sub (codeOf Try.f45) [1, 1, 1, 1, 0, 1, 0, 0, 1, 0, 0, 1, 1, 1]) (fun e w => wpC pr PP cfg (DD pr) (sub (codeOf Try.f45) [1, 1, 1, 1, 0, 1, 0, 0, 1, 0, 0, 1, 1, 1]) (q12 pr k Q) e w) e w) (q12 pr k Q) e w
def q20 (pr : Prims) (k : Env → World → Prop) (Q : Exit → Env → World → Prop) : Exit → Env → World → Prop := fun ex e w => blockQ ex 2 (q19 pr k Q) e w
def emb6 (list_0 : Sl) (n_1 : Int) (out_5 : Sl) (level_6 : Sl) (k_7 : Int) : Env := [(0, Sl.v list_0), (1, vI n_1), (5, Sl.v out_5), (6, Sl.v level_6), (7, vI k_7)]
def emb11 (list_0 : Sl) (n_1 : Int) (out_5 : Sl) (level_6 : Sl) (k_7 : Int) (next_8 : Sl) (i_9 : Int) : Env := [(0, Sl.v list_0), (1, vI n_1), (5, Sl.v out_5), (6, Sl.v level_6), (7, vI k_7), (8, Sl.v next_8), (9, vI i_9)]
def x2 (list_0 : Sl) (n_1 : Int) (out_5 : Sl) (k_7 : Int) (next_8 : Sl) : Env := [(0, Sl.v list_0), (1, vI n_1), (5, Sl.v out_5), (7, vI k_7), (8, Sl.v next_8)]
def x0 (out_5 : Sl) : Env := [(5, Sl.v out_5)]
def S11 (pr : Prims) (Q : Exit → Env → World → Prop) : (Env → World → Prop) → Env → World → Prop := fun k e w => wpC pr PP cfg (DD pr) (sub (codeOf Try.f45) [1, 1, 1, 1, 0, 1, 0, 0, 1, 0, 0, 1, 1, 0, 1, 0, 0]) (fun ex e w => normQ ex (fun e' w' => k (Env.restr e' (lookN cfg.loops (keyOf (sub (codeOf Try.f45) [1, 1, 1, 1, 0, 1, 0, 0, 1, 0, 0, 1, 1, 0, 1, 0, 0])))) w') Q e w) e w
def S6 (pr : Prims) (Q : Exit → Env → World → Prop) : (Env → World → Prop) → Env → World → Prop := fun k e w => wpC pr PP cfg (DD pr) (sub (codeOf Try.f45) [1, 1, 1, 1, 0, 1, 0, 0]) (fun ex e w => normQ ex (fun e' w' => k (Env.restr e' (lookN cfg.loops (keyOf (sub (codeOf Try.f45) [1, 1, 1, 1, 0, 1, 0, 0])))) w') Q e w) e w
def B11 (pr : Prims) (list_0 : Sl) (n_1 : Int) (out_5 : Sl) (level_6 : Sl) (k_7 : Int) (next_8 : Sl) (i_9 : Int) (w : World) (k : Env → World → Prop) (Q : Exit → Env → World → Prop) : Prop :=
  S11 pr Q k (emb11 list_0 n_1 out_5 level_6 k_7 next_8 i_9) w
def L11 (pr : Prims) (list_0 : Sl) (n_1 : Int) (out_5 : Sl) (level_6 : Sl) (k_7 : Int) (next_8 : Sl) (i_9 : Int) (w : World) (Q : Exit → Env → World → Prop) : Prop :=
  pr.loop (S11 pr Q) (emb11 list_0 n_1 out_5 level_6 k_7 next_8 i_9) w
def B6 (pr : Prims) (list_0 : Sl) (n_1 : Int) (out_5 : Sl) (level_6 : Sl) (k_7 : Int) (w : World) (k : Env → World → Prop) (Q : Exit → Env → World → Prop) : Prop :=
  S6 pr Q k (emb6 list_0 n_1 out_5 level_6 k_7) w
def L6 (pr : Prims) (list_0 : Sl) (n_1 : Int) (out_5 : Sl) (level_6 : Sl) (k_7 : Int) (w : World) (Q : Exit → Env → World → Prop) : Prop :=
  pr.loop (S6 pr Q) (emb6 list_0 n_1 out_5 level_6 k_7) w
def E (pr : Prims) (list_0 : Sl) (n_1 : Int) (w : World) (R : Ending → World → Prop) : Prop :=
  wpC pr PP cfg (DD pr) (codeOf Try.f45) (retQ Try.f45.results.toList R) (argE 0 [Sl.v list_0, vI n_1]) w
theorem B11_eq (pr : Prims) (list_0 : Sl) (n_1 : Int) (out_5 : Sl) (level_6 : Sl) (k_7 : Int) (next_8 : Sl) (i_9 : Int) (w : World) (k : Env → World → Prop) (Q : Exit → Env → World → Prop) : B11 pr list_0 n_1 out_5 level_6 k_7 next_8 i_9 w k Q = (
  bif decide (i_9 < (level_6.n : Int)) then (
  bif decide (k_7 < n_1) then (
  pr.idxK 1 level_6 i_9 fun (a21 : Addr) =>
  pr.load1 .sl a21 w fun (ξ22 : Sl) =>
  pr.call1 .sl PP F.spec_ChildrenOf #[Sl.v list_0, Sl.v ξ22] w fun (ρ23 : Sl) ω24 =>
  pr.sem1 .sl PP (Builtin.append_ #[T_SSint, T_SSint] T_SSint #[Sl.v next_8, Sl.v ρ23]) ω24 fun (ρ25 : Sl) ω26 =>
  k (emb11 list_0 n_1 out_5 level_6 k_7 ρ25 (w64 (i_9 + 1))) ω26)
  else (
  Q (.exit 2) (x2 list_0 n_1 out_5 k_7 next_8) w))
  else (
  Q (.exit 2) (x2 list_0 n_1 out_5 k_7 next_8) w)) := by kernel_rfl
theorem B11_s (list_0 : Sl) (n_1 : Int) (out_5 : Sl) (level_6 : Sl) (k_7 : Int) (next_8 : Sl) (i_9 : Int) (w : World) (k : Env → World → Prop) (Q : Exit → Env → World → Prop) : B11 std list_0 n_1 out_5 level_6 k_7 next_8 i_9 w k Q = (
  bif decide (i_9 < (level_6.n : Int)) then (
  bif decide (k_7 < n_1) then (
  idxK 1 level_6 i_9 fun (a21 : Addr) =>
  load1 .sl a21 w fun (ξ22 : Sl) =>
  call1 .sl PP F.spec_ChildrenOf #[Sl.v list_0, Sl.v ξ22] w fun (ρ23 : Sl) ω24 =>
  sem1 .sl PP (Builtin.append_ #[T_SSint, T_SSint] T_SSint #[Sl.v next_8, Sl.v ρ23]) ω24 fun (ρ25 : Sl) ω26 =>
  k (emb11 list_0 n_1 out_5 level_6 k_7 ρ25 (w64 (i_9 + 1))) ω26)
  else (
  Q (.exit 2) (x2 list_0 n_1 out_5 k_7 next_8) w))
  else (
  Q (.exit 2) (x2 list_0 n_1 out_5 k_7 next_8) w)) := B11_eq std list_0 n_1 out_5 level_6 k_7 next_8 i_9 w k Q
theorem L11_rule (list_0 : Sl) (n_1 : Int) (out_5 : Sl) (level_6 : Sl) (k_7 : Int) (next_8 : Sl) (i_9 : Int) (w : World) (Q : Exit → Env → World → Prop) (I : Sl → Int → World → Prop) (μ : Sl → Int → World → Nat) (h0 : I next_8 i_9 w)
    (h : ∀ (next_8 : Sl) (i_9 : Int) (w' : World), I next_8 i_9 w' → B11 std list_0 n_1 out_5 level_6 k_7 next_8 i_9 w' (fun e2 w2 => ∃ next_8_n i_9_n, e2 = emb11 list_0 n_1 out_5 level_6 k_7 next_8_n i_9_n ∧ I next_8_n i_9_n w2 ∧ μ next_8_n i_9_n w2 < μ next_8 i_9 w') Q) :
    L11 std list_0 n_1 out_5 level_6 k_7 next_8 i_9 w Q := by
  unfold L11
  refine LoopE.intro (σ := Sl × Int) (step := S11 std Q) (fun s => emb11 list_0 n_1 out_5 level_6 k_7 s.1 s.2) (fun s w => I s.1 s.2 w) (fun s w => μ s.1 s.2 w) (next_8, i_9) rfl h0 ?_
  intro s w' hI
  have h1 := h s.1 s.2 w' hI
  unfold B11 at h1
  simp only [Prod.exists]
  exact h1
theorem A11_2_eq (pr : Prims) (list_0 : Sl) (n_1 : Int) (out_5 : Sl) (k_7 : Int) (next_8 : Sl) (w : World) (k : Env → World → Prop) (Q : Exit → Env → World → Prop) : (q20 pr k Q) (.exit 2) (x2 list_0 n_1 out_5 k_7 next_8) w = (
  k (emb6 list_0 n_1 out_5 next_8 (w64 (k_7 + 1))) w) := by kernel_rfl
theorem A11_2_s (list_0 : Sl) (n_1 : Int) (out_5 : Sl) (k_7 : Int) (next_8 : Sl) (w : World) (k : Env → World → Prop) (Q : Exit → Env → World → Prop) : (q20 std k Q) (.exit 2) (x2 list_0 n_1 out_5 k_7 next_8) w = (
  k (emb6 list_0 n_1 out_5 next_8 (w64 (k_7 + 1))) w) := A11_2_eq std list_0 n_1 out_5 k_7 next_8 w k Q
theorem B6_eq (pr : Prims) (list_0 : Sl) (n_1 : Int) (out_5 : Sl) (level_6 : Sl) (k_7 : Int) (w : World) (k : Env → World → Prop) (Q : Exit → Env → World → Prop) : B6 pr list_0 n_1 out_5 level_6 k_7 w k Q = (
  bif decide (k_7 ≤ n_1) then (
  pr.sem1 .sl PP (Instr.buildSlice T_Sint 1 #[(0, vI (level_6.n : Int))]) w fun (ρ13 : Sl) ω14 =>
  pr.sem1 .sl PP (Builtin.append_ #[T_Sint, T_Sint] T_Sint #[Sl.v out_5, Sl.v ρ13]) ω14 fun (ρ15 : Sl) ω16 =>
  pr.sem1 .sl PP (Instr.buildSlice T_SSint 0 #[]) ω16 fun (ρ17 : Sl) ω18 =>
  L11 pr list_0 n_1 ρ15 level_6 k_7 ρ17 0 ω18 (q20 pr k Q))
  else (
  Q (.exit 0) (x0 out_5) w)) := by kernel_rfl
theorem B6_s (list_0 : Sl) (n_1 : Int) (out_5 : Sl) (level_6 : Sl) (k_7 : Int) (w : World) (k : Env → World → Prop) (Q : Exit → Env → World → Prop) : B6 std list_0 n_1 out_5 level_6 k_7 w k Q = (
  bif decide (k_7 ≤ n_1) then (
  sem1 .sl PP (Instr.buildSlice T_Sint 1 #[(0, vI (level_6.n : Int))]) w fun (ρ13 : Sl) ω14 =>
  sem1 .sl PP (Builtin.append_ #[T_Sint, T_Sint] T_Sint #[Sl.v out_5, Sl.v ρ13]) ω14 fun (ρ15 : Sl) ω16 =>
  sem1 .sl PP (Instr.buildSlice T_SSint 0 #[]) ω16 fun (ρ17 : Sl) ω18 =>
  L11 std list_0 n_1 ρ15 level_6 k_7 ρ17 0 ω18 (q20 std k Q))
  else (
  Q (.exit 0) (x0 out_5) w)) := B6_eq std list_0 n_1 out_5 level_6 k_7 w k Q
theorem L6_rule (list_0 : Sl) (n_1 : Int) (out_5 : Sl) (level_6 : Sl) (k_7 : Int) (w : World) (Q : Exit → Env → World → Prop) (I : Sl → Sl → Int → World → Prop) (μ : Sl → Sl → Int → World → Nat) (h0 : I out_5 level_6 k_7 w)
    (h : ∀ (out_5 : Sl) (level_6 : Sl) (k_7 : Int) (w' : World), I out_5 level_6 k_7 w' → B6 std list_0 n_1 out_5 level_6 k_7 w' (fun e2 w2 => ∃ out_5_n level_6_n k_7_n, e2 = emb6 list_0 n_1 out_5_n level_6_n k_7_n ∧ I out_5_n level_6_n k_7_n w2 ∧ μ out_5_n level_6_n k_7_n w2 < μ out_5 level_6 k_7 w') Q) :
    L6 std list_0 n_1 out_5 level_6 k_7 w Q := by
  unfold L6
  refine LoopE.intro (σ := Sl × Sl × Int) (step := S6 std Q) (fun s => emb6 list_0 n_1 s.1 s.2.1 s.2.2) (fun s w => I s.1 s.2.1 s.2.2 w) (fun s w => μ s.1 s.2.1 s.2.2 w) (out_5, level_6, k_7) rfl h0 ?_
  intro s w' hI
  have h1 := h s.1 s.2.1 s.2.2 w' hI
  unfold B6 at h1
  simp only [Prod.exists]
  exact h1
theorem A6_0_eq (pr : Prims) (out_5 : Sl) (w : World) (R : Ending → World → Prop) : (q10 pr R) (.exit 0) (x0 out_5) w = (
  R (.returned (Sl.v out_5)) w) := by kernel_rfl
theorem A6_0_s (out_5 : Sl) (w : World) (R : Ending → World → Prop) : (q10 std R) (.exit 0) (x0 out_5) w = (
  R (.returned (Sl.v out_5)) w) := A6_0_eq std out_5 w R
theorem E_eq (pr : Prims) (list_0 : Sl) (n_1 : Int) (w : World) (R : Ending → World → Prop) : E pr list_0 n_1 w R = (
  pr.sem1 .sl PP (Instr.buildSlice T_Sint 0 #[]) w fun (ρ0 : Sl) ω1 =>
  pr.call1 .bool PP F.spec_IsBasis #[Sl.v list_0] ω1 fun (ρ2 : Bool) ω3 =>
  bif !ρ2 then (
  R (.returned (Sl.v ρ0)) ω3)
  else (
  pr.pcall1 .bool PP F.spec_l1In #[vI n_1, vI 0, vI 6] fun (ρ4 : Bool) =>
  bif !ρ4 then (
  R (.returned (Sl.v ρ0)) ω3)
  else (
  pr.sem1 .sl PP (Instr.buildSlice T_Sint 0 #[]) ω3 fun (ρ5 : Sl) ω6 =>
  pr.sem1 .sl PP (Instr.buildSlice T_SSint 1 #[(0, Sl.v ρ5)]) ω6 fun (ρ7 : Sl) ω8 =>
  L6 pr list_0 n_1 ρ0 ρ7 0 ω8 (q10 pr R)))) := by kernel_rfl
theorem E_s (list_0 : Sl) (n_1 : Int) (w : World) (R : Ending → World → Prop) : E std list_0 n_1 w R = (
  sem1 .sl PP (Instr.buildSlice T_Sint 0 #[]) w fun (ρ0 : Sl) ω1 =>
  call1 .bool PP F.spec_IsBasis #[Sl.v list_0] ω1 fun (ρ2 : Bool) ω3 =>
  bif !ρ2 then (
  R (.returned (Sl.v ρ0)) ω3)
  else (
  pcall1 .bool PP F.spec_l1In #[vI n_1, vI 0, vI 6] fun (ρ4 : Bool) =>
  bif !ρ4 then (
  R (.returned (Sl.v ρ0)) ω3)
  else (
  sem1 .sl PP (Instr.buildSlice T_Sint 0 #[]) ω3 fun (ρ5 : Sl) ω6 =>
  sem1 .sl PP (Instr.buildSlice T_SSint 1 #[(0, Sl.v ρ5)]) ω6 fun (ρ7 : Sl) ω8 =>
  L6 std list_0 n_1 ρ0 ρ7 0 ω8 (q10 std R)))) := E_eq std list_0 n_1 w R
theorem drawsOk : drawsOk PP cfg okD (codeOf Try.f45) = true := by kernel_rfl
theorem calls (list_0 : Sl) (n_1 : Int) {w : World} {R : Ending → World → Prop} (h : E std list_0 n_1 w R) : Calls PP F.spec_LevelSizes #[Sl.v list_0, vI n_1] w R :=
  calls_of noCount mixed drawOk Try.func45 rfl (c := cfg) (args := [Sl.v list_0, vI n_1]) rfl (Nat.le_of_ble_eq_true (by kernel_rfl)) drawsOk h
end spec_LevelSizes

namespace spec_LeafCount
@[reducible] def cfg : Cfg := ⟨37, [(6, [0, 5, 6, 7])], [(1, [0, 5, 6, 7]), (0, [5])], [], [4], [], [93, 51, 18, 26, 23, 44, 60, 19, 57, 123, 109, 126, 53, 100], [61, 85, 110, 74, 127, 120]⟩
def q5 (pr : Prims) (R : Ending → World → Prop) : Exit → Env → World → Prop := fun ex e w => normQ ex (fun e w => contE pr cfg (sub (codeOf Try.f47) [1, 1, 1, 1, 1]) (fun e w => wpC pr PP cfg (DD pr) (sub (codeOf Try.f47) [1, 1, 1, 1, 1]) (retQ Try.f47.results.toList R) e w) e w) (retQ Try.f47.results.toList R) e w
def q6 (pr : Prims) (R : Ending → World → Prop) : Exit → Env → World → Prop := fun ex e w => blockQ ex 0 (q5 pr R) e w
def emb6 (list_0 : Sl) (sum_5 : Int) (all_6 : Sl) (k_7 : Int) : Env := [(0, Sl.v list_0), (5, vI sum_5), (6, Sl.v all_6), (7, vI k_7)]
def x0 (sum_5 : Int) : Env := [(5, vI sum_5)]
def S6 (pr : Prims) (Q : Exit → Env → World → Prop) : (Env → World → Prop) → Env → World → Prop := fun k e w => wpC pr PP cfg (DD pr) (sub (codeOf Try.f47) [1, 1, 1, 1, 0, 1, 0, 0]) (fun ex e w => normQ ex (fun e' w' => k (Env.restr e' (lookN cfg.loops (keyOf (sub (codeOf Try.f47) [1, 1, 1, 1, 0, 1, 0, 0])))) w') Q e w) e w
def B6 (pr : Prims) (list_0 : Sl) (sum_5 : Int) (all_6 : Sl) (k_7 : Int) (w : World) (k : Env → World → Prop) (Q : Exit → Env → World → Prop) : Prop :=
  S6 pr Q k (emb6 list_0 sum_5 all_6 k_7) w
def L6 (pr : Prims) (list_0 : Sl) (sum_5 : Int) (all_6 : Sl) (k_7 : Int) (w : World) (Q : Exit → Env → World → Prop) : Prop :=
  pr.loop (S6 pr Q) (emb6 list_0 sum_5 all_6 k_7) w
def E (pr : Prims) (list_0 : Sl) (n_1 : Int) (w : World) (R : Ending → World → Prop) : Prop :=
  wpC pr PP cfg (DD pr) (codeOf Try.f47) (retQ Try.f47.results.toList R) (argE 0 [Sl.v list_0, vI n_1]) w
theorem B6_eq (pr : Prims) (list_0 : Sl) (sum_5 : Int) (all_6 : Sl) (k_7 : Int) (w : World) (k : Env → World → Prop) (Q : Exit → Env → World → Prop) : B6 pr list_0 sum_5 all_6 k_7 w k Q = (
  bif decide (k_7 < (all_6.n : Int)) then (
  pr.idxK 1 all_6 k_7 fun (a7 : Addr) =>
  pr.load1 .sl a7 w fun (ξ8 : Sl) =>
  pr.call1 .sl PP F.spec_l14Sites #[Sl.v list_0, Sl.v ξ8] w fun (ρ9 : Sl) ω10 =>
  pr.pcall1 (.int .i64) PP F.spec_l1Bit #[.bool ((ρ9.n : Int) == 0)] fun (ρ11 : Int) =>
  k (emb6 list_0 (w64 (sum_5 + ρ11)) all_6 (w64 (k_7 + 1))) ω10)
  else (
  Q (.exit 0) (x0 sum_5) w)) := by kernel_rfl
theorem B6_s (list_0 : Sl) (sum_5 : Int) (all_6 : Sl) (k_7 : Int) (w : World) (k : Env → World → Prop) (Q : Exit → Env → World → Prop) : B6 std list_0 sum_5 all_6 k_7 w k Q = (
  bif decide (k_7 < (all_6.n : Int)) then (
  idxK 1 all_6 k_7 fun (a7 : Addr) =>
  load1 .sl a7 w fun (ξ8 : Sl) =>
  call1 .sl PP F.spec_l14Sites #[Sl.v list_0, Sl.v ξ8] w fun (ρ9 : Sl) ω10 =>
  pcall1 (.int .i64) PP F.spec_l1Bit #[.bool ((ρ9.n : Int) == 0)] fun (ρ11 : Int) =>
  k (emb6 list_0 (w64 (sum_5 + ρ11)) all_6 (w64 (k_7 + 1))) ω10)
  else (
  Q (.exit 0) (x0 sum_5) w)) := B6_eq std list_0 sum_5 all_6 k_7 w k Q
theorem L6_rule (list_0 : Sl) (sum_5 : Int) (all_6 : Sl) (k_7 : Int) (w : World) (Q : Exit → Env → World → Prop) (I : Int → Int → World → Prop) (μ : Int → Int → World → Nat) (h0 : I sum_5 k_7 w)
    (h : ∀ (sum_5 : Int) (k_7 : Int) (w' : World), I sum_5 k_7 w' → B6 std list_0 sum_5 all_6 k_7 w' (fun e2 w2 => ∃ sum_5_n k_7_n, e2 = emb6 list_0 sum_5_n all_6 k_7_n ∧ I sum_5_n k_7_n w2 ∧ μ sum_5_n k_7_n w2 < μ sum_5 k_7 w') Q) :
    L6 std list_0 sum_5 all_6 k_7 w Q := by
  unfold L6
  refine LoopE.intro (σ := Int × Int) (step := S6 std Q) (fun s => emb6 list_0 s.1 all_6 s.2) (fun s w => I s.1 s.2 w) (fun s w => μ s.1 s.2 w) (sum_5, k_7) rfl h0 ?_
  intro s w' hI
  have h1 := h s.1 s.2 w' hI
  unfold B6 at h1
  simp only [Prod.exists]
  exact h1
theorem A6_0_eq (pr : Prims) (sum_5 : Int) (w : World) (R : Ending → World → Prop) : (q6 pr R) (.exit 0) (x0 sum_5) w = (
  R (.returned (vI sum_5)) w) := by kernel_rfl
theorem A6_0_s (sum_5 : Int) (w : World) (R : Ending → World → Prop) : (q6 std R) (.exit 0) (x0 sum_5) w = (
  R (.returned (vI sum_5)) w) := A6_0_eq std sum_5 w R
theorem E_eq (pr : Prims) (list_0 : Sl) (n_1 : Int) (w : World) (R : Ending → World → Prop) : E pr list_0 n_1 w R = (
  pr.call1 .bool PP F.spec_IsBasis #[Sl.v list_0] w fun (ρ0 : Bool) ω1 =>
  bif !ρ0 then (
  R (.returned (vI (-1))) ω1)
  else (
  pr.pcall1 .bool PP F.spec_l1In #[vI n_1, vI 0, vI 6] fun (ρ2 : Bool) =>
  bif !ρ2 then (
  R (.returned (vI (-1))) ω1)
  else (
  pr.call1 .sl PP F.spec_ClassOf #[Sl.v list_0, vI n_1] ω1 fun (ρ3 : Sl) ω4 =>
  L6 pr list_0 0 ρ3 0 ω4 (q6 pr R)))) := by kernel_rfl
theorem E_s (list_0 : Sl) (n_1 : Int) (w : World) (R : Ending → World → Prop) : E std list_0 n_1 w R = (
  call1 .bool PP F.spec_IsBasis #[Sl.v list_0] w fun (ρ0 : Bool) ω1 =>
  bif !ρ0 then (
  R (.returned (vI (-1))) ω1)
  else (
  pcall1 .bool PP F.spec_l1In #[vI n_1, vI 0, vI 6] fun (ρ2 : Bool) =>
  bif !ρ2 then (
  R (.returned (vI (-1))) ω1)
  else (
  call1 .sl PP F.spec_ClassOf #[Sl.v list_0, vI n_1] ω1 fun (ρ3 : Sl) ω4 =>
  L6 std list_0 0 ρ3 0 ω4 (q6 std R)))) := E_eq std list_0 n_1 w R
theorem drawsOk : drawsOk PP cfg okD (codeOf Try.f47) = true := by kernel_rfl
theorem calls (list_0 : Sl) (n_1 : Int) {w : World} {R : Ending → World → Prop} (h : E std list_0 n_1 w R) : Calls PP F.spec_LeafCount #[Sl.v list_0, vI n_1] w R :=
  calls_of noCount mixed drawOk Try.func47 rfl (c := cfg) (args := [Sl.v list_0, vI n_1]) rfl (Nat.le_of_ble_eq_true (by kernel_rfl)) drawsOk h
end spec_LeafCount

namespace spec_LowCounts
@[reducible] def cfg : Cfg := ⟨45, [(6, [5, 6, 7])], [(1, [5, 6, 7]), (0, [5])], [], [4], [], [93, 51, 18, 26, 23, 44, 60, 19, 57, 123, 109, 126, 53, 100], [61, 85, 110, 74, 127, 120]⟩
def q11 (pr : Prims) (R : Ending → World → Prop) : Exit → Env → World → Prop := fun ex e w => normQ ex (fun e w => contE pr cfg (sub (codeOf Try.f31) [1, 1, 1, 1, 1]) (fun e w => wpC pr PP cfg (DD pr) (sub (codeOf Try.f31) [1, 1, 1, 1, 1]) (retQ Try.f31.results.toList R) e w) e w) (retQ Try.f31.results.toList R) e w
def q12 (pr : Prims) (R : Ending → World → Prop) : Exit → Env → World → Prop := fun ex e w => blockQ ex 0 (q11 pr R) e w
def emb6 (out_5 : Sl) (all_6 : Sl) (k_7 : Int) : Env := [(5, Sl.v out_5), (6, Sl.v all_6), (7, vI k_7)]
def x0 (out_5 : Sl) : Env := [(5, Sl.v out_5)]
def S6 (pr : Prims) (Q : Exit → Env → World → Prop) : (Env → World → Prop) → Env → World → Prop := fun k e w => wpC pr PP cfg (DD pr) (sub (codeOf Try.f31) [1, 1, 1, 1, 0, 1, 0, 0]) (fun ex e w => normQ ex (fun e' w' => k (Env.restr e' (lookN cfg.loops (keyOf (sub (codeOf Try.f31) [1, 1, 1, 1, 0, 1, 0, 0])))) w') Q e w) e w
def B6 (pr : Prims) (out_5 : Sl) (all_6 : Sl) (k_7 : Int) (w : World) (k : Env → World → Prop) (Q : Exit → Env → World → Prop) : Prop :=
  S6 pr Q k (emb6 out_5 all_6 k_7) w
def L6 (pr : Prims) (out_5 : Sl) (all_6 : Sl) (k_7 : Int) (w : World) (Q : Exit → Env → World → Prop) : Prop :=
  pr.loop (S6 pr Q) (emb6 out_5 all_6 k_7) w
def E (pr : Prims) (list_0 : Sl) (n_1 : Int) (w : World) (R : Ending → World → Prop) : Prop :=
  wpC pr PP cfg (DD pr) (codeOf Try.f31) (retQ Try.f31.results.toList R) (argE 0 [Sl.v list_0, vI n_1]) w
theorem B6_eq (pr : Prims) (out_5 : Sl) (all_6 : Sl) (k_7 : Int) (w : World) (k : Env → World → Prop) (Q : Exit → Env → World → Prop) : B6 pr out_5 all_6 k_7 w k Q = (
  bif decide (k_7 < (all_6.n : Int)) then (
  pr.idxK 1 all_6 k_7 fun (a13 : Addr) =>
  pr.load1 .sl a13 w fun (ξ14 : Sl) =>
  pr.call1 .sl PP F.spec_LowsOf #[Sl.v ξ14] w fun (ρ15 : Sl) ω16 =>
  pr.idxK 1 out_5 (ρ15.n : Int) fun (a17 : Addr) =>
  pr.load1 (.int .i64) a17 ω16 fun (ξ18 : Int) =>
  pr.idxK 1 out_5 (ρ15.n : Int) fun (a19 : Addr) =>
  pr.storeC a19 (vI (w64 (ξ18 + 1))) ω16 fun ω20 =>
  k (emb6 out_5 all_6 (w64 (k_7 + 1))) ω20)
  else (
  Q (.exit 0) (x0 out_5) w)) := by kernel_rfl
theorem B6_s (out_5 : Sl) (all_6 : Sl) (k_7 : Int) (w : World) (k : Env → World → Prop) (Q : Exit → Env → World → Prop) : B6 std out_5 all_6 k_7 w k Q = (
  bif decide (k_7 < (all_6.n : Int)) then (
  idxK 1 all_6 k_7 fun (a13 : Addr) =>
  load1 .sl a13 w fun (ξ14 : Sl) =>
  call1 .sl PP F.spec_LowsOf #[Sl.v ξ14] w fun (ρ15 : Sl) ω16 =>
  idxK 1 out_5 (ρ15.n : Int) fun (a17 : Addr) =>
  load1 (.int .i64) a17 ω16 fun (ξ18 : Int) =>
  idxK 1 out_5 (ρ15.n : Int) fun (a19 : Addr) =>
  storeC a19 (vI (w64 (ξ18 + 1))) ω16 fun ω20 =>
  k (emb6 out_5 all_6 (w64 (k_7 + 1))) ω20)
  else (
  Q (.exit 0) (x0 out_5) w)) := B6_eq std out_5 all_6 k_7 w k Q
theorem L6_rule (out_5 : Sl) (all_6 : Sl) (k_7 : Int) (w : World) (Q : Exit → Env → World → Prop) (I : Int → World → Prop) (μ : Int → World → Nat) (h0 : I k_7 w)
    (h : ∀ (k_7 : Int) (w' : World), I k_7 w' → B6 std out_5 all_6 k_7 w' (fun e2 w2 => ∃ k_7_n, e2 = emb6 out_5 all_6 k_7_n ∧ I k_7_n w2 ∧ μ k_7_n w2 < μ k_7 w') Q) :
    L6 std out_5 all_6 k_7 w Q := by
  unfold L6
  refine LoopE.intro (σ := Int) (step := S6 std Q) (fun s => emb6 out_5 all_6 s) (fun s w => I s w) (fun s w => μ s w) k_7 rfl h0 ?_
  intro s w' hI
  have h1 := h s w' hI
  unfold B6 at h1
  exact h1
theorem A6_0_eq (pr : Prims) (out_5 : Sl) (w : World) (R : Ending → World → Prop) : (q12 pr R) (.exit 0) (x0 out_5) w = (
  R (.returned (Sl.v out_5)) w) := by kernel_rfl
theorem A6_0_s (out_5 : Sl) (w : World) (R : Ending → World → Prop) : (q12 std R) (.exit 0) (x0 out_5) w = (
  R (.returned (Sl.v out_5)) w) := A6_0_eq std out_5 w R
theorem E_eq (pr : Prims) (list_0 : Sl) (n_1 : Int) (w : World) (R : Ending → World → Prop) : E pr list_0 n_1 w R = (
  pr.call1 .bool PP F.spec_IsBasis #[Sl.v list_0] w fun (ρ0 : Bool) ω1 =>
  bif !ρ0 then (
  pr.sem1 .sl PP (Instr.buildSlice T_Sint 0 #[]) ω1 fun (ρ2 : Sl) ω3 =>
  R (.returned (Sl.v ρ2)) ω3)
  else (
  pr.pcall1 .bool PP F.spec_l1In #[vI n_1, vI 0, vI 6] fun (ρ4 : Bool) =>
  bif !ρ4 then (
  pr.sem1 .sl PP (Instr.buildSlice T_Sint 0 #[]) ω1 fun (ρ5 : Sl) ω6 =>
  R (.returned (Sl.v ρ5)) ω6)
  else (
  pr.sem1 .sl PP (Instr.makeSlice T_Sint (vI (w64 (n_1 + 1))) (vI (w64 (n_1 + 1)))) ω1 fun (ρ7 : Sl) ω8 =>
  pr.call1 .sl PP F.spec_ClassOf #[Sl.v list_0, vI n_1] ω8 fun (ρ9 : Sl) ω10 =>
  L6 pr ρ7 ρ9 0 ω10 (q12 pr R)))) := by kernel_rfl
theorem E_s (list_0 : Sl) (n_1 : Int) (w : World) (R : Ending → World → Prop) : E std list_0 n_1 w R = (
  call1 .bool PP F.spec_IsBasis #[Sl.v list_0] w fun (ρ0 : Bool) ω1 =>
  bif !ρ0 then (
  sem1 .sl PP (Instr.buildSlice T_Sint 0 #[]) ω1 fun (ρ2 : Sl) ω3 =>
  R (.returned (Sl.v ρ2)) ω3)
  else (
  pcall1 .bool PP F.spec_l1In #[vI n_1, vI 0, vI 6] fun (ρ4 : Bool) =>
  bif !ρ4 then (
  sem1 .sl PP (Instr.buildSlice T_Sint 0 #[]) ω1 fun (ρ5 : Sl) ω6 =>
  R (.returned (Sl.v ρ5)) ω6)
  else (
  sem1 .sl PP (Instr.makeSlice T_Sint (vI (w64 (n_1 + 1))) (vI (w64 (n_1 + 1)))) ω1 fun (ρ7 : Sl) ω8 =>
  call1 .sl PP F.spec_ClassOf #[Sl.v list_0, vI n_1] ω8 fun (ρ9 : Sl) ω10 =>
  L6 std ρ7 ρ9 0 ω10 (q12 std R)))) := E_eq std list_0 n_1 w R
theorem drawsOk : drawsOk PP cfg okD (codeOf Try.f31) = true := by kernel_rfl
theorem calls (list_0 : Sl) (n_1 : Int) {w : World} {R : Ending → World → Prop} (h : E std list_0 n_1 w R) : Calls PP F.spec_LowCounts #[Sl.v list_0, vI n_1] w R :=
  calls_of noCount mixed drawOk Try.func31 rfl (c := cfg) (args := [Sl.v list_0, vI n_1]) rfl (Nat.le_of_ble_eq_true (by kernel_rfl)) drawsOk h
end spec_LowCounts

namespace impl_hasSites
@[reducible] def cfg : Cfg := ⟨13, [], [], [], [4], [], [93, 51, 18, 26, 23, 44, 60, 19, 57, 123, 109, 126, 53, 100], [61, 85, 110, 74, 127, 120]⟩
def E (pr : Prims) (list_0 : Sl) (p_1 : Sl) (w : World) (R : Ending → World → Prop) : Prop :=
  wpC pr PP cfg (DD pr) (codeOf Try.f78) (retQ Try.f78.results.toList R) (argE 0 [Sl.v list_0, Sl.v p_1]) w
theorem E_eq (pr : Prims) (list_0 : Sl) (p_1 : Sl) (w : World) (R : Ending → World → Prop) : E pr list_0 p_1 w R = (
  pr.call1 .bool PP F.impl_InClass #[Sl.v list_0, Sl.v p_1] w fun (ρ0 : Bool) ω1 =>
  bif ρ0 then (
  R (.returned (.bool (decide ((p_1.n : Int) < 8)))) ω1)
  else (
  R (.returned (.bool false)) ω1)) := by kernel_rfl
theorem E_s (list_0 : Sl) (p_1 : Sl) (w : World) (R : Ending → World → Prop) : E std list_0 p_1 w R = (
  call1 .bool PP F.impl_InClass #[Sl.v list_0, Sl.v p_1] w fun (ρ0 : Bool) ω1 =>
  bif ρ0 then (
  R (.returned (.bool (decide ((p_1.n : Int) < 8)))) ω1)
  else (
  R (.returned (.bool false)) ω1)) := E_eq std list_0 p_1 w R
theorem drawsOk : drawsOk PP cfg okD (codeOf Try.f78) = true := by kernel_rfl
theorem calls (list_0 : Sl) (p_1 : Sl) {w : World} {R : Ending → World → Prop} (h : E std list_0 p_1 w R) : Calls PP F.impl_hasSites #[Sl.v list_0, Sl.v p_1] w R :=
  calls_of noCount mixed drawOk Try.func78 rfl (c := cfg) (args := [Sl.v list_0, Sl.v p_1]) rfl (Nat.le_of_ble_eq_true (by kernel_rfl)) drawsOk h
end impl_hasSites

namespace impl_active
@[reducible] def cfg : Cfg := ⟨25, [(3, [0, 1, 5, 10, 11])], [(1, [0, 1, 5, 10, 11]), (0, [5])], [], [4], [], [93, 51, 18, 26, 23, 44, 60, 19, 57, 123, 109, 126, 53, 100], [61, 85, 110, 74, 127, 120]⟩
def q2 (pr : Prims) (R : Ending → World → Prop) : Exit → Env → World → Prop := fun ex e w => normQ ex (fun e w => contE pr cfg (sub (codeOf Try.f79) [1, 1, 1]) (fun e w => wpC pr PP cfg (DD pr) (sub (codeOf Try.f79) [1, 1, 1]) (retQ Try.f79.results.toList R) e w) e w) (retQ Try.f79.results.toList R) e w
def q3 (pr : Prims) (R : Ending → World → Prop) : Exit → Env → World → Prop := fun ex e w => blockQ ex 0 (q2 pr R) e w
def emb3 (list_0 : Sl) (p_1 : Sl) (out_5 : Sl) (t10 : Int) (t11 : Int) : Env := [(0, Sl.v list_0), (1, Sl.v p_1), (5, Sl.v out_5), (10, vI t10), (11, vI t11)]
def x0 (out_5 : Sl) : Env := [(5, Sl.v out_5)]
def S3 (pr : Prims) (Q : Exit → Env → World → Prop) : (Env → World → Prop) → Env → World → Prop := fun k e w => wpC pr PP cfg (DD pr) (sub (codeOf Try.f79) [1, 1, 0, 1, 0, 0]) (fun ex e w => normQ ex (fun e' w' => k (Env.restr e' (lookN cfg.loops (keyOf (sub (codeOf Try.f79) [1, 1, 0, 1, 0, 0])))) w') Q e w) e w
def B3 (pr : Prims) (list_0 : Sl) (p_1 : Sl) (out_5 : Sl) (t10 : Int) (t11 : Int) (w : World) (k : Env → World → Prop) (Q : Exit → Env → World → Prop) : Prop :=
  S3 pr Q k (emb3 list_0 p_1 out_5 t10 t11) w
def L3 (pr : Prims) (list_0 : Sl) (p_1 : Sl) (out_5 : Sl) (t10 : Int) (t11 : Int) (w : World) (Q : Exit → Env → World → Prop) : Prop :=
  pr.loop (S3 pr Q) (emb3 list_0 p_1 out_5 t10 t11) w
def E (pr : Prims) (list_0 : Sl) (p_1 : Sl) (w : World) (R : Ending → World → Prop) : Prop :=
  wpC pr PP cfg (DD pr) (codeOf Try.f79) (retQ Try.f79.results.toList R) (argE 0 [Sl.v list_0, Sl.v p_1]) w
theorem B3_eq (pr : Prims) (list_0 : Sl) (p_1 : Sl) (out_5 : Sl) (t10 : Int) (t11 : Int) (w : World) (k : Env → World → Prop) (Q : Exit → Env → World → Prop) : B3 pr list_0 p_1 out_5 t10 t11 w k Q = (
  bif decide (t11 < t10) then (
  pr.call1 .sl PP F.impl_child #[Sl.v p_1, vI t11] w fun (ρ4 : Sl) ω5 =>
  pr.call1 .bool PP F.impl_avoids #[Sl.v list_0, Sl.v ρ4] ω5 fun (ρ6 : Bool) ω7 =>
  bif ρ6 then (
  pr.sem1 .sl PP (Instr.buildSlice T_Sint 1 #[(0, vI t11)]) ω7 fun (ρ8 : Sl) ω9 =>
  pr.sem1 .sl PP (Builtin.append_ #[T_Sint, T_Sint] T_Sint #[Sl.v out_5, Sl.v ρ8]) ω9 fun (ρ10 : Sl) ω11 =>
  k (emb3 list_0 p_1 ρ10 t10 (w64 (t11 + 1))) ω11)
  else (
  k (emb3 list_0 p_1 out_5 t10 (w64 (t11 + 1))) ω7))
  else (
  Q (.exit 0) (x0 out_5) w)) := by kernel_rfl
theorem B3_s (list_0 : Sl) (p_1 : Sl) (out_5 : Sl) (t10 : Int) (t11 : Int) (w : World) (k : Env → World → Prop) (Q : Exit → Env → World → Prop) : B3 std list_0 p_1 out_5 t10 t11 w k Q = (
  bif decide (t11 < t10) then (
  call1 .sl PP F.impl_child #[Sl.v p_1, vI t11] w fun (ρ4 : Sl) ω5 =>
  call1 .bool PP F.impl_avoids #[Sl.v list_0, Sl.v ρ4] ω5 fun (ρ6 : Bool) ω7 =>
  bif ρ6 then (
  sem1 .sl PP (Instr.buildSlice T_Sint 1 #[(0, vI t11)]) ω7 fun (ρ8 : Sl) ω9 =>
  sem1 .sl PP (Builtin.append_ #[T_Sint, T_Sint] T_Sint #[Sl.v out_5, Sl.v ρ8]) ω9 fun (ρ10 : Sl) ω11 =>
  k (emb3 list_0 p_1 ρ10 t10 (w64 (t11 + 1))) ω11)
  else (
  k (emb3 list_0 p_1 out_5 t10 (w64 (t11 + 1))) ω7))
  else (
  Q (.exit 0) (x0 out_5) w)) := B3_eq std list_0 p_1 out_5 t10 t11 w k Q
theorem L3_rule (list_0 : Sl) (p_1 : Sl) (out_5 : Sl) (t10 : Int) (t11 : Int) (w : World) (Q : Exit → Env → World → Prop) (I : Sl → Int → World → Prop) (μ : Sl → Int → World → Nat) (h0 : I out_5 t11 w)
    (h : ∀ (out_5 : Sl) (t11 : Int) (w' : World), I out_5 t11 w' → B3 std list_0 p_1 out_5 t10 t11 w' (fun e2 w2 => ∃ out_5_n t11_n, e2 = emb3 list_0 p_1 out_5_n t10 t11_n ∧ I out_5_n t11_n w2 ∧ μ out_5_n t11_n w2 < μ out_5 t11 w') Q) :
    L3 std list_0 p_1 out_5 t10 t11 w Q := by
  unfold L3
  refine LoopE.intro (σ := Sl × Int) (step := S3 std Q) (fun s => emb3 list_0 p_1 s.1 t10 s.2) (fun s w => I s.1 s.2 w) (fun s w => μ s.1 s.2 w) (out_5, t11) rfl h0 ?_
  intro s w' hI
  have h1 := h s.1 s.2 w' hI
  unfold B3 at h1
  simp only [Prod.exists]
  exact h1
theorem A3_0_eq (pr : Prims) (out_5 : Sl) (w : World) (R : Ending → World → Prop) : (q3 pr R) (.exit 0) (x0 out_5) w = (
  R (.returned (Sl.v out_5)) w) := by kernel_rfl
theorem A3_0_s (out_5 : Sl) (w : World) (R : Ending → World → Prop) : (q3 std R) (.exit 0) (x0 out_5) w = (
  R (.returned (Sl.v out_5)) w) := A3_0_eq std out_5 w R
theorem E_eq (pr : Prims) (list_0 : Sl) (p_1 : Sl) (w : World) (R : Ending → World → Prop) : E pr list_0 p_1 w R = (
  pr.sem1 .sl PP (Instr.buildSlice T_Sint 0 #[]) w fun (ρ0 : Sl) ω1 =>
  L3 pr list_0 p_1 ρ0 (w64 ((p_1.n : Int) + 1)) 0 ω1 (q3 pr R)) := by kernel_rfl
theorem E_s (list_0 : Sl) (p_1 : Sl) (w : World) (R : Ending → World → Prop) : E std list_0 p_1 w R = (
  sem1 .sl PP (Instr.buildSlice T_Sint 0 #[]) w fun (ρ0 : Sl) ω1 =>
  L3 std list_0 p_1 ρ0 (w64 ((p_1.n : Int) + 1)) 0 ω1 (q3 std R)) := E_eq std list_0 p_1 w R
theorem drawsOk : drawsOk PP cfg okD (codeOf Try.f79) = true := by kernel_rfl
theorem calls (list_0 : Sl) (p_1 : Sl) {w : World} {R : Ending → World → Prop} (h : E std list_0 p_1 w R) : Calls PP F.impl_active #[Sl.v list_0, Sl.v p_1] w R :=
  calls_of noCount mixed drawOk Try.func79 rfl (c := cfg) (args := [Sl.v list_0, Sl.v p_1]) rfl (Nat.le_of_ble_eq_true (by kernel_rfl)) drawsOk h
end impl_active

namespace impl_ActiveSites
@[reducible] def cfg : Cfg := ⟨12, [], [], [], [4], [], [93, 51, 18, 26, 23, 44, 60, 19, 57, 123, 109, 126, 53, 100], [61, 85, 110, 74, 127, 120]⟩
def E (pr : Prims) (list_0 : Sl) (p_1 : Sl) (w : World) (R : Ending → World → Prop) : Prop :=
  wpC pr PP cfg (DD pr) (codeOf Try.f36) (retQ Try.f36.results.toList R) (argE 0 [Sl.v list_0, Sl.v p_1]) w
theorem E_eq (pr : Prims) (list_0 : Sl) (p_1 : Sl) (w : World) (R : Ending → World → Prop) : E pr list_0 p_1 w R = (
  pr.call1 .bool PP F.impl_hasSites #[Sl.v list_0, Sl.v p_1] w fun (ρ0 : Bool) ω1 =>
  bif !ρ0 then (
  R (.returned (Sl.v Sl.nil)) ω1)
  else (
  pr.call1 .sl PP F.impl_active #[Sl.v list_0, Sl.v p_1] ω1 fun (ρ2 : Sl) ω3 =>
  R (.returned (Sl.v ρ2)) ω3)) := by kernel_rfl
theorem E_s (list_0 : Sl) (p_1 : Sl) (w : World) (R : Ending → World → Prop) : E std list_0 p_1 w R = (
  call1 .bool PP F.impl_hasSites #[Sl.v list_0, Sl.v p_1] w fun (ρ0 : Bool) ω1 =>
  bif !ρ0 then (
  R (.returned (Sl.v Sl.nil)) ω1)
  else (
  call1 .sl PP F.impl_active #[Sl.v list_0, Sl.v p_1] ω1 fun (ρ2 : Sl) ω3 =>
  R (.returned (Sl.v ρ2)) ω3)) := E_eq std list_0 p_1 w R
theorem drawsOk : drawsOk PP cfg okD (codeOf Try.f36) = true := by kernel_rfl
theorem calls (list_0 : Sl) (p_1 : Sl) {w : World} {R : Ending → World → Prop} (h : E std list_0 p_1 w R) : Calls PP F.impl_ActiveSites #[Sl.v list_0, Sl.v p_1] w R :=
  calls_of noCount mixed drawOk Try.func36 rfl (c := cfg) (args := [Sl.v list_0, Sl.v p_1]) rfl (Nat.le_of_ble_eq_true (by kernel_rfl)) drawsOk h
end impl_ActiveSites

namespace impl_children
@[reducible] def cfg : Cfg := ⟨25, [(3, [1, 5, 11, 12, 13])], [(1, [1, 5, 11, 12, 13]), (0, [5])], [], [4], [], [93, 51, 18, 26, 23, 44, 60, 19, 57, 123, 109, 126, 53, 100], [61, 85, 110, 74, 127, 120]⟩
def q2 (pr : Prims) (R : Ending → World → Prop) : Exit → Env → World → Prop := fun ex e w => normQ ex (fun e w => contE pr cfg (sub (codeOf Try.f83) [1, 1, 1]) (fun e w => wpC pr PP cfg (DD pr) (sub (codeOf Try.f83) [1, 1, 1]) (retQ Try.f83.results.toList R) e w) e w) (retQ Try.f83.results.toList R) e w
def q5 (pr : Prims) (R : Ending → World → Prop) : Exit → Env → World → Prop := fun ex e w => blockQ ex 0 (q2 pr R) e w
def emb3 (p_1 : Sl) (out_5 : Sl) (t11 : Sl) (t12 : Int) (t13 : Int) : Env := [(1, Sl.v p_1), (5, Sl.v out_5), (11, Sl.v t11), (12, vI t12), (13, vI t13)]
def x0 (out_5 : Sl) : Env := [(5, Sl.v out_5)]
def S3 (pr : Prims) (Q : Exit → Env → World → Prop) : (Env → World → Prop) → Env → World → Prop := fun k e w => wpC pr PP cfg (DD pr) (sub (codeOf Try.f83) [1, 1, 0, 1, 0, 0]) (fun ex e w => normQ ex (fun e' w' => k (Env.restr e' (lookN cfg.loops (keyOf (sub (codeOf Try.f83) [1, 1, 0, 1, 0, 0])))) w') Q e w) e w
def B3 (pr : Prims) (p_1 : Sl) (out_5 : Sl) (t11 : Sl) (t12 : Int) (t13 : Int) (w : World) (k : Env → World → Prop) (Q : Exit → Env → World → Prop) : Prop :=
  S3 pr Q k (emb3 p_1 out_5 t11 t12 t13) w
def L3 (pr : Prims) (p_1 : Sl) (out_5 : Sl) (t11 : Sl) (t12 : Int) (t13 : Int) (w : World) (Q : Exit → Env → World → Prop) : Prop :=
  pr.loop (S3 pr Q) (emb3 p_1 out_5 t11 t12 t13) w
def E (pr : Prims) (list_0 : Sl) (p_1 : Sl) (w : World) (R : Ending → World → Prop) : Prop :=
  wpC pr PP cfg (DD pr) (codeOf Try.f83) (retQ Try.f83.results.toList R) (argE 0 [Sl.v list_0, Sl.v p_1]) w
theorem B3_eq (pr : Prims) (p_1 : Sl) (out_5 : Sl) (t11 : Sl) (t12 : Int) (t13 : Int) (w : World) (k : Env → World → Prop) (Q : Exit → Env → World → Prop) : B3 pr p_1 out_5 t11 t12 t13 w k Q = (
  bif decide (t13 < t12) then (
  pr.idxK 1 t11 t13 fun (a6 : Addr) =>
  pr.load1 (.int .i64) a6 w fun (ξ7 : Int) =>
  pr.call1 .sl PP F.impl_child #[Sl.v p_1, vI ξ7] w fun (ρ8 : Sl) ω9 =>
  pr.sem1 .sl PP (Instr.buildSlice T_SSint 1 #[(0, Sl.v ρ8)]) ω9 fun (ρ10 : Sl) ω11 =>
  pr.sem1 .sl PP (Builtin.append_ #[T_SSint, T_SSint] T_SSint #[Sl.v out_5, Sl.v ρ10]) ω11 fun (ρ12 : Sl) ω13 =>
  k (emb3 p_1 ρ12 t11 t12 (w64 (t13 + 1))) ω13)
  else (
  Q (.exit 0) (x0 out_5) w)) := by kernel_rfl
theorem B3_s (p_1 : Sl) (out_5 : Sl) (t11 : Sl) (t12 : Int) (t13 : Int) (w : World) (k : Env → World → Prop) (Q : Exit → Env → World → Prop) : B3 std p_1 out_5 t11 t12 t13 w k Q = (
  bif decide (t13 < t12) then (
  idxK 1 t11 t13 fun (a6 : Addr) =>
  load1 (.int .i64) a6 w fun (ξ7 : Int) =>
  call1 .sl PP F.impl_child #[Sl.v p_1, vI ξ7] w fun (ρ8 : Sl) ω9 =>
  sem1 .sl PP (Instr.buildSlice T_SSint 1 #[(0, Sl.v ρ8)]) ω9 fun (ρ10 : Sl) ω11 =>
  sem1 .sl PP (Builtin.append_ #[T_SSint, T_SSint] T_SSint #[Sl.v out_5, Sl.v ρ10]) ω11 fun (ρ12 : Sl) ω13 =>
  k (emb3 p_1 ρ12 t11 t12 (w64 (t13 + 1))) ω13)
  else (
  Q (.exit 0) (x0 out_5) w)) := B3_eq std p_1 out_5 t11 t12 t13 w k Q
theorem L3_rule (p_1 : Sl) (out_5 : Sl) (t11 : Sl) (t12 : Int) (t13 : Int) (w : World) (Q : Exit → Env → World → Prop) (I : Sl → Int → World → Prop) (μ : Sl → Int → World → Nat) (h0 : I out_5 t13 w)
    (h : ∀ (out_5 : Sl) (t13 : Int) (w' : World), I out_5 t13 w' → B3 std p_1 out_5 t11 t12 t13 w' (fun e2 w2 => ∃ out_5_n t13_n, e2 = emb3 p_1 out_5_n t11 t12 t13_n ∧ I out_5_n t13_n w2 ∧ μ out_5_n t13_n w2 < μ out_5 t13 w') Q) :
    L3 std p_1 out_5 t11 t12 t13 w Q := by
  unfold L3
  refine LoopE.intro (σ := Sl × Int) (step := S3 std Q) (fun s => emb3 p_1 s.1 t11 t12 s.2) (fun s w => I s.1 s.2 w) (fun s w => μ s.1 s.2 w) (out_5, t13) rfl h0 ?_
  intro s w' hI
  have h1 := h s.1 s.2 w' hI
  unfold B3 at h1
  simp only [Prod.exists]
  exact h1
theorem A3_0_eq (pr : Prims) (out_5 : Sl) (w : World) (R : Ending → World → Prop) : (q5 pr R) (.exit 0) (x0 out_5) w = (
  R (.returned (Sl.v out_5)) w) := by kernel_rfl
theorem A3_0_s (out_5 : Sl) (w : World) (R : Ending → World → Prop) : (q5 std R) (.exit 0) (x0 out_5) w = (
  R (.returned (Sl.v out_5)) w) := A3_0_eq std out_5 w R
theorem E_eq (pr : Prims) (list_0 : Sl) (p_1 : Sl) (w : World) (R : Ending → World → Prop) : E pr list_0 p_1 w R = (
  pr.sem1 .sl PP (Instr.buildSlice T_SSint 0 #[]) w fun (ρ0 : Sl) ω1 =>
  pr.call1 .sl PP F.impl_active #[Sl.v list_0, Sl.v p_1] ω1 fun (ρ3 : Sl) ω4 =>
  L3 pr p_1 ρ0 ρ3 (ρ3.n : Int) 0 ω4 (q5 pr R)) := by kernel_rfl
theorem E_s (list_0 : Sl) (p_1 : Sl) (w : World) (R : Ending → World → Prop) : E std list_0 p_1 w R = (
  sem1 .sl PP (Instr.buildSlice T_SSint 0 #[]) w fun (ρ0 : Sl) ω1 =>
  call1 .sl PP F.impl_active #[Sl.v list_0, Sl.v p_1] ω1 fun (ρ3 : Sl) ω4 =>
  L3 std p_1 ρ0 ρ3 (ρ3.n : Int) 0 ω4 (q5 std R)) := E_eq std list_0 p_1 w R
theorem drawsOk : drawsOk PP cfg okD (codeOf Try.f83) = true := by kernel_rfl
theorem calls (list_0 : Sl) (p_1 : Sl) {w : World} {R : Ending → World → Prop} (h : E std list_0 p_1 w R) : Calls PP F.impl_children #[Sl.v list_0, Sl.v p_1] w R :=
  calls_of noCount mixed drawOk Try.func83 rfl (c := cfg) (args := [Sl.v list_0, Sl.v p_1]) rfl (Nat.le_of_ble_eq_true (by kernel_rfl)) drawsOk h
end impl_children

namespace impl_ChildrenOf
@[reducible] def cfg : Cfg := ⟨12, [], [], [], [4], [], [93, 51, 18, 26, 23, 44, 60, 19, 57, 123, 109, 126, 53, 100], [61, 85, 110, 74, 127, 120]⟩
def E (pr : Prims) (list_0 : Sl) (p_1 : Sl) (w : World) (R : Ending → World → Prop) : Prop :=
  wpC pr PP cfg (DD pr) (codeOf Try.f43) (retQ Try.f43.results.toList R) (argE 0 [Sl.v list_0, Sl.v p_1]) w
theorem E_eq (pr : Prims) (list_0 : Sl) (p_1 : Sl) (w : World) (R : Ending → World → Prop) : E pr list_0 p_1 w R = (
  pr.call1 .bool PP F.impl_hasSites #[Sl.v list_0, Sl.v p_1] w fun (ρ0 : Bool) ω1 =>
  bif !ρ0 then (
  R (.returned (Sl.v Sl.nil)) ω1)
  else (
  pr.call1 .sl PP F.impl_children #[Sl.v list_0, Sl.v p_1] ω1 fun (ρ2 : Sl) ω3 =>
  R (.returned (Sl.v ρ2)) ω3)) := by kernel_rfl
theorem E_s (list_0 : Sl) (p_1 : Sl) (w : World) (R : Ending → World → Prop) : E std list_0 p_1 w R = (
  call1 .bool PP F.impl_hasSites #[Sl.v list_0, Sl.v p_1] w fun (ρ0 : Bool) ω1 =>
  bif !ρ0 then (
  R (.returned (Sl.v Sl.nil)) ω1)
  else (
  call1 .sl PP F.impl_children #[Sl.v list_0, Sl.v p_1] ω1 fun (ρ2 : Sl) ω3 =>
  R (.returned (Sl.v ρ2)) ω3)) := E_eq std list_0 p_1 w R
theorem drawsOk : drawsOk PP cfg okD (codeOf Try.f43) = true := by kernel_rfl
theorem calls (list_0 : Sl) (p_1 : Sl) {w : World} {R : Ending → World → Prop} (h : E std list_0 p_1 w R) : Calls PP F.impl_ChildrenOf #[Sl.v list_0, Sl.v p_1] w R :=
  calls_of noCount mixed drawOk Try.func43 rfl (c := cfg) (args := [Sl.v list_0, Sl.v p_1]) rfl (Nat.le_of_ble_eq_true (by kernel_rfl)) drawsOk h
end impl_ChildrenOf

namespace impl_LabelOf
@[reducible] def cfg : Cfg := ⟨13, [], [], [], [4], [], [93, 51, 18, 26, 23, 44, 60, 19, 57, 123, 109, 126, 53, 100], [61, 85, 110, 74, 127, 120]⟩
def E (pr : Prims) (list_0 : Sl) (p_1 : Sl) (w : World) (R : Ending → World → Prop) : Prop :=
  wpC pr PP cfg (DD pr) (codeOf Try.f34) (retQ Try.f34.results.toList R) (argE 0 [Sl.v list_0, Sl.v p_1]) w
theorem E_eq (pr : Prims) (list_0 : Sl) (p_1 : Sl) (w : World) (R : Ending → World → Prop) : E pr list_0 p_1 w R = (
  pr.call1 .bool PP F.impl_hasSites #[Sl.v list_0, Sl.v p_1] w fun (ρ0 : Bool) ω1 =>
  bif !ρ0 then (
  R (.returned (vI (-1))) ω1)
  else (
  pr.call1 .sl PP F.impl_active #[Sl.v list_0, Sl.v p_1] ω1 fun (ρ2 : Sl) ω3 =>
  R (.returned (vI (ρ2.n : Int))) ω3)) := by kernel_rfl
theorem E_s (list_0 : Sl) (p_1 : Sl) (w : World) (R : Ending → World → Prop) : E std list_0 p_1 w R = (
  call1 .bool PP F.impl_hasSites #[Sl.v list_0, Sl.v p_1] w fun (ρ0 : Bool) ω1 =>
  bif !ρ0 then (
  R (.returned (vI (-1))) ω1)
  else (
  call1 .sl PP F.impl_active #[Sl.v list_0, Sl.v p_1] ω1 fun (ρ2 : Sl) ω3 =>
  R (.returned (vI (ρ2.n : Int))) ω3)) := E_eq std list_0 p_1 w R
theorem drawsOk : drawsOk PP cfg okD (codeOf Try.f34) = true := by kernel_rfl
theorem calls (list_0 : Sl) (p_1 : Sl) {w : World} {R : Ending → World → Prop} (h : E std list_0 p_1 w R) : Calls PP F.impl_LabelOf #[Sl.v list_0, Sl.v p_1] w R :=
  calls_of noCount mixed drawOk Try.func34 rfl (c := cfg) (args := [Sl.v list_0, Sl.v p_1]) rfl (Nat.le_of_ble_eq_true (by kernel_rfl)) drawsOk h
end impl_LabelOf

namespace impl_levels
@[reducible] def cfg : Cfg := ⟨43, [(9, [0, 6, 7, 20, 21, 24, 25, 26]), (6, [0, 5, 6, 20, 21])], [(3, [0, 6, 7, 20, 21, 24, 25, 26]), (2, [0, 6, 7, 20, 21]), (1, [0, 5, 6, 20, 21]), (0, [6])], [(4, [0, 1, 5])], [4], [], [93, 51, 18, 26, 23, 44, 60, 19, 57, 123, 109, 126, 53, 100], [61, 85, 110, 74, 127, 120]⟩
def q2 (pr : Prims) (R : Ending → World → Prop) : Exit → Env → World → Prop := fun ex e w => normQ ex (fun e w => contE pr cfg (sub (codeOf Try.f84) [1, 1, 1]) (fun e w => wpC pr PP cfg (DD pr) (sub (codeOf Try.f84) [1, 1, 1]) (retQ Try.f84.results.toList R) e w) e w) (retQ Try.f84.results.toList R) e w
def q15 (pr : Prims) (R : Ending → World → Prop) : Exit → Env → World → Prop := fun ex e w => normQ ex (fun e w => contE pr cfg (sub (codeOf Try.f84) [1, 1, 1, 1, 1]) (fun e w => wpC pr PP cfg (DD pr) (sub (codeOf Try.f84) [1, 1, 1, 1, 1]) (retQ Try.f84.results.toList R) e w) e w) (retQ Try.f84.results.toList R) e w
def q16 (pr : Prims) (R : Ending → World → Prop) : Exit → Env → World → Prop := fun ex e w => blockQ ex 0 (q15 pr R) e w
def q17 (pr : Prims) (k : Env → World → Prop) (Q : Exit → Env → World → Prop) : Exit → Env → World → Prop := fun ex e w => normQ ex (fun e w => contE pr cfg (sub (codeOf Try.f84) [1, 1, 1, 1, 0, 1, 0, 0, 1, 1, 1]) (fun e w => wpC pr PP cfg (DD pr) (sub (codeOf Try.f84) [1, 1, 1, 1, 0, 1, 0, 0, 1, 1, 1]) (fun ex e w => normQ ex (fun e' w' => k (Env.restr e' (lookN cfg.loops (keyOf (sub (codeOf Try.f84) [1, 1, 1, 1, 0, 1, 0, 0])))) w') Q e w) e w) e w) (fun ex e w => normQ ex (fun e' w' => k (Env.restr e' (lookN cfg.loops (keyOf (sub (codeOf Try.f84) [1, 1, 1, 1, 0, 1, 0, 0])))) w') Q e w) e w
def q18 (pr : Prims) (k : Env → World → Prop) (Q : Exit → Env → World → Prop) : Exit → Env → World → Prop := fun ex e w => blockQ ex 1 (q17 pr k Q) e w
def q21 (pr : Prims) (k : Env → World → Prop) (Q : Exit → Env → World → Prop) : Exit → Env → World → Prop := fun ex e w => normQ ex (fun e w => contE pr cfg (sub (codeOf Try.f84) [1, 1, 1, 1, 0, 1, 0, 0, 1, 1, 0, 0, 1, 1]) (fun e w => wpC pr PP cfg (DD pr) (sub (codeOf Try.f84) [1, 1, 1, 1, 0, 1, 0, 0, 1, 1, 0, 0, 1, 1]) (q18 pr k Q) e w) e w) (q18 pr k Q) e w
def q22 (pr : Prims) (k : Env → World → Prop) (Q : Exit → Env → World → Prop) : Exit → Env → World → Prop := fun ex e w => blockQ ex 2 (q21 pr k Q) e w
def j4 (list_0 : Sl) (n_1 : Int) (level_5 : Sl) : Env := [(0, Sl.v list_0), (1, vI n_1), (5, Sl.v level_5)]
def emb6 (list_0 : Sl) (level_5 : Sl) (out_6 : Sl) (t20 : Int) (t21 : Int) : Env := [(0, Sl.v list_0), (5, Sl.v level_5), (6, Sl.v out_6), (20, vI t20), (21, vI t21)]
def emb9 (list_0 : Sl) (out_6 : Sl) (next_7 : Sl) (t20 : Int) (t21 : Int) (t24 : Sl) (t25 : Int) (t26 : Int) : Env := [(0, Sl.v list_0), (6, Sl.v out_6), (7, Sl.v next_7), (20, vI t20), (21, vI t21), (24, Sl.v t24), (25, vI t25), (26, vI t26)]
def x2 (list_0 : Sl) (out_6 : Sl) (next_7 : Sl) (t20 : Int) (t21 : Int) : Env := [(0, Sl.v list_0), (6, Sl.v out_6), (7, Sl.v next_7), (20, vI t20), (21, vI t21)]
def x0 (out_6 : Sl) : Env := [(6, Sl.v out_6)]
def S9 (pr : Prims) (Q : Exit → Env → World → Prop) : (Env → World → Prop) → Env → World → Prop := fun k e w => wpC pr PP cfg (DD pr) (sub (codeOf Try.f84) [1, 1, 1, 1, 0, 1, 0, 0, 1, 1, 0, 0, 1, 0, 1, 0, 0]) (fun ex e w => normQ ex (fun e' w' => k (Env.restr e' (lookN cfg.loops (keyOf (sub (codeOf Try.f84) [1, 1, 1, 1, 0, 1, 0, 0, 1, 1, 0, 0, 1, 0, 1, 0, 0])))) w') Q e w) e w
def S6 (pr : Prims) (Q : Exit → Env → World → Prop) : (Env → World → Prop) → Env → World → Prop := fun k e w => wpC pr PP cfg (DD pr) (sub (codeOf Try.f84) [1, 1, 1, 1, 0, 1, 0, 0]) (fun ex e w => normQ ex (fun e' w' => k (Env.restr e' (lookN cfg.loops (keyOf (sub (codeOf Try.f84) [1, 1, 1, 1, 0, 1, 0, 0])))) w') Q e w) e w
def B9 (pr : Prims) (list_0 : Sl) (out_6 : Sl) (next_7 : Sl) (t20 : Int) (t21 : Int) (t24 : Sl) (t25 : Int) (t26 : Int) (w : World) (k : Env → World → Prop) (Q : Exit → Env → World → Prop) : Prop :=
  S9 pr Q k (emb9 list_0 out_6 next_7 t20 t21 t24 t25 t26) w
def L9 (pr : Prims) (list_0 : Sl) (out_6 : Sl) (next_7 : Sl) (t20 : Int) (t21 : Int) (t24 : Sl) (t25 : Int) (t26 : Int) (w : World) (Q : Exit → Env → World → Prop) : Prop :=
  pr.loop (S9 pr Q) (emb9 list_0 out_6 next_7 t20 t21 t24 t25 t26) w
def B6 (pr : Prims) (list_0 : Sl) (level_5 : Sl) (out_6 : Sl) (t20 : Int) (t21 : Int) (w : World) (k : Env → World → Prop) (Q : Exit → Env → World → Prop) : Prop :=
  S6 pr Q k (emb6 list_0 level_5 out_6 t20 t21) w
def L6 (pr : Prims) (list_0 : Sl) (level_5 : Sl) (out_6 : Sl) (t20 : Int) (t21 : Int) (w : World) (Q : Exit → Env → World → Prop) : Prop :=
  pr.loop (S6 pr Q) (emb6 list_0 level_5 out_6 t20 t21) w
def J4 (pr : Prims) (list_0 : Sl) (n_1 : Int) (level_5 : Sl) (w : World) (R : Ending → World → Prop) : Prop :=
  pr.seg (fun e w => wpC pr PP cfg (DD pr) (sub (codeOf Try.f84) [1, 1, 1]) (retQ Try.f84.results.toList R) e w) (j4 list_0 n_1 level_5) w
def E (pr : Prims) (list_0 : Sl) (n_1 : Int) (w : World) (R : Ending → World → Prop) : Prop :=
  wpC pr PP cfg (DD pr) (codeOf Try.f84) (retQ Try.f84.results.toList R) (argE 0 [Sl.v list_0, vI n_1]) w
theorem B9_eq (pr : Prims) (list_0 : Sl) (out_6 : Sl) (next_7 : Sl) (t20 : Int) (t21 : Int) (t24 : Sl) (t25 : Int) (t26 : Int) (w : World) (k : Env → World → Prop) (Q : Exit → Env → World → Prop) : B9 pr list_0 out_6 next_7 t20 t21 t24 t25 t26 w k Q = (
  bif decide (t26 < t25) then (
  pr.idxK 1 t24 t26 fun (a23 : Addr) =>
  pr.load1 .sl a23 w fun (ξ24 : Sl) =>
  pr.call1 .sl PP F.impl_children #[Sl.v list_0, Sl.v ξ24] w fun (ρ25 : Sl) ω26 =>
  pr.sem1 .sl PP (Builtin.append_ #[T_SSint, T_SSint] T_SSint #[Sl.v next_7, Sl.v ρ25]) ω26 fun (ρ27 : Sl) ω28 =>
  k (emb9 list_0 out_6 ρ27 t20 t21 t24 t25 (w64 (t26 + 1))) ω28)
  else (
  Q (.exit 2) (x2 list_0 out_6 next_7 t20 t21) w)) := by kernel_rfl
theorem B9_s (list_0 : Sl) (out_6 : Sl) (next_7 : Sl) (t20 : Int) (t21 : Int) (t24 : Sl) (t25 : Int) (t26 : Int) (w : World) (k : Env → World → Prop) (Q : Exit → Env → World → Prop) : B9 std list_0 out_6 next_7 t20 t21 t24 t25 t26 w k Q = (
  bif decide (t26 < t25) then (
  idxK 1 t24 t26 fun (a23 : Addr) =>
  load1 .sl a23 w fun (ξ24 : Sl) =>
  call1 .sl PP F.impl_children #[Sl.v list_0, Sl.v ξ24] w fun (ρ25 : Sl) ω26 =>
  sem1 .sl PP (Builtin.append_ #[T_SSint, T_SSint] T_SSint #[Sl.v next_7, Sl.v ρ25]) ω26 fun (ρ27 : Sl) ω28 =>
  k (emb9 list_0 out_6 ρ27 t20 t21 t24 t25 (w64 (t26 + 1))) ω28)
  else (
  Q (.exit 2) (x2 list_0 out_6 next_7 t20 t21) w)) := B9_eq std list_0 out_6 next_7 t20 t21 t24 t25 t26 w k Q
theorem L9_rule (list_0 : Sl) (out_6 : Sl) (next_7 : Sl) (t20 : Int) (t21 : Int) (t24 : Sl) (t25 : Int) (t26 : Int) (w : World) (Q : Exit → Env → World → Prop) (I : Sl → Int → World → Prop) (μ : Sl → Int → World → Nat) (h0 : I next_7 t26 w)
    (h : ∀ (next_7 : Sl) (t26 : Int) (w' : World), I next_7 t26 w' → B9 std list_0 out_6 next_7 t20 t21 t24 t25 t26 w' (fun e2 w2 => ∃ next_7_n t26_n, e2 = emb9 list_0 out_6 next_7_n t20 t21 t24 t25 t26_n ∧ I next_7_n t26_n w2 ∧ μ next_7_n t26_n w2 < μ next_7 t26 w') Q) :
    L9 std list_0 out_6 next_7 t20 t21 t24 t25 t26 w Q := by
  unfold L9
  refine LoopE.intro (σ := Sl × Int) (step := S9 std Q) (fun s => emb9 list_0 out_6 s.1 t20 t21 t24 t25 s.2) (fun s w => I s.1 s.2 w) (fun s w => μ s.1 s.2 w) (next_7, t26) rfl h0 ?_
  intro s w' hI
  have h1 := h s.1 s.2 w' hI
  unfold B9 at h1
  simp only [Prod.exists]
  exact h1
theorem A9_2_eq (pr : Prims) (list_0 : Sl) (out_6 : Sl) (next_7 : Sl) (t20 : Int) (t21 : Int) (w : World) (k : Env → World → Prop) (Q : Exit → Env → World → Prop) : (q22 pr k Q) (.exit 2) (x2 list_0 out_6 next_7 t20 t21) w = (
  pr.sem1 .sl PP (Instr.buildSlice T_SSSint 1 #[(0, Sl.v next_7)]) w fun (ρ29 : Sl) ω30 =>
  pr.sem1 .sl PP (Builtin.append_ #[T_SSSint, T_SSSint] T_SSSint #[Sl.v out_6, Sl.v ρ29]) ω30 fun (ρ31 : Sl) ω32 =>
  k (emb6 list_0 next_7 ρ31 t20 (w64 (t21 + 1))) ω32) := by kernel_rfl
theorem A9_2_s (list_0 : Sl) (out_6 : Sl) (next_7 : Sl) (t20 : Int) (t21 : Int) (w : World) (k : Env → World → Prop) (Q : Exit → Env → World → Prop) : (q22 std k Q) (.exit 2) (x2 list_0 out_6 next_7 t20 t21) w = (
  sem1 .sl PP (Instr.buildSlice T_SSSint 1 #[(0, Sl.v next_7)]) w fun (ρ29 : Sl) ω30 =>
  sem1 .sl PP (Builtin.append_ #[T_SSSint, T_SSSint] T_SSSint #[Sl.v out_6, Sl.v ρ29]) ω30 fun (ρ31 : Sl) ω32 =>
  k (emb6 list_0 next_7 ρ31 t20 (w64 (t21 + 1))) ω32) := A9_2_eq std list_0 out_6 next_7 t20 t21 w k Q
theorem B6_eq (pr : Prims) (list_0 : Sl) (level_5 : Sl) (out_6 : Sl) (t20 : Int) (t21 : Int) (w : World) (k : Env → World → Prop) (Q : Exit → Env → World → Prop) : B6 pr list_0 level_5 out_6 t20 t21 w k Q = (
  bif decide (t21 < t20) then (
  pr.sem1 .sl PP (Instr.buildSlice T_SSint 0 #[]) w fun (ρ19 : Sl) ω20 =>
  L9 pr list_0 out_6 ρ19 t20 t21 level_5 (level_5.n : Int) 0 ω20 (q22 pr k Q))
  else (
  Q (.exit 0) (x0 out_6) w)) := by kernel_rfl
theorem B6_s (list_0 : Sl) (level_5 : Sl) (out_6 : Sl) (t20 : Int) (t21 : Int) (w : World) (k : Env → World → Prop) (Q : Exit → Env → World → Prop) : B6 std list_0 level_5 out_6 t20 t21 w k Q = (
  bif decide (t21 < t20) then (
  sem1 .sl PP (Instr.buildSlice T_SSint 0 #[]) w fun (ρ19 : Sl) ω20 =>
  L9 std list_0 out_6 ρ19 t20 t21 level_5 (level_5.n : Int) 0 ω20 (q22 std k Q))
  else (
  Q (.exit 0) (x0 out_6) w)) := B6_eq std list_0 level_5 out_6 t20 t21 w k Q
theorem L6_rule (list_0 : Sl) (level_5 : Sl) (out_6 : Sl) (t20 : Int) (t21 : Int) (w : World) (Q : Exit → Env → World → Prop) (I : Sl → Sl → Int → World → Prop) (μ : Sl → Sl → Int → World → Nat) (h0 : I level_5 out_6 t21 w)
    (h : ∀ (level_5 : Sl) (out_6 : Sl) (t21 : Int) (w' : World), I level_5 out_6 t21 w' → B6 std list_0 level_5 out_6 t20 t21 w' (fun e2 w2 => ∃ level_5_n out_6_n t21_n, e2 = emb6 list_0 level_5_n out_6_n t20 t21_n ∧ I level_5_n out_6_n t21_n w2 ∧ μ level_5_n out_6_n t21_n w2 < μ level_5 out_6 t21 w') Q) :
    L6 std list_0 level_5 out_6 t20 t21 w Q := by
  unfold L6
  refine LoopE.intro (σ := Sl × Sl × Int) (step := S6 std Q) (fun s => emb6 list_0 s.1 s.2.1 t20 s.2.2) (fun s w => I s.1 s.2.1 s.2.2 w) (fun s w => μ s.1 s.2.1 s.2.2 w) (level_5, out_6, t21) rfl h0 ?_
  intro s w' hI
  have h1 := h s.1 s.2.1 s.2.2 w' hI
  unfold B6 at h1
  simp only [Prod.exists]
  exact h1
theorem A6_0_eq (pr : Prims) (out_6 : Sl) (w : World) (R : Ending → World → Prop) : (q16 pr R) (.exit 0) (x0 out_6) w = (
  R (.returned (Sl.v out_6)) w) := by kernel_rfl
theorem A6_0_s (out_6 : Sl) (w : World) (R : Ending → World → Prop) : (q16 std R) (.exit 0) (x0 out_6) w = (
  R (.returned (Sl.v out_6)) w) := A6_0_eq std out_6 w R
theorem J4_gen (pr : Prims) (list_0 : Sl) (n_1 : Int) (level_5 : Sl) (w : World) (R : Ending → World → Prop) : wpC pr PP cfg (DD pr) (sub (codeOf Try.f84) [1, 1, 1]) (retQ Try.f84.results.toList R) (j4 list_0 n_1 level_5) w = (
  pr.sem1 .sl PP (Instr.buildSlice T_SSSint 1 #[(0, Sl.v level_5)]) w fun (ρ13 : Sl) ω14 =>
  L6 pr list_0 level_5 ρ13 n_1 0 ω14 (q16 pr R)) := by kernel_rfl
theorem J4_s (list_0 : Sl) (n_1 : Int) (level_5 : Sl) (w : World) (R : Ending → World → Prop) : J4 std list_0 n_1 level_5 w R = (
  sem1 .sl PP (Instr.buildSlice T_SSSint 1 #[(0, Sl.v level_5)]) w fun (ρ13 : Sl) ω14 =>
  L6 std list_0 level_5 ρ13 n_1 0 ω14 (q16 std R)) := J4_gen std list_0 n_1 level_5 w R
theorem E_eq (pr : Prims) (list_0 : Sl) (n_1 : Int) (w : World) (R : Ending → World → Prop) : E pr list_0 n_1 w R = (
  pr.sem1 .sl PP (Instr.buildSlice T_SSint 0 #[]) w fun (ρ0 : Sl) ω1 =>
  pr.sem1 .sl PP (Instr.buildSlice T_Sint 0 #[]) ω1 fun (ρ3 : Sl) ω4 =>
  pr.call1 .bool PP F.impl_avoids #[Sl.v list_0, Sl.v ρ3] ω4 fun (ρ5 : Bool) ω6 =>
  bif ρ5 then (
  pr.sem1 .sl PP (Instr.buildSlice T_Sint 0 #[]) ω6 fun (ρ7 : Sl) ω8 =>
  pr.sem1 .sl PP (Instr.buildSlice T_SSint 1 #[(0, Sl.v ρ7)]) ω8 fun (ρ9 : Sl) ω10 =>
  pr.sem1 .sl PP (Builtin.append_ #[T_SSint, T_SSint] T_SSint #[Sl.v ρ0, Sl.v ρ9]) ω10 fun (ρ11 : Sl) ω12 =>
  J4 pr list_0 n_1 ρ11 ω12 R)
  else (
  J4 pr list_0 n_1 ρ0 ω6 R)) := by kernel_rfl
theorem E_s (list_0 : Sl) (n_1 : Int) (w : World) (R : Ending → World → Prop) : E std list_0 n_1 w R = (
  sem1 .sl PP (Instr.buildSlice T_SSint 0 #[]) w fun (ρ0 : Sl) ω1 =>
  sem1 .sl PP (Instr.buildSlice T_Sint 0 #[]) ω1 fun (ρ3 : Sl) ω4 =>
  call1 .bool PP F.impl_avoids #[Sl.v list_0, Sl.v ρ3] ω4 fun (ρ5 : Bool) ω6 =>
  bif ρ5 then (
  sem1 .sl PP (Instr.buildSlice T_Sint 0 #[]) ω6 fun (ρ7 : Sl) ω8 =>
  sem1 .sl PP (Instr.buildSlice T_SSint 1 #[(0, Sl.v ρ7)]) ω8 fun (ρ9 : Sl) ω10 =>
  sem1 .sl PP (Builtin.append_ #[T_SSint, T_SSint] T_SSint #[Sl.v ρ0, Sl.v ρ9]) ω10 fun (ρ11 : Sl) ω12 =>
  J4 std list_0 n_1 ρ11 ω12 R)
  else (
  J4 std list_0 n_1 ρ0 ω6 R)) := E_eq std list_0 n_1 w R
theorem drawsOk : drawsOk PP cfg okD (codeOf Try.f84) = true := by kernel_rfl
theorem calls (list_0 : Sl) (n_1 : Int) {w : World} {R : Ending → World → Prop} (h : E std list_0 n_1 w R) : Calls PP F.impl_levels #[Sl.v list_0, vI n_1] w R :=
  calls_of noCount mixed drawOk Try.func84 rfl (c := cfg) (args := [Sl.v list_0, vI n_1]) rfl (Nat.le_of_ble_eq_true (by kernel_rfl)) drawsOk h
end impl_levels

namespace impl_LevelSizes
@[reducible] def cfg : Cfg := ⟨32, [(5, [5, 19, 20, 21])], [(1, [5, 19, 20, 21]), (0, [5])], [], [4], [], [93, 51, 18, 26, 23, 44, 60, 19, 57, 123, 109, 126, 53, 100], [61, 85, 110, 74, 127, 120]⟩
def q5 (pr : Prims) (R : Ending → World → Prop) : Exit → Env → World → Prop := fun ex e w => normQ ex (fun e w => contE pr cfg (sub (codeOf Try.f46) [1, 1, 1, 1]) (fun e w => wpC pr PP cfg (DD pr) (sub (codeOf Try.f46) [1, 1, 1, 1]) (retQ Try.f46.results.toList R) e w) e w) (retQ Try.f46.results.toList R) e w
def q8 (pr : Prims) (R : Ending → World → Prop) : Exit → Env → World → Prop := fun ex e w => blockQ ex 0 (q5 pr R) e w
def emb5 (out_5 : Sl) (t19 : Sl) (t20 : Int) (t21 : Int) : Env := [(5, Sl.v out_5), (19, Sl.v t19), (20, vI t20), (21, vI t21)]
def x0 (out_5 : Sl) : Env := [(5, Sl.v out_5)]
def S5 (pr : Prims) (Q : Exit → Env → World → Prop) : (Env → World → Prop) → Env → World → Prop := fun k e w => wpC pr PP cfg (DD pr) (sub (codeOf Try.f46) [1, 1, 1, 0, 1, 0, 0]) (fun ex e w => normQ ex (fun e' w' => k (Env.restr e' (lookN cfg.loops (keyOf (sub (codeOf Try.f46) [1, 1, 1, 0, 1, 0, 0])))) w') Q e w) e w
def B5 (pr : Prims) (out_5 : Sl) (t19 : Sl) (t20 : Int) (t21 : Int) (w : World) (k : Env → World → Prop) (Q : Exit → Env → World → Prop) : Prop :=
  S5 pr Q k (emb5 out_5 t19 t20 t21) w
def L5 (pr : Prims) (out_5 : Sl) (t19 : Sl) (t20 : Int) (t21 : Int) (w : World) (Q : Exit → Env → World → Prop) : Prop :=
  pr.loop (S5 pr Q) (emb5 out_5 t19 t20 t21) w
def E (pr : Prims) (list_0 : Sl) (n_1 : Int) (w : World) (R : Ending → World → Prop) : Prop :=
  wpC pr PP cfg (DD pr) (codeOf Try.f46) (retQ Try.f46.results.toList R) (argE 0 [Sl.v list_0, vI n_1]) w
theorem B5_eq (pr : Prims) (out_5 : Sl) (t19 : Sl) (t20 : Int) (t21 : Int) (w : World) (k : Env → World → Prop) (Q : Exit → Env → World → Prop) : B5 pr out_5 t19 t20 t21 w k Q = (
  bif decide (t21 < t20) then (
  pr.idxK 1 t19 t21 fun (a9 : Addr) =>
  pr.load1 .sl a9 w fun (ξ10 : Sl) =>
  pr.sem1 .sl PP (Instr.buildSlice T_Sint 1 #[(0, vI (ξ10.n : Int))]) w fun (ρ11 : Sl) ω12 =>
  pr.sem1 .sl PP (Builtin.append_ #[T_Sint, T_Sint] T_Sint #[Sl.v out_5, Sl.v ρ11]) ω12 fun (ρ13 : Sl) ω14 =>
  k (emb5 ρ13 t19 t20 (w64 (t21 + 1))) ω14)
  else (
  Q (.exit 0) (x0 out_5) w)) := by kernel_rfl
theorem B5_s (out_5 : Sl) (t19 : Sl) (t20 : Int) (t21 : Int) (w : World) (k : Env → World → Prop) (Q : Exit → Env → World → Prop) : B5 std out_5 t19 t20 t21 w k Q = (
  bif decide (t21 < t20) then (
  idxK 1 t19 t21 fun (a9 : Addr) =>
  load1 .sl a9 w fun (ξ10 : Sl) =>
  sem1 .sl PP (Instr.buildSlice T_Sint 1 #[(0, vI (ξ10.n : Int))]) w fun (ρ11 : Sl) ω12 =>
  sem1 .sl PP (Builtin.append_ #[T_Sint, T_Sint] T_Sint #[Sl.v out_5, Sl.v ρ11]) ω12 fun (ρ13 : Sl) ω14 =>
  k (emb5 ρ13 t19 t20 (w64 (t21 + 1))) ω14)
  else (
  Q (.exit 0) (x0 out_5) w)) := B5_eq std out_5 t19 t20 t21 w k Q
theorem L5_rule (out_5 : Sl) (t19 : Sl) (t20 : Int) (t21 : Int) (w : World) (Q : Exit → Env → World → Prop) (I : Sl → Int → World → Prop) (μ : Sl → Int → World → Nat) (h0 : I out_5 t21 w)
    (h : ∀ (out_5 : Sl) (t21 : Int) (w' : World), I out_5 t21 w' → B5 std out_5 t19 t20 t21 w' (fun e2 w2 => ∃ out_5_n t21_n, e2 = emb5 out_5_n t19 t20 t21_n ∧ I out_5_n t21_n w2 ∧ μ out_5_n t21_n w2 < μ out_5 t21 w') Q) :
    L5 std out_5 t19 t20 t21 w Q := by
  unfold L5
  refine LoopE.intro (σ := Sl × Int) (step := S5 std Q) (fun s => emb5 s.1 t19 t20 s.2) (fun s w => I s.1 s.2 w) (fun s w => μ s.1 s.2 w) (out_5, t21) rfl h0 ?_
  intro s w' hI
  have h1 := h s.1 s.2 w' hI
  unfold B5 at h1
  simp only [Prod.exists]
  exact h1
theorem A5_0_eq (pr : Prims) (out_5 : Sl) (w : World) (R : Ending → World → Prop) : (q8 pr R) (.exit 0) (x0 out_5) w = (
  R (.returned (Sl.v out_5)) w) := by kernel_rfl
theorem A5_0_s (out_5 : Sl) (w : World) (R : Ending → World → Prop) : (q8 std R) (.exit 0) (x0 out_5) w = (
  R (.returned (Sl.v out_5)) w) := A5_0_eq std out_5 w R
theorem E_eq (pr : Prims) (list_0 : Sl) (n_1 : Int) (w : World) (R : Ending → World → Prop) : E pr list_0 n_1 w R = (
  pr.call1 .bool PP F.impl_IsBasis #[Sl.v list_0] w fun (ρ0 : Bool) ω1 =>
  bif !ρ0 then (
  R (.returned (Sl.v Sl.nil)) ω1)
  else (
  pr.pcall1 .bool PP F.impl_isSix #[vI n_1] fun (ρ2 : Bool) =>
  bif !ρ2 then (
  R (.returned (Sl.v Sl.nil)) ω1)
  else (
  pr.sem1 .sl PP (Instr.buildSlice T_Sint 0 #[]) ω1 fun (ρ3 : Sl) ω4 =>
  pr.call1 .sl PP F.impl_levels #[Sl.v list_0, vI n_1] ω4 fun (ρ6 : Sl) ω7 =>
  L5 pr ρ3 ρ6 (ρ6.n : Int) 0 ω7 (q8 pr R)))) := by kernel_rfl
theorem E_s (list_0 : Sl) (n_1 : Int) (w : World) (R : Ending → World → Prop) : E std list_0 n_1 w R = (
  call1 .bool PP F.impl_IsBasis #[Sl.v list_0] w fun (ρ0 : Bool) ω1 =>
  bif !ρ0 then (
  R (.returned (Sl.v Sl.nil)) ω1)
  else (
  pcall1 .bool PP F.impl_isSix #[vI n_1] fun (ρ2 : Bool) =>
  bif !ρ2 then (
  R (.returned (Sl.v Sl.nil)) ω1)
  else (
  sem1 .sl PP (Instr.buildSlice T_Sint 0 #[]) ω1 fun (ρ3 : Sl) ω4 =>
  call1 .sl PP F.impl_levels #[Sl.v list_0, vI n_1] ω4 fun (ρ6 : Sl) ω7 =>
  L5 std ρ3 ρ6 (ρ6.n : Int) 0 ω7 (q8 std R)))) := E_eq std list_0 n_1 w R
theorem drawsOk : drawsOk PP cfg okD (codeOf Try.f46) = true := by kernel_rfl
theorem calls (list_0 : Sl) (n_1 : Int) {w : World} {R : Ending → World → Prop} (h : E std list_0 n_1 w R) : Calls PP F.impl_LevelSizes #[Sl.v list_0, vI n_1] w R :=
  calls_of noCount mixed drawOk Try.func46 rfl (c := cfg) (args := [Sl.v list_0, vI n_1]) rfl (Nat.le_of_ble_eq_true (by kernel_rfl)) drawsOk h
end impl_LevelSizes

namespace impl_LeafCount
@[reducible] def cfg : Cfg := ⟨33, [(5, [0, 5, 18, 19, 20])], [(1, [0, 5, 18, 19, 20]), (0, [5])], [], [4], [], [93, 51, 18, 26, 23, 44, 60, 19, 57, 123, 109, 126, 53, 100], [61, 85, 110, 74, 127, 120]⟩
def q3 (pr : Prims) (R : Ending → World → Prop) : Exit → Env → World → Prop := fun ex e w => normQ ex (fun e w => contE pr cfg (sub (codeOf Try.f48) [1, 1, 1, 1]) (fun e w => wpC pr PP cfg (DD pr) (sub (codeOf Try.f48) [1, 1, 1, 1]) (retQ Try.f48.results.toList R) e w) e w) (retQ Try.f48.results.toList R) e w
def q6 (pr : Prims) (R : Ending → World → Prop) : Exit → Env → World → Prop := fun ex e w => blockQ ex 0 (q3 pr R) e w
def emb5 (list_0 : Sl) (many_5 : Int) (t18 : Sl) (t19 : Int) (t20 : Int) : Env := [(0, Sl.v list_0), (5, vI many_5), (18, Sl.v t18), (19, vI t19), (20, vI t20)]
def x0 (many_5 : Int) : Env := [(5, vI many_5)]
def S5 (pr : Prims) (Q : Exit → Env → World → Prop) : (Env → World → Prop) → Env → World → Prop := fun k e w => wpC pr PP cfg (DD pr) (sub (codeOf Try.f48) [1, 1, 1, 0, 1, 0, 0]) (fun ex e w => normQ ex (fun e' w' => k (Env.restr e' (lookN cfg.loops (keyOf (sub (codeOf Try.f48) [1, 1, 1, 0, 1, 0, 0])))) w') Q e w) e w
def B5 (pr : Prims) (list_0 : Sl) (many_5 : Int) (t18 : Sl) (t19 : Int) (t20 : Int) (w : World) (k : Env → World → Prop) (Q : Exit → Env → World → Prop) : Prop :=
  S5 pr Q k (emb5 list_0 many_5 t18 t19 t20) w
def L5 (pr : Prims) (list_0 : Sl) (many_5 : Int) (t18 : Sl) (t19 : Int) (t20 : Int) (w : World) (Q : Exit → Env → World → Prop) : Prop :=
  pr.loop (S5 pr Q) (emb5 list_0 many_5 t18 t19 t20) w
def E (pr : Prims) (list_0 : Sl) (n_1 : Int) (w : World) (R : Ending → World → Prop) : Prop :=
  wpC pr PP cfg (DD pr) (codeOf Try.f48) (retQ Try.f48.results.toList R) (argE 0 [Sl.v list_0, vI n_1]) w
theorem B5_eq (pr : Prims) (list_0 : Sl) (many_5 : Int) (t18 : Sl) (t19 : Int) (t20 : Int) (w : World) (k : Env → World → Prop) (Q : Exit → Env → World → Prop) : B5 pr list_0 many_5 t18 t19 t20 w k Q = (
  bif decide (t20 < t19) then (
  pr.idxK 1 t18 t20 fun (a7 : Addr) =>
  pr.load1 .sl a7 w fun (ξ8 : Sl) =>
  pr.call1 .sl PP F.impl_active #[Sl.v list_0, Sl.v ξ8] w fun (ρ9 : Sl) ω10 =>
  bif (ρ9.n : Int) == 0 then (
  k (emb5 list_0 (w64 (many_5 + 1)) t18 t19 (w64 (t20 + 1))) ω10)
  else (
  k (emb5 list_0 many_5 t18 t19 (w64 (t20 + 1))) ω10))
  else (
  Q (.exit 0) (x0 many_5) w)) := by kernel_rfl
theorem B5_s (list_0 : Sl) (many_5 : Int) (t18 : Sl) (t19 : Int) (t20 : Int) (w : World) (k : Env → World → Prop) (Q : Exit → Env → World → Prop) : B5 std list_0 many_5 t18 t19 t20 w k Q = (
  bif decide (t20 < t19) then (
  idxK 1 t18 t20 fun (a7 : Addr) =>
  load1 .sl a7 w fun (ξ8 : Sl) =>
  call1 .sl PP F.impl_active #[Sl.v list_0, Sl.v ξ8] w fun (ρ9 : Sl) ω10 =>
  bif (ρ9.n : Int) == 0 then (
  k (emb5 list_0 (w64 (many_5 + 1)) t18 t19 (w64 (t20 + 1))) ω10)
  else (
  k (emb5 list_0 many_5 t18 t19 (w64 (t20 + 1))) ω10))
  else (
  Q (.exit 0) (x0 many_5) w)) := B5_eq std list_0 many_5 t18 t19 t20 w k Q
theorem L5_rule (list_0 : Sl) (many_5 : Int) (t18 : Sl) (t19 : Int) (t20 : Int) (w : World) (Q : Exit → Env → World → Prop) (I : Int → Int → World → Prop) (μ : Int → Int → World → Nat) (h0 : I many_5 t20 w)
    (h : ∀ (many_5 : Int) (t20 : Int) (w' : World), I many_5 t20 w' → B5 std list_0 many_5 t18 t19 t20 w' (fun e2 w2 => ∃ many_5_n t20_n, e2 = emb5 list_0 many_5_n t18 t19 t20_n ∧ I many_5_n t20_n w2 ∧ μ many_5_n t20_n w2 < μ many_5 t20 w') Q) :
    L5 std list_0 many_5 t18 t19 t20 w Q := by
  unfold L5
  refine LoopE.intro (σ := Int × Int) (step := S5 std Q) (fun s => emb5 list_0 s.1 t18 t19 s.2) (fun s w => I s.1 s.2 w) (fun s w => μ s.1 s.2 w) (many_5, t20) rfl h0 ?_
  intro s w' hI
  have h1 := h s.1 s.2 w' hI
  unfold B5 at h1
  simp only [Prod.exists]
  exact h1
theorem A5_0_eq (pr : Prims) (many_5 : Int) (w : World) (R : Ending → World → Prop) : (q6 pr R) (.exit 0) (x0 many_5) w = (
  R (.returned (vI many_5)) w) := by kernel_rfl
theorem A5_0_s (many_5 : Int) (w : World) (R : Ending → World → Prop) : (q6 std R) (.exit 0) (x0 many_5) w = (
  R (.returned (vI many_5)) w) := A5_0_eq std many_5 w R
theorem E_eq (pr : Prims) (list_0 : Sl) (n_1 : Int) (w : World) (R : Ending → World → Prop) : E pr list_0 n_1 w R = (
  pr.call1 .bool PP F.impl_IsBasis #[Sl.v list_0] w fun (ρ0 : Bool) ω1 =>
  bif !ρ0 then (
  R (.returned (vI (-1))) ω1)
  else (
  pr.pcall1 .bool PP F.impl_isSix #[vI n_1] fun (ρ2 : Bool) =>
  bif !ρ2 then (
  R (.returned (vI (-1))) ω1)
  else (
  pr.call1 .sl PP F.impl_class #[Sl.v list_0, vI n_1] ω1 fun (ρ4 : Sl) ω5 =>
  L5 pr list_0 0 ρ4 (ρ4.n : Int) 0 ω5 (q6 pr R)))) := by kernel_rfl
theorem E_s (list_0 : Sl) (n_1 : Int) (w : World) (R : Ending → World → Prop) : E std list_0 n_1 w R = (
  call1 .bool PP F.impl_IsBasis #[Sl.v list_0] w fun (ρ0 : Bool) ω1 =>
  bif !ρ0 then (
  R (.returned (vI (-1))) ω1)
  else (
  pcall1 .bool PP F.impl_isSix #[vI n_1] fun (ρ2 : Bool) =>
  bif !ρ2 then (
  R (.returned (vI (-1))) ω1)
  else (
  call1 .sl PP F.impl_class #[Sl.v list_0, vI n_1] ω1 fun (ρ4 : Sl) ω5 =>
  L5 std list_0 0 ρ4 (ρ4.n : Int) 0 ω5 (q6 std R)))) := E_eq std list_0 n_1 w R
theorem drawsOk : drawsOk PP cfg okD (codeOf Try.f48) = true := by kernel_rfl
theorem calls (list_0 : Sl) (n_1 : Int) {w : World} {R : Ending → World → Prop} (h : E std list_0 n_1 w R) : Calls PP F.impl_LeafCount #[Sl.v list_0, vI n_1] w R :=
  calls_of noCount mixed drawOk Try.func48 rfl (c := cfg) (args := [Sl.v list_0, vI n_1]) rfl (Nat.le_of_ble_eq_true (by kernel_rfl)) drawsOk h
end impl_LeafCount

namespace impl_LowCounts
@[reducible] def cfg : Cfg := ⟨37, [(5, [5, 21, 22, 23])], [(1, [5, 21, 22, 23]), (0, [5])], [], [4], [], [93, 51, 18, 26, 23, 44, 60, 19, 57, 123, 109, 126, 53, 100], [61, 85, 110, 74, 127, 120]⟩
def q5 (pr : Prims) (R : Ending → World → Prop) : Exit → Env → World → Prop := fun ex e w => normQ ex (fun e w => contE pr cfg (sub (codeOf Try.f32) [1, 1, 1, 1]) (fun e w => wpC pr PP cfg (DD pr) (sub (codeOf Try.f32) [1, 1, 1, 1]) (retQ Try.f32.results.toList R) e w) e w) (retQ Try.f32.results.toList R) e w
def q8 (pr : Prims) (R : Ending → World → Prop) : Exit → Env → World → Prop := fun ex e w => blockQ ex 0 (q5 pr R) e w
def emb5 (out_5 : Sl) (t21 : Sl) (t22 : Int) (t23 : Int) : Env := [(5, Sl.v out_5), (21, Sl.v t21), (22, vI t22), (23, vI t23)]
def x0 (out_5 : Sl) : Env := [(5, Sl.v out_5)]
def S5 (pr : Prims) (Q : Exit → Env → World → Prop) : (Env → World → Prop) → Env → World → Prop := fun k e w => wpC pr PP cfg (DD pr) (sub (codeOf Try.f32) [1, 1, 1, 0, 1, 0, 0]) (fun ex e w => normQ ex (fun e' w' => k (Env.restr e' (lookN cfg.loops (keyOf (sub (codeOf Try.f32) [1, 1, 1, 0, 1, 0, 0])))) w') Q e w) e w
def B5 (pr : Prims) (out_5 : Sl) (t21 : Sl) (t22 : Int) (t23 : Int) (w : World) (k : Env → World → Prop) (Q : Exit → Env → World → Prop) : Prop :=
  S5 pr Q k (emb5 out_5 t21 t22 t23) w
def L5 (pr : Prims) (out_5 : Sl) (t21 : Sl) (t22 : Int) (t23 : Int) (w : World) (Q : Exit → Env → World → Prop) : Prop :=
  pr.loop (S5 pr Q) (emb5 out_5 t21 t22 t23) w
def E (pr : Prims) (list_0 : Sl) (n_1 : Int) (w : World) (R : Ending → World → Prop) : Prop :=
  wpC pr PP cfg (DD pr) (codeOf Try.f32) (retQ Try.f32.results.toList R) (argE 0 [Sl.v list_0, vI n_1]) w
theorem B5_eq (pr : Prims) (out_5 : Sl) (t21 : Sl) (t22 : Int) (t23 : Int) (w : World) (k : Env → World → Prop) (Q : Exit → Env → World → Prop) : B5 pr out_5 t21 t22 t23 w k Q = (
  bif decide (t23 < t22) then (
  pr.idxK 1 t21 t23 fun (a9 : Addr) =>
  pr.load1 .sl a9 w fun (ξ10 : Sl) =>
  pr.call1 .sl PP F.impl_LowsOf #[Sl.v ξ10] w fun (ρ11 : Sl) ω12 =>
  pr.idxK 1 out_5 (ρ11.n : Int) fun (a13 : Addr) =>
  pr.load1 (.int .i64) a13 ω12 fun (ξ14 : Int) =>
  pr.idxK 1 out_5 (ρ11.n : Int) fun (a15 : Addr) =>
  pr.storeC a15 (vI (w64 (ξ14 + 1))) ω12 fun ω16 =>
  k (emb5 out_5 t21 t22 (w64 (t23 + 1))) ω16)
  else (
  Q (.exit 0) (x0 out_5) w)) := by kernel_rfl
theorem B5_s (out_5 : Sl) (t21 : Sl) (t22 : Int) (t23 : Int) (w : World) (k : Env → World → Prop) (Q : Exit → Env → World → Prop) : B5 std out_5 t21 t22 t23 w k Q = (
  bif decide (t23 < t22) then (
  idxK 1 t21 t23 fun (a9 : Addr) =>
  load1 .sl a9 w fun (ξ10 : Sl) =>
  call1 .sl PP F.impl_LowsOf #[Sl.v ξ10] w fun (ρ11 : Sl) ω12 =>
  idxK 1 out_5 (ρ11.n : Int) fun (a13 : Addr) =>
  load1 (.int .i64) a13 ω12 fun (ξ14 : Int) =>
  idxK 1 out_5 (ρ11.n : Int) fun (a15 : Addr) =>
  storeC a15 (vI (w64 (ξ14 + 1))) ω12 fun ω16 =>
  k (emb5 out_5 t21 t22 (w64 (t23 + 1))) ω16)
  else (
  Q (.exit 0) (x0 out_5) w)) := B5_eq std out_5 t21 t22 t23 w k Q
theorem L5_rule (out_5 : Sl) (t21 : Sl) (t22 : Int) (t23 : Int) (w : World) (Q : Exit → Env → World → Prop) (I : Int → World → Prop) (μ : Int → World → Nat) (h0 : I t23 w)
    (h : ∀ (t23 : Int) (w' : World), I t23 w' → B5 std out_5 t21 t22 t23 w' (fun e2 w2 => ∃ t23_n, e2 = emb5 out_5 t21 t22 t23_n ∧ I t23_n w2 ∧ μ t23_n w2 < μ t23 w') Q) :
    L5 std out_5 t21 t22 t23 w Q := by
  unfold L5
  refine LoopE.intro (σ := Int) (step := S5 std Q) (fun s => emb5 out_5 t21 t22 s) (fun s w => I s w) (fun s w => μ s w) t23 rfl h0 ?_
  intro s w' hI
  have h1 := h s w' hI
  unfold B5 at h1
  exact h1
theorem A5_0_eq (pr : Prims) (out_5 : Sl) (w : World) (R : Ending → World → Prop) : (q8 pr R) (.exit 0) (x0 out_5) w = (
  R (.returned (Sl.v out_5)) w) := by kernel_rfl
theorem A5_0_s (out_5 : Sl) (w : World) (R : Ending → World → Prop) : (q8 std R) (.exit 0) (x0 out_5) w = (
  R (.returned (Sl.v out_5)) w) := A5_0_eq std out_5 w R
theorem E_eq (pr : Prims) (list_0 : Sl) (n_1 : Int) (w : World) (R : Ending → World → Prop) : E pr list_0 n_1 w R = (
  pr.call1 .bool PP F.impl_IsBasis #[Sl.v list_0] w fun (ρ0 : Bool) ω1 =>
  bif !ρ0 then (
  R (.returned (Sl.v Sl.nil)) ω1)
  else (
  pr.pcall1 .bool PP F.impl_isSix #[vI n_1] fun (ρ2 : Bool) =>
  bif !ρ2 then (
  R (.returned (Sl.v Sl.nil)) ω1)
  else (
  pr.sem1 .sl PP (Instr.makeSlice T_Sint (vI (w64 (n_1 + 1))) (vI (w64 (n_1 + 1)))) ω1 fun (ρ3 : Sl) ω4 =>
  pr.call1 .sl PP F.impl_class #[Sl.v list_0, vI n_1] ω4 fun (ρ6 : Sl) ω7 =>
  L5 pr ρ3 ρ6 (ρ6.n : Int) 0 ω7 (q8 pr R)))) := by kernel_rfl
theorem E_s (list_0 : Sl) (n_1 : Int) (w : World) (R : Ending → World → Prop) : E std list_0 n_1 w R = (
  call1 .bool PP F.impl_IsBasis #[Sl.v list_0] w fun (ρ0 : Bool) ω1 =>
  bif !ρ0 then (
  R (.returned (Sl.v Sl.nil)) ω1)
  else (
  pcall1 .bool PP F.impl_isSix #[vI n_1] fun (ρ2 : Bool) =>
  bif !ρ2 then (
  R (.returned (Sl.v Sl.nil)) ω1)
  else (
  sem1 .sl PP (Instr.makeSlice T_Sint (vI (w64 (n_1 + 1))) (vI (w64 (n_1 + 1)))) ω1 fun (ρ3 : Sl) ω4 =>
  call1 .sl PP F.impl_class #[Sl.v list_0, vI n_1] ω4 fun (ρ6 : Sl) ω7 =>
  L5 std ρ3 ρ6 (ρ6.n : Int) 0 ω7 (q8 std R)))) := E_eq std list_0 n_1 w R
theorem drawsOk : drawsOk PP cfg okD (codeOf Try.f32) = true := by kernel_rfl
theorem calls (list_0 : Sl) (n_1 : Int) {w : World} {R : Ending → World → Prop} (h : E std list_0 n_1 w R) : Calls PP F.impl_LowCounts #[Sl.v list_0, vI n_1] w R :=
  calls_of noCount mixed drawOk Try.func32 rfl (c := cfg) (args := [Sl.v list_0, vI n_1]) rfl (Nat.le_of_ble_eq_true (by kernel_rfl)) drawsOk h
end impl_LowCounts

namespace laws_FnExactActiveSites
@[reducible] def cfg : Cfg := ⟨90, [], [], [], [4], [], [93, 51, 18, 26, 23, 44, 60, 19, 57, 123, 109, 126, 53, 100], [61, 85, 110, 74, 127, 120]⟩
def E (pr : Prims) (aList_0 : Sl) (aP_1 : Sl) (w : World) (R : Ending → World → Prop) : Prop :=
  wpC pr PP cfg (DD pr) (codeOf Try.f9) (retQ Try.f9.results.toList R) (argE 0 [Sl.v aList_0, Sl.v aP_1]) w
theorem E_eq (pr : Prims) (aList_0 : Sl) (aP_1 : Sl) (w : World) (R : Ending → World → Prop) : E pr aList_0 aP_1 w R = (
  bif decide ((aP_1.n : Int) > 1048576) then (
  R (.returned (.bool true)) w)
  else (
  pr.call1 (.int .i64) PP F.laws_szIntSS #[Sl.v aList_0, vI 1048576] w fun (ρ0 : Int) ω1 =>
  bif decide (ρ0 < 0) then (
  R (.returned (.bool true)) ω1)
  else (
  pr.call1 .sl PP F.laws_toIntSS #[Sl.v aList_0] ω1 fun (ρ2 : Sl) ω3 =>
  pr.call1 .sl PP F.laws_toIntS #[Sl.v aP_1] ω3 fun (ρ4 : Sl) ω5 =>
  pr.call1 .sl PP F.spec_ActiveSites #[Sl.v ρ2, Sl.v ρ4] ω5 fun (ρ6 : Sl) ω7 =>
  pr.call1 .sl PP F.laws_toIntSS #[Sl.v aList_0] ω7 fun (ρ8 : Sl) ω9 =>
  pr.call1 .sl PP F.laws_toIntS #[Sl.v aP_1] ω9 fun (ρ10 : Sl) ω11 =>
  pr.call1 .sl PP F.impl_ActiveSites #[Sl.v ρ8, Sl.v ρ10] ω11 fun (ρ12 : Sl) ω13 =>
  pr.call1 .bool PP F.laws_eqIntS #[Sl.v ρ12, Sl.v ρ6] ω13 fun (ρ14 : Bool) ω15 =>
  bif !ρ14 then (
  R (.returned (.bool false)) ω15)
  else (
  pr.call1 .sl PP F.laws_toIntSS #[Sl.v aList_0] ω15 fun (ρ16 : Sl) ω17 =>
  pr.call1 .bool PP F.laws_eqIntSS #[Sl.v ρ8, Sl.v ρ16] ω17 fun (ρ18 : Bool) ω19 =>
  bif !ρ18 then (
  R (.returned (.bool false)) ω19)
  else (
  pr.call1 .sl PP F.laws_toIntS #[Sl.v aP_1] ω19 fun (ρ20 : Sl) ω21 =>
  pr.call1 .bool PP F.laws_eqIntS #[Sl.v ρ10, Sl.v ρ20] ω21 fun (ρ22 : Bool) ω23 =>
  bif !ρ22 then (
  R (.returned (.bool false)) ω23)
  else (
  pr.call1 (.int .i64) PP F.laws_markIntSS #[Sl.v ρ8, vI 1] ω23 fun (ρ24 : Int) ω25 =>
  pr.call1 (.int .i64) PP F.laws_markIntS #[Sl.v ρ10, vI ρ24] ω25 fun (ρ26 : Int) ω27 =>
  bif decide (ρ26 < 0) then (
  R (.returned (.bool false)) ω27)
  else (
  pr.call1 .bool PP F.laws_eqIntS #[Sl.v ρ12, Sl.v ρ6] ω27 fun (ρ28 : Bool) ω29 =>
  bif !ρ28 then (
  R (.returned (.bool false)) ω29)
  else (
  pr.call1 (.int .i64) PP F.laws_markIntS #[Sl.v ρ12, vI 1] ω29 fun (ρ30 : Int) ω31 =>
  pr.call1 (.int .i64) PP F.laws_heldIntS #[Sl.v ρ12, vI 1] ω31 fun (ρ32 : Int) ω33 =>
  bif decide (ρ32 < 0) then (
  R (.returned (.bool false)) ω33)
  else (
  bif ρ32 != ρ30 then (
  R (.returned (.bool false)) ω33)
  else (
  pr.call1 .sl PP F.laws_toIntSS #[Sl.v aList_0] ω33 fun (ρ34 : Sl) ω35 =>
  pr.call1 .sl PP F.laws_toIntS #[Sl.v aP_1] ω35 fun (ρ36 : Sl) ω37 =>
  pr.call1 .sl PP F.impl_ActiveSites #[Sl.v ρ34, Sl.v ρ36] ω37 fun (ρ38 : Sl) ω39 =>
  pr.call1 .bool PP F.laws_eqIntS #[Sl.v ρ38, Sl.v ρ6] ω39 fun (ρ40 : Bool) ω41 =>
  bif !ρ40 then (
  R (.returned (.bool false)) ω41)
  else (
  pr.call1 (.int .i64) PP F.laws_heldIntS #[Sl.v ρ12, vI 1] ω41 fun (ρ42 : Int) ω43 =>
  bif decide (ρ42 < 0) then (
  R (.returned (.bool false)) ω43)
  else (
  bif ρ42 != ρ30 then (
  R (.returned (.bool false)) ω43)
  else (
  R (.returned (.bool true)) ω43))))))))))))) := by kernel_rfl
theorem E_s (aList_0 : Sl) (aP_1 : Sl) (w : World) (R : Ending → World → Prop) : E std aList_0 aP_1 w R = (
  bif decide ((aP_1.n : Int) > 1048576) then (
  R (.returned (.bool true)) w)
  else (
  call1 (.int .i64) PP F.laws_szIntSS #[Sl.v aList_0, vI 1048576] w fun (ρ0 : Int) ω1 =>
  bif decide (ρ0 < 0) then (
  R (.returned (.bool true)) ω1)
  else (
  call1 .sl PP F.laws_toIntSS #[Sl.v aList_0] ω1 fun (ρ2 : Sl) ω3 =>
  call1 .sl PP F.laws_toIntS #[Sl.v aP_1] ω3 fun (ρ4 : Sl) ω5 =>
  call1 .sl PP F.spec_ActiveSites #[Sl.v ρ2, Sl.v ρ4] ω5 fun (ρ6 : Sl) ω7 =>
  call1 .sl PP F.laws_toIntSS #[Sl.v aList_0] ω7 fun (ρ8 : Sl) ω9 =>
  call1 .sl PP F.laws_toIntS #[Sl.v aP_1] ω9 fun (ρ10 : Sl) ω11 =>
  call1 .sl PP F.impl_ActiveSites #[Sl.v ρ8, Sl.v ρ10] ω11 fun (ρ12 : Sl) ω13 =>
  call1 .bool PP F.laws_eqIntS #[Sl.v ρ12, Sl.v ρ6] ω13 fun (ρ14 : Bool) ω15 =>
  bif !ρ14 then (
  R (.returned (.bool false)) ω15)
  else (
  call1 .sl PP F.laws_toIntSS #[Sl.v aList_0] ω15 fun (ρ16 : Sl) ω17 =>
  call1 .bool PP F.laws_eqIntSS #[Sl.v ρ8, Sl.v ρ16] ω17 fun (ρ18 : Bool) ω19 =>
  bif !ρ18 then (
  R (.returned (.bool false)) ω19)
  else (
  call1 .sl PP F.laws_toIntS #[Sl.v aP_1] ω19 fun (ρ20 : Sl) ω21 =>
  call1 .bool PP F.laws_eqIntS #[Sl.v ρ10, Sl.v ρ20] ω21 fun (ρ22 : Bool) ω23 =>
  bif !ρ22 then (
  R (.returned (.bool false)) ω23)
  else (
  call1 (.int .i64) PP F.laws_markIntSS #[Sl.v ρ8, vI 1] ω23 fun (ρ24 : Int) ω25 =>
  call1 (.int .i64) PP F.laws_markIntS #[Sl.v ρ10, vI ρ24] ω25 fun (ρ26 : Int) ω27 =>
  bif decide (ρ26 < 0) then (
  R (.returned (.bool false)) ω27)
  else (
  call1 .bool PP F.laws_eqIntS #[Sl.v ρ12, Sl.v ρ6] ω27 fun (ρ28 : Bool) ω29 =>
  bif !ρ28 then (
  R (.returned (.bool false)) ω29)
  else (
  call1 (.int .i64) PP F.laws_markIntS #[Sl.v ρ12, vI 1] ω29 fun (ρ30 : Int) ω31 =>
  call1 (.int .i64) PP F.laws_heldIntS #[Sl.v ρ12, vI 1] ω31 fun (ρ32 : Int) ω33 =>
  bif decide (ρ32 < 0) then (
  R (.returned (.bool false)) ω33)
  else (
  bif ρ32 != ρ30 then (
  R (.returned (.bool false)) ω33)
  else (
  call1 .sl PP F.laws_toIntSS #[Sl.v aList_0] ω33 fun (ρ34 : Sl) ω35 =>
  call1 .sl PP F.laws_toIntS #[Sl.v aP_1] ω35 fun (ρ36 : Sl) ω37 =>
  call1 .sl PP F.impl_ActiveSites #[Sl.v ρ34, Sl.v ρ36] ω37 fun (ρ38 : Sl) ω39 =>
  call1 .bool PP F.laws_eqIntS #[Sl.v ρ38, Sl.v ρ6] ω39 fun (ρ40 : Bool) ω41 =>
  bif !ρ40 then (
  R (.returned (.bool false)) ω41)
  else (
  call1 (.int .i64) PP F.laws_heldIntS #[Sl.v ρ12, vI 1] ω41 fun (ρ42 : Int) ω43 =>
  bif decide (ρ42 < 0) then (
  R (.returned (.bool false)) ω43)
  else (
  bif ρ42 != ρ30 then (
  R (.returned (.bool false)) ω43)
  else (
  R (.returned (.bool true)) ω43))))))))))))) := E_eq std aList_0 aP_1 w R
theorem drawsOk : drawsOk PP cfg okD (codeOf Try.f9) = true := by kernel_rfl
theorem calls (aList_0 : Sl) (aP_1 : Sl) {w : World} {R : Ending → World → Prop} (h : E std aList_0 aP_1 w R) : Calls PP F.laws_FnExactActiveSites #[Sl.v aList_0, Sl.v aP_1] w R :=
  calls_of noCount mixed drawOk Try.func9 rfl (c := cfg) (args := [Sl.v aList_0, Sl.v aP_1]) rfl (Nat.le_of_ble_eq_true (by kernel_rfl)) drawsOk h
end laws_FnExactActiveSites

namespace laws_FnExactChildrenOf
@[reducible] def cfg : Cfg := ⟨90, [], [], [], [4], [], [93, 51, 18, 26, 23, 44, 60, 19, 57, 123, 109, 126, 53, 100], [61, 85, 110, 74, 127, 120]⟩
def E (pr : Prims) (aList_0 : Sl) (aP_1 : Sl) (w : World) (R : Ending → World → Prop) : Prop :=
  wpC pr PP cfg (DD pr) (codeOf Try.f11) (retQ Try.f11.results.toList R) (argE 0 [Sl.v aList_0, Sl.v aP_1]) w
theorem E_eq (pr : Prims) (aList_0 : Sl) (aP_1 : Sl) (w : World) (R : Ending → World → Prop) : E pr aList_0 aP_1 w R = (
  bif decide ((aP_1.n : Int) > 1048576) then (
  R (.returned (.bool true)) w)
  else (
  pr.call1 (.int .i64) PP F.laws_szIntSS #[Sl.v aList_0, vI 1048576] w fun (ρ0 : Int) ω1 =>
  bif decide (ρ0 < 0) then (
  R (.returned (.bool true)) ω1)
  else (
  pr.call1 .sl PP F.laws_toIntSS #[Sl.v aList_0] ω1 fun (ρ2 : Sl) ω3 =>
  pr.call1 .sl PP F.laws_toIntS #[Sl.v aP_1] ω3 fun (ρ4 : Sl) ω5 =>
  pr.call1 .sl PP F.spec_ChildrenOf #[Sl.v ρ2, Sl.v ρ4] ω5 fun (ρ6 : Sl) ω7 =>
  pr.call1 .sl PP F.laws_toIntSS #[Sl.v aList_0] ω7 fun (ρ8 : Sl) ω9 =>
  pr.call1 .sl PP F.laws_toIntS #[Sl.v aP_1] ω9 fun (ρ10 : Sl) ω11 =>
  pr.call1 .sl PP F.impl_ChildrenOf #[Sl.v ρ8, Sl.v ρ10] ω11 fun (ρ12 : Sl) ω13 =>
  pr.call1 .bool PP F.laws_eqIntSS #[Sl.v ρ12, Sl.v ρ6] ω13 fun (ρ14 : Bool) ω15 =>
  bif !ρ14 then (
  R (.returned (.bool false)) ω15)
  else (
  pr.call1 .sl PP F.laws_toIntSS #[Sl.v aList_0] ω15 fun (ρ16 : Sl) ω17 =>
  pr.call1 .bool PP F.laws_eqIntSS #[Sl.v ρ8, Sl.v ρ16] ω17 fun (ρ18 : Bool) ω19 =>
  bif !ρ18 then (
  R (.returned (.bool false)) ω19)
  else (
  pr.call1 .sl PP F.laws_toIntS #[Sl.v aP_1] ω19 fun (ρ20 : Sl) ω21 =>
  pr.call1 .bool PP F.laws_eqIntS #[Sl.v ρ10, Sl.v ρ20] ω21 fun (ρ22 : Bool) ω23 =>
  bif !ρ22 then (
  R (.returned (.bool false)) ω23)
  else (
  pr.call1 (.int .i64) PP F.laws_markIntSS #[Sl.v ρ8, vI 1] ω23 fun (ρ24 : Int) ω25 =>
  pr.call1 (.int .i64) PP F.laws_markIntS #[Sl.v ρ10, vI ρ24] ω25 fun (ρ26 : Int) ω27 =>
  bif decide (ρ26 < 0) then (
  R (.returned (.bool false)) ω27)
  else (
  pr.call1 .bool PP F.laws_eqIntSS #[Sl.v ρ12, Sl.v ρ6] ω27 fun (ρ28 : Bool) ω29 =>
  bif !ρ28 then (
  R (.returned (.bool false)) ω29)
  else (
  pr.call1 (.int .i64) PP F.laws_markIntSS #[Sl.v ρ12, vI 1] ω29 fun (ρ30 : Int) ω31 =>
  pr.call1 (.int .i64) PP F.laws_heldIntSS #[Sl.v ρ12, vI 1] ω31 fun (ρ32 : Int) ω33 =>
  bif decide (ρ32 < 0) then (
  R (.returned (.bool false)) ω33)
  else (
  bif ρ32 != ρ30 then (
  R (.returned (.bool false)) ω33)
  else (
  pr.call1 .sl PP F.laws_toIntSS #[Sl.v aList_0] ω33 fun (ρ34 : Sl) ω35 =>
  pr.call1 .sl PP F.laws_toIntS #[Sl.v aP_1] ω35 fun (ρ36 : Sl) ω37 =>
  pr.call1 .sl PP F.impl_ChildrenOf #[Sl.v ρ34, Sl.v ρ36] ω37 fun (ρ38 : Sl) ω39 =>
  pr.call1 .bool PP F.laws_eqIntSS #[Sl.v ρ38, Sl.v ρ6] ω39 fun (ρ40 : Bool) ω41 =>
  bif !ρ40 then (
  R (.returned (.bool false)) ω41)
  else (
  pr.call1 (.int .i64) PP F.laws_heldIntSS #[Sl.v ρ12, vI 1] ω41 fun (ρ42 : Int) ω43 =>
  bif decide (ρ42 < 0) then (
  R (.returned (.bool false)) ω43)
  else (
  bif ρ42 != ρ30 then (
  R (.returned (.bool false)) ω43)
  else (
  R (.returned (.bool true)) ω43))))))))))))) := by kernel_rfl
theorem E_s (aList_0 : Sl) (aP_1 : Sl) (w : World) (R : Ending → World → Prop) : E std aList_0 aP_1 w R = (
  bif decide ((aP_1.n : Int) > 1048576) then (
  R (.returned (.bool true)) w)
  else (
  call1 (.int .i64) PP F.laws_szIntSS #[Sl.v aList_0, vI 1048576] w fun (ρ0 : Int) ω1 =>
  bif decide (ρ0 < 0) then (
  R (.returned (.bool true)) ω1)
  else (
  call1 .sl PP F.laws_toIntSS #[Sl.v aList_0] ω1 fun (ρ2 : Sl) ω3 =>
  call1 .sl PP F.laws_toIntS #[Sl.v aP_1] ω3 fun (ρ4 : Sl) ω5 =>
  call1 .sl PP F.spec_ChildrenOf #[Sl.v ρ2, Sl.v ρ4] ω5 fun (ρ6 : Sl) ω7 =>
  call1 .sl PP F.laws_toIntSS #[Sl.v aList_0] ω7 fun (ρ8 : Sl) ω9 =>
  call1 .sl PP F.laws_toIntS #[Sl.v aP_1] ω9 fun (ρ10 : Sl) ω11 =>
  call1 .sl PP F.impl_ChildrenOf #[Sl.v ρ8, Sl.v ρ10] ω11 fun (ρ12 : Sl) ω13 =>
  call1 .bool PP F.laws_eqIntSS #[Sl.v ρ12, Sl.v ρ6] ω13 fun (ρ14 : Bool) ω15 =>
  bif !ρ14 then (
  R (.returned (.bool false)) ω15)
  else (
  call1 .sl PP F.laws_toIntSS #[Sl.v aList_0] ω15 fun (ρ16 : Sl) ω17 =>
  call1 .bool PP F.laws_eqIntSS #[Sl.v ρ8, Sl.v ρ16] ω17 fun (ρ18 : Bool) ω19 =>
  bif !ρ18 then (
  R (.returned (.bool false)) ω19)
  else (
  call1 .sl PP F.laws_toIntS #[Sl.v aP_1] ω19 fun (ρ20 : Sl) ω21 =>
  call1 .bool PP F.laws_eqIntS #[Sl.v ρ10, Sl.v ρ20] ω21 fun (ρ22 : Bool) ω23 =>
  bif !ρ22 then (
  R (.returned (.bool false)) ω23)
  else (
  call1 (.int .i64) PP F.laws_markIntSS #[Sl.v ρ8, vI 1] ω23 fun (ρ24 : Int) ω25 =>
  call1 (.int .i64) PP F.laws_markIntS #[Sl.v ρ10, vI ρ24] ω25 fun (ρ26 : Int) ω27 =>
  bif decide (ρ26 < 0) then (
  R (.returned (.bool false)) ω27)
  else (
  call1 .bool PP F.laws_eqIntSS #[Sl.v ρ12, Sl.v ρ6] ω27 fun (ρ28 : Bool) ω29 =>
  bif !ρ28 then (
  R (.returned (.bool false)) ω29)
  else (
  call1 (.int .i64) PP F.laws_markIntSS #[Sl.v ρ12, vI 1] ω29 fun (ρ30 : Int) ω31 =>
  call1 (.int .i64) PP F.laws_heldIntSS #[Sl.v ρ12, vI 1] ω31 fun (ρ32 : Int) ω33 =>
  bif decide (ρ32 < 0) then (
  R (.returned (.bool false)) ω33)
  else (
  bif ρ32 != ρ30 then (
  R (.returned (.bool false)) ω33)
  else (
  call1 .sl PP F.laws_toIntSS #[Sl.v aList_0] ω33 fun (ρ34 : Sl) ω35 =>
  call1 .sl PP F.laws_toIntS #[Sl.v aP_1] ω35 fun (ρ36 : Sl) ω37 =>
  call1 .sl PP F.impl_ChildrenOf #[Sl.v ρ34, Sl.v ρ36] ω37 fun (ρ38 : Sl) ω39 =>
  call1 .bool PP F.laws_eqIntSS #[Sl.v ρ38, Sl.v ρ6] ω39 fun (ρ40 : Bool) ω41 =>
  bif !ρ40 then (
  R (.returned (.bool false)) ω41)
  else (
  call1 (.int .i64) PP F.laws_heldIntSS #[Sl.v ρ12, vI 1] ω41 fun (ρ42 : Int) ω43 =>
  bif decide (ρ42 < 0) then (
  R (.returned (.bool false)) ω43)
  else (
  bif ρ42 != ρ30 then (
  R (.returned (.bool false)) ω43)
  else (
  R (.returned (.bool true)) ω43))))))))))))) := E_eq std aList_0 aP_1 w R
theorem drawsOk : drawsOk PP cfg okD (codeOf Try.f11) = true := by kernel_rfl
theorem calls (aList_0 : Sl) (aP_1 : Sl) {w : World} {R : Ending → World → Prop} (h : E std aList_0 aP_1 w R) : Calls PP F.laws_FnExactChildrenOf #[Sl.v aList_0, Sl.v aP_1] w R :=
  calls_of noCount mixed drawOk Try.func11 rfl (c := cfg) (args := [Sl.v aList_0, Sl.v aP_1]) rfl (Nat.le_of_ble_eq_true (by kernel_rfl)) drawsOk h
end laws_FnExactChildrenOf

namespace laws_FnExactLabelOf
@[reducible] def cfg : Cfg := ⟨43, [], [], [], [4], [], [93, 51, 18, 26, 23, 44, 60, 19, 57, 123, 109, 126, 53, 100], [61, 85, 110, 74, 127, 120]⟩
def E (pr : Prims) (aList_0 : Sl) (aP_1 : Sl) (w : World) (R : Ending → World → Prop) : Prop :=
  wpC pr PP cfg (DD pr) (codeOf Try.f8) (retQ Try.f8.results.toList R) (argE 0 [Sl.v aList_0, Sl.v aP_1]) w
theorem E_eq (pr : Prims) (aList_0 : Sl) (aP_1 : Sl) (w : World) (R : Ending → World → Prop) : E pr aList_0 aP_1 w R = (
  bif decide ((aP_1.n : Int) > 1048576) then (
  R (.returned (.bool true)) w)
  else (
  pr.call1 (.int .i64) PP F.laws_szIntSS #[Sl.v aList_0, vI 1048576] w fun (ρ0 : Int) ω1 =>
  bif decide (ρ0 < 0) then (
  R (.returned (.bool true)) ω1)
  else (
  pr.call1 .sl PP F.laws_toIntSS #[Sl.v aList_0] ω1 fun (ρ2 : Sl) ω3 =>
  pr.call1 .sl PP F.laws_toIntS #[Sl.v aP_1] ω3 fun (ρ4 : Sl) ω5 =>
  pr.call1 (.int .i64) PP F.spec_LabelOf #[Sl.v ρ2, Sl.v ρ4] ω5 fun (ρ6 : Int) ω7 =>
  pr.call1 .sl PP F.laws_toIntSS #[Sl.v aList_0] ω7 fun (ρ8 : Sl) ω9 =>
  pr.call1 .sl PP F.laws_toIntS #[Sl.v aP_1] ω9 fun (ρ10 : Sl) ω11 =>
  pr.call1 (.int .i64) PP F.impl_LabelOf #[Sl.v ρ8, Sl.v ρ10] ω11 fun (ρ12 : Int) ω13 =>
  bif ρ12 != ρ6 then (
  R (.returned (.bool false)) ω13)
  else (
  pr.call1 .sl PP F.laws_toIntSS #[Sl.v aList_0] ω13 fun (ρ14 : Sl) ω15 =>
  pr.call1 .bool PP F.laws_eqIntSS #[Sl.v ρ8, Sl.v ρ14] ω15 fun (ρ16 : Bool) ω17 =>
  bif !ρ16 then (
  R (.returned (.bool false)) ω17)
  else (
  pr.call1 .sl PP F.laws_toIntS #[Sl.v aP_1] ω17 fun (ρ18 : Sl) ω19 =>
  pr.call1 .bool PP F.laws_eqIntS #[Sl.v ρ10, Sl.v ρ18] ω19 fun (ρ20 : Bool) ω21 =>
  bif !ρ20 then (
  R (.returned (.bool false)) ω21)
  else (
  R (.returned (.bool true)) ω21)))))) := by kernel_rfl
theorem E_s (aList_0 : Sl) (aP_1 : Sl) (w : World) (R : Ending → World → Prop) : E std aList_0 aP_1 w R = (
  bif decide ((aP_1.n : Int) > 1048576) then (
  R (.returned (.bool true)) w)
  else (
  call1 (.int .i64) PP F.laws_szIntSS #[Sl.v aList_0, vI 1048576] w fun (ρ0 : Int) ω1 =>
  bif decide (ρ0 < 0) then (
  R (.returned (.bool true)) ω1)
  else (
  call1 .sl PP F.laws_toIntSS #[Sl.v aList_0] ω1 fun (ρ2 : Sl) ω3 =>
  call1 .sl PP F.laws_toIntS #[Sl.v aP_1] ω3 fun (ρ4 : Sl) ω5 =>
  call1 (.int .i64) PP F.spec_LabelOf #[Sl.v ρ2, Sl.v ρ4] ω5 fun (ρ6 : Int) ω7 =>
  call1 .sl PP F.laws_toIntSS #[Sl.v aList_0] ω7 fun (ρ8 : Sl) ω9 =>
  call1 .sl PP F.laws_toIntS #[Sl.v aP_1] ω9 fun (ρ10 : Sl) ω11 =>
  call1 (.int .i64) PP F.impl_LabelOf #[Sl.v ρ8, Sl.v ρ10] ω11 fun (ρ12 : Int) ω13 =>
  bif ρ12 != ρ6 then (
  R (.returned (.bool false)) ω13)
  else (
  call1 .sl PP F.laws_toIntSS #[Sl.v aList_0] ω13 fun (ρ14 : Sl) ω15 =>
  call1 .bool PP F.laws_eqIntSS #[Sl.v ρ8, Sl.v ρ14] ω15 fun (ρ16 : Bool) ω17 =>
  bif !ρ16 then (
  R (.returned (.bool false)) ω17)
  else (
  call1 .sl PP F.laws_toIntS #[Sl.v aP_1] ω17 fun (ρ18 : Sl) ω19 =>
  call1 .bool PP F.laws_eqIntS #[Sl.v ρ10, Sl.v ρ18] ω19 fun (ρ20 : Bool) ω21 =>
  bif !ρ20 then (
  R (.returned (.bool false)) ω21)
  else (
  R (.returned (.bool true)) ω21)))))) := E_eq std aList_0 aP_1 w R
theorem drawsOk : drawsOk PP cfg okD (codeOf Try.f8) = true := by kernel_rfl
theorem calls (aList_0 : Sl) (aP_1 : Sl) {w : World} {R : Ending → World → Prop} (h : E std aList_0 aP_1 w R) : Calls PP F.laws_FnExactLabelOf #[Sl.v aList_0, Sl.v aP_1] w R :=
  calls_of noCount mixed drawOk Try.func8 rfl (c := cfg) (args := [Sl.v aList_0, Sl.v aP_1]) rfl (Nat.le_of_ble_eq_true (by kernel_rfl)) drawsOk h
end laws_FnExactLabelOf

namespace laws_FnExactLevelSizes
@[reducible] def cfg : Cfg := ⟨74, [], [], [], [4], [], [93, 51, 18, 26, 23, 44, 60, 19, 57, 123, 109, 126, 53, 100], [61, 85, 110, 74, 127, 120]⟩
def E (pr : Prims) (aList_0 : Sl) (aN_1 : Int) (w : World) (R : Ending → World → Prop) : Prop :=
  wpC pr PP cfg (DD pr) (codeOf Try.f12) (retQ Try.f12.results.toList R) (argE 0 [Sl.v aList_0, vI aN_1]) w
theorem E_eq (pr : Prims) (aList_0 : Sl) (aN_1 : Int) (w : World) (R : Ending → World → Prop) : E pr aList_0 aN_1 w R = (
  pr.call1 (.int .i64) PP F.laws_szIntSS #[Sl.v aList_0, vI 1048576] w fun (ρ0 : Int) ω1 =>
  bif decide (ρ0 < 0) then (
  R (.returned (.bool true)) ω1)
  else (
  pr.call1 .sl PP F.laws_toIntSS #[Sl.v aList_0] ω1 fun (ρ2 : Sl) ω3 =>
  pr.call1 .sl PP F.spec_LevelSizes #[Sl.v ρ2, vI aN_1] ω3 fun (ρ4 : Sl) ω5 =>
  pr.call1 .sl PP F.laws_toIntSS #[Sl.v aList_0] ω5 fun (ρ6 : Sl) ω7 =>
  pr.call1 .sl PP F.impl_LevelSizes #[Sl.v ρ6, vI aN_1] ω7 fun (ρ8 : Sl) ω9 =>
  pr.call1 .bool PP F.laws_eqIntS #[Sl.v ρ8, Sl.v ρ4] ω9 fun (ρ10 : Bool) ω11 =>
  bif !ρ10 then (
  R (.returned (.bool false)) ω11)
  else (
  pr.call1 .sl PP F.laws_toIntSS #[Sl.v aList_0] ω11 fun (ρ12 : Sl) ω13 =>
  pr.call1 .bool PP F.laws_eqIntSS #[Sl.v ρ6, Sl.v ρ12] ω13 fun (ρ14 : Bool) ω15 =>
  bif !ρ14 then (
  R (.returned (.bool false)) ω15)
  else (
  pr.call1 (.int .i64) PP F.laws_markIntSS #[Sl.v ρ6, vI 1] ω15 fun (ρ16 : Int) ω17 =>
  bif decide (ρ16 < 0) then (
  R (.returned (.bool false)) ω17)
  else (
  pr.call1 .bool PP F.laws_eqIntS #[Sl.v ρ8, Sl.v ρ4] ω17 fun (ρ18 : Bool) ω19 =>
  bif !ρ18 then (
  R (.returned (.bool false)) ω19)
  else (
  pr.call1 (.int .i64) PP F.laws_markIntS #[Sl.v ρ8, vI 1] ω19 fun (ρ20 : Int) ω21 =>
  pr.call1 (.int .i64) PP F.laws_heldIntS #[Sl.v ρ8, vI 1] ω21 fun (ρ22 : Int) ω23 =>
  bif decide (ρ22 < 0) then (
  R (.returned (.bool false)) ω23)
  else (
  bif ρ22 != ρ20 then (
  R (.returned (.bool false)) ω23)
  else (
  pr.call1 .sl PP F.laws_toIntSS #[Sl.v aList_0] ω23 fun (ρ24 : Sl) ω25 =>
  pr.call1 .sl PP F.impl_LevelSizes #[Sl.v ρ24, vI aN_1] ω25 fun (ρ26 : Sl) ω27 =>
  pr.call1 .bool PP F.laws_eqIntS #[Sl.v ρ26, Sl.v ρ4] ω27 fun (ρ28 : Bool) ω29 =>
  bif !ρ28 then (
  R (.returned (.bool false)) ω29)
  else (
  pr.call1 (.int .i64) PP F.laws_heldIntS #[Sl.v ρ8, vI 1] ω29 fun (ρ30 : Int) ω31 =>
  bif decide (ρ30 < 0) then (
  R (.returned (.bool false)) ω31)
  else (
  bif ρ30 != ρ20 then (
  R (.returned (.bool false)) ω31)
  else (
  R (.returned (.bool true)) ω31))))))))))) := by kernel_rfl
theorem E_s (aList_0 : Sl) (aN_1 : Int) (w : World) (R : Ending → World → Prop) : E std aList_0 aN_1 w R = (
  call1 (.int .i64) PP F.laws_szIntSS #[Sl.v aList_0, vI 1048576] w fun (ρ0 : Int) ω1 =>
  bif decide (ρ0 < 0) then (
  R (.returned (.bool true)) ω1)
  else (
  call1 .sl PP F.laws_toIntSS #[Sl.v aList_0] ω1 fun (ρ2 : Sl) ω3 =>
  call1 .sl PP F.spec_LevelSizes #[Sl.v ρ2, vI aN_1] ω3 fun (ρ4 : Sl) ω5 =>
  call1 .sl PP F.laws_toIntSS #[Sl.v aList_0] ω5 fun (ρ6 : Sl) ω7 =>
  call1 .sl PP F.impl_LevelSizes #[Sl.v ρ6, vI aN_1] ω7 fun (ρ8 : Sl) ω9 =>
  call1 .bool PP F.laws_eqIntS #[Sl.v ρ8, Sl.v ρ4] ω9 fun (ρ10 : Bool) ω11 =>
  bif !ρ10 then (
  R (.returned (.bool false)) ω11)
  else (
  call1 .sl PP F.laws_toIntSS #[Sl.v aList_0] ω11 fun (ρ12 : Sl) ω13 =>
  call1 .bool PP F.laws_eqIntSS #[Sl.v ρ6, Sl.v ρ12] ω13 fun (ρ14 : Bool) ω15 =>
  bif !ρ14 then (
  R (.returned (.bool false)) ω15)
  else (
  call1 (.int .i64) PP F.laws_markIntSS #[Sl.v ρ6, vI 1] ω15 fun (ρ16 : Int) ω17 =>
  bif decide (ρ16 < 0) then (
  R (.returned (.bool false)) ω17)
  else (
  call1 .bool PP F.laws_eqIntS #[Sl.v ρ8, Sl.v ρ4] ω17 fun (ρ18 : Bool) ω19 =>
  bif !ρ18 then (
  R (.returned (.bool false)) ω19)
  else (
  call1 (.int .i64) PP F.laws_markIntS #[Sl.v ρ8, vI 1] ω19 fun (ρ20 : Int) ω21 =>
  call1 (.int .i64) PP F.laws_heldIntS #[Sl.v ρ8, vI 1] ω21 fun (ρ22 : Int) ω23 =>
  bif decide (ρ22 < 0) then (
  R (.returned (.bool false)) ω23)
  else (
  bif ρ22 != ρ20 then (
  R (.returned (.bool false)) ω23)
  else (
  call1 .sl PP F.laws_toIntSS #[Sl.v aList_0] ω23 fun (ρ24 : Sl) ω25 =>
  call1 .sl PP F.impl_LevelSizes #[Sl.v ρ24, vI aN_1] ω25 fun (ρ26 : Sl) ω27 =>
  call1 .bool PP F.laws_eqIntS #[Sl.v ρ26, Sl.v ρ4] ω27 fun (ρ28 : Bool) ω29 =>
  bif !ρ28 then (
  R (.returned (.bool false)) ω29)
  else (
  call1 (.int .i64) PP F.laws_heldIntS #[Sl.v ρ8, vI 1] ω29 fun (ρ30 : Int) ω31 =>
  bif decide (ρ30 < 0) then (
  R (.returned (.bool false)) ω31)
  else (
  bif ρ30 != ρ20 then (
  R (.returned (.bool false)) ω31)
  else (
  R (.returned (.bool true)) ω31))))))))))) := E_eq std aList_0 aN_1 w R
theorem drawsOk : drawsOk PP cfg okD (codeOf Try.f12) = true := by kernel_rfl
theorem calls (aList_0 : Sl) (aN_1 : Int) {w : World} {R : Ending → World → Prop} (h : E std aList_0 aN_1 w R) : Calls PP F.laws_FnExactLevelSizes #[Sl.v aList_0, vI aN_1] w R :=
  calls_of noCount mixed drawOk Try.func12 rfl (c := cfg) (args := [Sl.v aList_0, vI aN_1]) rfl (Nat.le_of_ble_eq_true (by kernel_rfl)) drawsOk h
end laws_FnExactLevelSizes

namespace laws_FnExactLeafCount
@[reducible] def cfg : Cfg := ⟨31, [], [], [], [4], [], [93, 51, 18, 26, 23, 44, 60, 19, 57, 123, 109, 126, 53, 100], [61, 85, 110, 74, 127, 120]⟩
def E (pr : Prims) (aList_0 : Sl) (aN_1 : Int) (w : World) (R : Ending → World → Prop) : Prop :=
  wpC pr PP cfg (DD pr) (codeOf Try.f13) (retQ Try.f13.results.toList R) (argE 0 [Sl.v aList_0, vI aN_1]) w
theorem E_eq (pr : Prims) (aList_0 : Sl) (aN_1 : Int) (w : World) (R : Ending → World → Prop) : E pr aList_0 aN_1 w R = (
  pr.call1 (.int .i64) PP F.laws_szIntSS #[Sl.v aList_0, vI 1048576] w fun (ρ0 : Int) ω1 =>
  bif decide (ρ0 < 0) then (
  R (.returned (.bool true)) ω1)
  else (
  pr.call1 .sl PP F.laws_toIntSS #[Sl.v aList_0] ω1 fun (ρ2 : Sl) ω3 =>
  pr.call1 (.int .i64) PP F.spec_LeafCount #[Sl.v ρ2, vI aN_1] ω3 fun (ρ4 : Int) ω5 =>
  pr.call1 .sl PP F.laws_toIntSS #[Sl.v aList_0] ω5 fun (ρ6 : Sl) ω7 =>
  pr.call1 (.int .i64) PP F.impl_LeafCount #[Sl.v ρ6, vI aN_1] ω7 fun (ρ8 : Int) ω9 =>
  bif ρ8 != ρ4 then (
  R (.returned (.bool false)) ω9)
  else (
  pr.call1 .sl PP F.laws_toIntSS #[Sl.v aList_0] ω9 fun (ρ10 : Sl) ω11 =>
  pr.call1 .bool PP F.laws_eqIntSS #[Sl.v ρ6, Sl.v ρ10] ω11 fun (ρ12 : Bool) ω13 =>
  bif !ρ12 then (
  R (.returned (.bool false)) ω13)
  else (
  R (.returned (.bool true)) ω13)))) := by kernel_rfl
theorem E_s (aList_0 : Sl) (aN_1 : Int) (w : World) (R : Ending → World → Prop) : E std aList_0 aN_1 w R = (
  call1 (.int .i64) PP F.laws_szIntSS #[Sl.v aList_0, vI 1048576] w fun (ρ0 : Int) ω1 =>
  bif decide (ρ0 < 0) then (
  R (.returned (.bool true)) ω1)
  else (
  call1 .sl PP F.laws_toIntSS #[Sl.v aList_0] ω1 fun (ρ2 : Sl) ω3 =>
  call1 (.int .i64) PP F.spec_LeafCount #[Sl.v ρ2, vI aN_1] ω3 fun (ρ4 : Int) ω5 =>
  call1 .sl PP F.laws_toIntSS #[Sl.v aList_0] ω5 fun (ρ6 : Sl) ω7 =>
  call1 (.int .i64) PP F.impl_LeafCount #[Sl.v ρ6, vI aN_1] ω7 fun (ρ8 : Int) ω9 =>
  bif ρ8 != ρ4 then (
  R (.returned (.bool false)) ω9)
  else (
  call1 .sl PP F.laws_toIntSS #[Sl.v aList_0] ω9 fun (ρ10 : Sl) ω11 =>
  call1 .bool PP F.laws_eqIntSS #[Sl.v ρ6, Sl.v ρ10] ω11 fun (ρ12 : Bool) ω13 =>
  bif !ρ12 then (
  R (.returned (.bool false)) ω13)
  else (
  R (.returned (.bool true)) ω13)))) := E_eq std aList_0 aN_1 w R
theorem drawsOk : drawsOk PP cfg okD (codeOf Try.f13) = true := by kernel_rfl
theorem calls (aList_0 : Sl) (aN_1 : Int) {w : World} {R : Ending → World → Prop} (h : E std aList_0 aN_1 w R) : Calls PP F.laws_FnExactLeafCount #[Sl.v aList_0, vI aN_1] w R :=
  calls_of noCount mixed drawOk Try.func13 rfl (c := cfg) (args := [Sl.v aList_0, vI aN_1]) rfl (Nat.le_of_ble_eq_true (by kernel_rfl)) drawsOk h
end laws_FnExactLeafCount

namespace laws_FnExactLowCounts
@[reducible] def cfg : Cfg := ⟨74, [], [], [], [4], [], [93, 51, 18, 26, 23, 44, 60, 19, 57, 123, 109, 126, 53, 100], [61, 85, 110, 74, 127, 120]⟩
def E (pr : Prims) (aList_0 : Sl) (aN_1 : Int) (w : World) (R : Ending → World → Prop) : Prop :=
  wpC pr PP cfg (DD pr) (codeOf Try.f7) (retQ Try.f7.results.toList R) (argE 0 [Sl.v aList_0, vI aN_1]) w
theorem E_eq (pr : Prims) (aList_0 : Sl) (aN_1 : Int) (w : World) (R : Ending → World → Prop) : E pr aList_0 aN_1 w R = (
  pr.call1 (.int .i64) PP F.laws_szIntSS #[Sl.v aList_0, vI 1048576] w fun (ρ0 : Int) ω1 =>
  bif decide (ρ0 < 0) then (
  R (.returned (.bool true)) ω1)
  else (
  pr.call1 .sl PP F.laws_toIntSS #[Sl.v aList_0] ω1 fun (ρ2 : Sl) ω3 =>
  pr.call1 .sl PP F.spec_LowCounts #[Sl.v ρ2, vI aN_1] ω3 fun (ρ4 : Sl) ω5 =>
  pr.call1 .sl PP F.laws_toIntSS #[Sl.v aList_0] ω5 fun (ρ6 : Sl) ω7 =>
  pr.call1 .sl PP F.impl_LowCounts #[Sl.v ρ6, vI aN_1] ω7 fun (ρ8 : Sl) ω9 =>
  pr.call1 .bool PP F.laws_eqIntS #[Sl.v ρ8, Sl.v ρ4] ω9 fun (ρ10 : Bool) ω11 =>
  bif !ρ10 then (
  R (.returned (.bool false)) ω11)
  else (
  pr.call1 .sl PP F.laws_toIntSS #[Sl.v aList_0] ω11 fun (ρ12 : Sl) ω13 =>
  pr.call1 .bool PP F.laws_eqIntSS #[Sl.v ρ6, Sl.v ρ12] ω13 fun (ρ14 : Bool) ω15 =>
  bif !ρ14 then (
  R (.returned (.bool false)) ω15)
  else (
  pr.call1 (.int .i64) PP F.laws_markIntSS #[Sl.v ρ6, vI 1] ω15 fun (ρ16 : Int) ω17 =>
  bif decide (ρ16 < 0) then (
  R (.returned (.bool false)) ω17)
  else (
  pr.call1 .bool PP F.laws_eqIntS #[Sl.v ρ8, Sl.v ρ4] ω17 fun (ρ18 : Bool) ω19 =>
  bif !ρ18 then (
  R (.returned (.bool false)) ω19)
  else (
  pr.call1 (.int .i64) PP F.laws_markIntS #[Sl.v ρ8, vI 1] ω19 fun (ρ20 : Int) ω21 =>
  pr.call1 (.int .i64) PP F.laws_heldIntS #[Sl.v ρ8, vI 1] ω21 fun (ρ22 : Int) ω23 =>
  bif decide (ρ22 < 0) then (
  R (.returned (.bool false)) ω23)
  else (
  bif ρ22 != ρ20 then (
  R (.returned (.bool false)) ω23)
  else (
  pr.call1 .sl PP F.laws_toIntSS #[Sl.v aList_0] ω23 fun (ρ24 : Sl) ω25 =>
  pr.call1 .sl PP F.impl_LowCounts #[Sl.v ρ24, vI aN_1] ω25 fun (ρ26 : Sl) ω27 =>
  pr.call1 .bool PP F.laws_eqIntS #[Sl.v ρ26, Sl.v ρ4] ω27 fun (ρ28 : Bool) ω29 =>
  bif !ρ28 then (
  R (.returned (.bool false)) ω29)
  else (
  pr.call1 (.int .i64) PP F.laws_heldIntS #[Sl.v ρ8, vI 1] ω29 fun (ρ30 : Int) ω31 =>
  bif decide (ρ30 < 0) then (
  R (.returned (.bool false)) ω31)
  else (
  bif ρ30 != ρ20 then (
  R (.returned (.bool false)) ω31)
  else (
  R (.returned (.bool true)) ω31))))))))))) := by kernel_rfl
theorem E_s (aList_0 : Sl) (aN_1 : Int) (w : World) (R : Ending → World → Prop) : E std aList_0 aN_1 w R = (
  call1 (.int .i64) PP F.laws_szIntSS #[Sl.v aList_0, vI 1048576] w fun (ρ0 : Int) ω1 =>
  bif decide (ρ0 < 0) then (
  R (.returned (.bool true)) ω1)
  else (
  call1 .sl PP F.laws_toIntSS #[Sl.v aList_0] ω1 fun (ρ2 : Sl) ω3 =>
  call1 .sl PP F.spec_LowCounts #[Sl.v ρ2, vI aN_1] ω3 fun (ρ4 : Sl) ω5 =>
  call1 .sl PP F.laws_toIntSS #[Sl.v aList_0] ω5 fun (ρ6 : Sl) ω7 =>
  call1 .sl PP F.impl_LowCounts #[Sl.v ρ6, vI aN_1] ω7 fun (ρ8 : Sl) ω9 =>
  call1 .bool PP F.laws_eqIntS #[Sl.v ρ8, Sl.v ρ4] ω9 fun (ρ10 : Bool) ω11 =>
  bif !ρ10 then (
  R (.returned (.bool false)) ω11)
  else (
  call1 .sl PP F.laws_toIntSS #[Sl.v aList_0] ω11 fun (ρ12 : Sl) ω13 =>
  call1 .bool PP F.laws_eqIntSS #[Sl.v ρ6, Sl.v ρ12] ω13 fun (ρ14 : Bool) ω15 =>
  bif !ρ14 then (
  R (.returned (.bool false)) ω15)
  else (
  call1 (.int .i64) PP F.laws_markIntSS #[Sl.v ρ6, vI 1] ω15 fun (ρ16 : Int) ω17 =>
  bif decide (ρ16 < 0) then (
  R (.returned (.bool false)) ω17)
  else (
  call1 .bool PP F.laws_eqIntS #[Sl.v ρ8, Sl.v ρ4] ω17 fun (ρ18 : Bool) ω19 =>
  bif !ρ18 then (
  R (.returned (.bool false)) ω19)
  else (
  call1 (.int .i64) PP F.laws_markIntS #[Sl.v ρ8, vI 1] ω19 fun (ρ20 : Int) ω21 =>
  call1 (.int .i64) PP F.laws_heldIntS #[Sl.v ρ8, vI 1] ω21 fun (ρ22 : Int) ω23 =>
  bif decide (ρ22 < 0) then (
  R (.returned (.bool false)) ω23)
  else (
  bif ρ22 != ρ20 then (
  R (.returned (.bool false)) ω23)
  else (
  call1 .sl PP F.laws_toIntSS #[Sl.v aList_0] ω23 fun (ρ24 : Sl) ω25 =>
  call1 .sl PP F.impl_LowCounts #[Sl.v ρ24, vI aN_1] ω25 fun (ρ26 : Sl) ω27 =>
  call1 .bool PP F.laws_eqIntS #[Sl.v ρ26, Sl.v ρ4] ω27 fun (ρ28 : Bool) ω29 =>
  bif !ρ28 then (
  R (.returned (.bool false)) ω29)
  else (
  call1 (.int .i64) PP F.laws_heldIntS #[Sl.v ρ8, vI 1] ω29 fun (ρ30 : Int) ω31 =>
  bif decide (ρ30 < 0) then (
  R (.returned (.bool false)) ω31)
  else (
  bif ρ30 != ρ20 then (
  R (.returned (.bool false)) ω31)
  else (
  R (.returned (.bool true)) ω31))))))))))) := E_eq std aList_0 aN_1 w R
theorem drawsOk : drawsOk PP cfg okD (codeOf Try.f7) = true := by kernel_rfl
theorem calls (aList_0 : Sl) (aN_1 : Int) {w : World} {R : Ending → World → Prop} (h : E std aList_0 aN_1 w R) : Calls PP F.laws_FnExactLowCounts #[Sl.v aList_0, vI aN_1] w R :=
  calls_of noCount mixed drawOk Try.func7 rfl (c := cfg) (args := [Sl.v aList_0, vI aN_1]) rfl (Nat.le_of_ble_eq_true (by kernel_rfl)) drawsOk h
end laws_FnExactLowCounts

end Go.Proofs.Ythbjkgpbnfibkaa
