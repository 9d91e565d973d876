/- What each function does, step by step, written by a program (Gen.lean); each equation is checked by the kernel. -/
import Derived.Test.YtmhgjfahgemblaaHead
namespace Go.Proofs.Ytmhgjfahgemblaa
open Go
set_option linter.unusedVariables false
set_option maxRecDepth 100000
namespace spec_l14Sites
@[reducible] def cfg : Cfg := ⟨24, [(3, [0, 1, 5, 6])], [(1, [0, 1, 5, 6]), (0, [5])], [], [4], [], [62, 10, 22, 58, 24, 44, 18, 70, 43, 85, 25, 71, 59, 37, 63], [82, 113, 102, 38, 103, 26, 60]⟩
def q2 (pr : Prims) (R : Ending → World → Prop) : Exit → Env → World → Prop := fun ex e w => normQ ex (fun e w => contE pr cfg (sub (codeOf Try.f47) [1, 1, 1]) (fun e w => wpC pr PP cfg (DD pr) (sub (codeOf Try.f47) [1, 1, 1]) (retQ Try.f47.results.toList R) e w) e w) (retQ Try.f47.results.toList R) e w
def q3 (pr : Prims) (R : Ending → World → Prop) : Exit → Env → World → Prop := fun ex e w => blockQ ex 0 (q2 pr R) e w
def emb3 (list_0 : Sl) (p_1 : Sl) (out_5 : Sl) (site_6 : Int) : Env := [(0, Sl.v list_0), (1, Sl.v p_1), (5, Sl.v out_5), (6, vI site_6)]
def x0 (out_5 : Sl) : Env := [(5, Sl.v out_5)]
def S3 (pr : Prims) (Q : Exit → Env → World → Prop) : (Env → World → Prop) → Env → World → Prop := fun k e w => wpC pr PP cfg (DD pr) (sub (codeOf Try.f47) [1, 1, 0, 1, 0, 0]) (fun ex e w => normQ ex (fun e' w' => k (Env.restr e' (lookN cfg.loops (keyOf (sub (codeOf Try.f47) [1, 1, 0, 1, 0, 0])))) w') Q e w) e w
def B3 (pr : Prims) (list_0 : Sl) (p_1 : Sl) (out_5 : Sl) (site_6 : Int) (w : World) (k : Env → World → Prop) (Q : Exit → Env → World → Prop) : Prop :=
  S3 pr Q k (emb3 list_0 p_1 out_5 site_6) w
def L3 (pr : Prims) (list_0 : Sl) (p_1 : Sl) (out_5 : Sl) (site_6 : Int) (w : World) (Q : Exit → Env → World → Prop) : Prop :=
  pr.loop (S3 pr Q) (emb3 list_0 p_1 out_5 site_6) w
def E (pr : Prims) (list_0 : Sl) (p_1 : Sl) (w : World) (R : Ending → World → Prop) : Prop :=
  wpC pr PP cfg (DD pr) (codeOf Try.f47) (retQ Try.f47.results.toList R) (argE 0 [Sl.v list_0, Sl.v p_1]) w
theorem B3_eq (pr : Prims) (list_0 : Sl) (p_1 : Sl) (out_5 : Sl) (site_6 : Int) (w : World) (k : Env → World → Prop) (Q : Exit → Env → World → Prop) : B3 pr list_0 p_1 out_5 site_6 w k Q = (
  bif decide (site_6 ≤ (p_1.n : Int)) then (
  pr.call1 .sl PP F.spec_l14Child #[Sl.v p_1, vI site_6] w fun (ρ4 : Sl) ω5 =>
  pr.call1 .bool PP F.spec_l12Avoids #[Sl.v list_0, Sl.v ρ4] ω5 fun (ρ6 : Bool) ω7 =>
  bif ρ6 then (
  pr.sem1 .sl PP (Instr.buildSlice T_Sint 1 #[(0, vI site_6)]) ω7 fun (ρ8 : Sl) ω9 =>
  pr.sem1 .sl PP (Builtin.append_ #[T_Sint, T_Sint] T_Sint #[Sl.v out_5, Sl.v ρ8]) ω9 fun (ρ10 : Sl) ω11 =>
  k (emb3 list_0 p_1 ρ10 (w64 (site_6 + 1))) ω11)
  else (
  k (emb3 list_0 p_1 out_5 (w64 (site_6 + 1))) ω7))
  else (
  Q (.exit 0) (x0 out_5) w)) := by kernel_rfl
theorem B3_s (list_0 : Sl) (p_1 : Sl) (out_5 : Sl) (site_6 : Int) (w : World) (k : Env → World → Prop) (Q : Exit → Env → World → Prop) : B3 std list_0 p_1 out_5 site_6 w k Q = (
  bif decide (site_6 ≤ (p_1.n : Int)) then (
  call1 .sl PP F.spec_l14Child #[Sl.v p_1, vI site_6] w fun (ρ4 : Sl) ω5 =>
  call1 .bool PP F.spec_l12Avoids #[Sl.v list_0, Sl.v ρ4] ω5 fun (ρ6 : Bool) ω7 =>
  bif ρ6 then (
  sem1 .sl PP (Instr.buildSlice T_Sint 1 #[(0, vI site_6)]) ω7 fun (ρ8 : Sl) ω9 =>
  sem1 .sl PP (Builtin.append_ #[T_Sint, T_Sint] T_Sint #[Sl.v out_5, Sl.v ρ8]) ω9 fun (ρ10 : Sl) ω11 =>
  k (emb3 list_0 p_1 ρ10 (w64 (site_6 + 1))) ω11)
  else (
  k (emb3 list_0 p_1 out_5 (w64 (site_6 + 1))) ω7))
  else (
  Q (.exit 0) (x0 out_5) w)) := B3_eq std list_0 p_1 out_5 site_6 w k Q
theorem L3_rule (list_0 : Sl) (p_1 : Sl) (out_5 : Sl) (site_6 : Int) (w : World) (Q : Exit → Env → World → Prop) (I : Sl → Int → World → Prop) (μ : Sl → Int → World → Nat) (h0 : I out_5 site_6 w)
    (h : ∀ (out_5 : Sl) (site_6 : Int) (w' : World), I out_5 site_6 w' → B3 std list_0 p_1 out_5 site_6 w' (fun e2 w2 => ∃ out_5_n site_6_n, e2 = emb3 list_0 p_1 out_5_n site_6_n ∧ I out_5_n site_6_n w2 ∧ μ out_5_n site_6_n w2 < μ out_5 site_6 w') Q) :
    L3 std list_0 p_1 out_5 site_6 w Q := by
  unfold L3
  refine LoopE.intro (σ := Sl × Int) (step := S3 std Q) (fun s => emb3 list_0 p_1 s.1 s.2) (fun s w => I s.1 s.2 w) (fun s w => μ s.1 s.2 w) (out_5, site_6) rfl h0 ?_
  intro s w' hI
  have h1 := h s.1 s.2 w' hI
  unfold B3 at h1
  simp only [Prod.exists]
  exact h1
theorem A3_0_eq (pr : Prims) (out_5 : Sl) (w : World) (R : Ending → World → Prop) : (q3 pr R) (.exit 0) (x0 out_5) w = (
  R (.returned (Sl.v out_5)) w) := by kernel_rfl
theorem A3_0_s (out_5 : Sl) (w : World) (R : Ending → World → Prop) : (q3 std R) (.exit 0) (x0 out_5) w = (
  R (.returned (Sl.v out_5)) w) := A3_0_eq std out_5 w R
theorem E_eq (pr : Prims) (list_0 : Sl) (p_1 : Sl) (w : World) (R : Ending → World → Prop) : E pr list_0 p_1 w R = (
  pr.sem1 .sl PP (Instr.buildSlice T_Sint 0 #[]) w fun (ρ0 : Sl) ω1 =>
  L3 pr list_0 p_1 ρ0 0 ω1 (q3 pr R)) := by kernel_rfl
theorem E_s (list_0 : Sl) (p_1 : Sl) (w : World) (R : Ending → World → Prop) : E std list_0 p_1 w R = (
  sem1 .sl PP (Instr.buildSlice T_Sint 0 #[]) w fun (ρ0 : Sl) ω1 =>
  L3 std list_0 p_1 ρ0 0 ω1 (q3 std R)) := E_eq std list_0 p_1 w R
theorem drawsOk : drawsOk PP cfg okD (codeOf Try.f47) = true := by kernel_rfl
theorem calls (list_0 : Sl) (p_1 : Sl) {w : World} {R : Ending → World → Prop} (h : E std list_0 p_1 w R) : Calls PP F.spec_l14Sites #[Sl.v list_0, Sl.v p_1] w R :=
  calls_of noCount mixed drawOk Try.func47 rfl (c := cfg) (args := [Sl.v list_0, Sl.v p_1]) rfl (Nat.le_of_ble_eq_true (by kernel_rfl)) drawsOk h
end spec_l14Sites

namespace spec_ActiveSites
@[reducible] def cfg : Cfg := ⟨18, [], [], [], [4], [], [62, 10, 22, 58, 24, 44, 18, 70, 43, 85, 25, 71, 59, 37, 63], [82, 113, 102, 38, 103, 26, 60]⟩
def E (pr : Prims) (list_0 : Sl) (p_1 : Sl) (w : World) (R : Ending → World → Prop) : Prop :=
  wpC pr PP cfg (DD pr) (codeOf Try.f86) (retQ Try.f86.results.toList R) (argE 0 [Sl.v list_0, Sl.v p_1]) w
theorem E_eq (pr : Prims) (list_0 : Sl) (p_1 : Sl) (w : World) (R : Ending → World → Prop) : E pr list_0 p_1 w R = (
  pr.call1 .bool PP F.spec_InClass #[Sl.v list_0, Sl.v p_1] w fun (ρ0 : Bool) ω1 =>
  bif !ρ0 then (
  pr.sem1 .sl PP (Instr.buildSlice T_Sint 0 #[]) ω1 fun (ρ2 : Sl) ω3 =>
  R (.returned (Sl.v ρ2)) ω3)
  else (
  bif (p_1.n : Int) == 8 then (
  pr.sem1 .sl PP (Instr.buildSlice T_Sint 0 #[]) ω1 fun (ρ4 : Sl) ω5 =>
  R (.returned (Sl.v ρ4)) ω5)
  else (
  pr.call1 .sl PP F.spec_l14Sites #[Sl.v list_0, Sl.v p_1] ω1 fun (ρ6 : Sl) ω7 =>
  R (.returned (Sl.v ρ6)) ω7))) := by kernel_rfl
theorem E_s (list_0 : Sl) (p_1 : Sl) (w : World) (R : Ending → World → Prop) : E std list_0 p_1 w R = (
  call1 .bool PP F.spec_InClass #[Sl.v list_0, Sl.v p_1] w fun (ρ0 : Bool) ω1 =>
  bif !ρ0 then (
  sem1 .sl PP (Instr.buildSlice T_Sint 0 #[]) ω1 fun (ρ2 : Sl) ω3 =>
  R (.returned (Sl.v ρ2)) ω3)
  else (
  bif (p_1.n : Int) == 8 then (
  sem1 .sl PP (Instr.buildSlice T_Sint 0 #[]) ω1 fun (ρ4 : Sl) ω5 =>
  R (.returned (Sl.v ρ4)) ω5)
  else (
  call1 .sl PP F.spec_l14Sites #[Sl.v list_0, Sl.v p_1] ω1 fun (ρ6 : Sl) ω7 =>
  R (.returned (Sl.v ρ6)) ω7))) := E_eq std list_0 p_1 w R
theorem drawsOk : drawsOk PP cfg okD (codeOf Try.f86) = true := by kernel_rfl
theorem calls (list_0 : Sl) (p_1 : Sl) {w : World} {R : Ending → World → Prop} (h : E std list_0 p_1 w R) : Calls PP F.spec_ActiveSites #[Sl.v list_0, Sl.v p_1] w R :=
  calls_of noCount mixed drawOk Try.func86 rfl (c := cfg) (args := [Sl.v list_0, Sl.v p_1]) rfl (Nat.le_of_ble_eq_true (by kernel_rfl)) drawsOk h
end spec_ActiveSites

namespace spec_ChildrenOf
@[reducible] def cfg : Cfg := ⟨28, [(4, [1, 5, 6, 7])], [(1, [1, 5, 6, 7]), (0, [5])], [], [4], [], [62, 10, 22, 58, 24, 44, 18, 70, 43, 85, 25, 71, 59, 37, 63], [82, 113, 102, 38, 103, 26, 60]⟩
def q4 (pr : Prims) (R : Ending → World → Prop) : Exit → Env → World → Prop := fun ex e w => normQ ex (fun e w => contE pr cfg (sub (codeOf Try.f74) [1, 1, 1, 1]) (fun e w => wpC pr PP cfg (DD pr) (sub (codeOf Try.f74) [1, 1, 1, 1]) (retQ Try.f74.results.toList R) e w) e w) (retQ Try.f74.results.toList R) e w
def q5 (pr : Prims) (R : Ending → World → Prop) : Exit → Env → World → Prop := fun ex e w => blockQ ex 0 (q4 pr R) e w
def emb4 (p_1 : Sl) (out_5 : Sl) (sites_6 : Sl) (k_7 : Int) : Env := [(1, Sl.v p_1), (5, Sl.v out_5), (6, Sl.v sites_6), (7, vI k_7)]
def x0 (out_5 : Sl) : Env := [(5, Sl.v out_5)]
def S4 (pr : Prims) (Q : Exit → Env → World → Prop) : (Env → World → Prop) → Env → World → Prop := fun k e w => wpC pr PP cfg (DD pr) (sub (codeOf Try.f74) [1, 1, 1, 0, 1, 0, 0]) (fun ex e w => normQ ex (fun e' w' => k (Env.restr e' (lookN cfg.loops (keyOf (sub (codeOf Try.f74) [1, 1, 1, 0, 1, 0, 0])))) w') Q e w) e w
def B4 (pr : Prims) (p_1 : Sl) (out_5 : Sl) (sites_6 : Sl) (k_7 : Int) (w : World) (k : Env → World → Prop) (Q : Exit → Env → World → Prop) : Prop :=
  S4 pr Q k (emb4 p_1 out_5 sites_6 k_7) w
def L4 (pr : Prims) (p_1 : Sl) (out_5 : Sl) (sites_6 : Sl) (k_7 : Int) (w : World) (Q : Exit → Env → World → Prop) : Prop :=
  pr.loop (S4 pr Q) (emb4 p_1 out_5 sites_6 k_7) w
def E (pr : Prims) (list_0 : Sl) (p_1 : Sl) (w : World) (R : Ending → World → Prop) : Prop :=
  wpC pr PP cfg (DD pr) (codeOf Try.f74) (retQ Try.f74.results.toList R) (argE 0 [Sl.v list_0, Sl.v p_1]) w
theorem B4_eq (pr : Prims) (p_1 : Sl) (out_5 : Sl) (sites_6 : Sl) (k_7 : Int) (w : World) (k : Env → World → Prop) (Q : Exit → Env → World → Prop) : B4 pr p_1 out_5 sites_6 k_7 w k Q = (
  bif decide (k_7 < (sites_6.n : Int)) then (
  pr.idxK 1 sites_6 k_7 fun (a6 : Addr) =>
  pr.load1 (.int .i64) a6 w fun (ξ7 : Int) =>
  pr.call1 .sl PP F.spec_l14Child #[Sl.v p_1, vI ξ7] w fun (ρ8 : Sl) ω9 =>
  pr.sem1 .sl PP (Instr.buildSlice T_SSint 1 #[(0, Sl.v ρ8)]) ω9 fun (ρ10 : Sl) ω11 =>
  pr.sem1 .sl PP (Builtin.append_ #[T_SSint, T_SSint] T_SSint #[Sl.v out_5, Sl.v ρ10]) ω11 fun (ρ12 : Sl) ω13 =>
  k (emb4 p_1 ρ12 sites_6 (w64 (k_7 + 1))) ω13)
  else (
  Q (.exit 0) (x0 out_5) w)) := by kernel_rfl
theorem B4_s (p_1 : Sl) (out_5 : Sl) (sites_6 : Sl) (k_7 : Int) (w : World) (k : Env → World → Prop) (Q : Exit → Env → World → Prop) : B4 std p_1 out_5 sites_6 k_7 w k Q = (
  bif decide (k_7 < (sites_6.n : Int)) then (
  idxK 1 sites_6 k_7 fun (a6 : Addr) =>
  load1 (.int .i64) a6 w fun (ξ7 : Int) =>
  call1 .sl PP F.spec_l14Child #[Sl.v p_1, vI ξ7] w fun (ρ8 : Sl) ω9 =>
  sem1 .sl PP (Instr.buildSlice T_SSint 1 #[(0, Sl.v ρ8)]) ω9 fun (ρ10 : Sl) ω11 =>
  sem1 .sl PP (Builtin.append_ #[T_SSint, T_SSint] T_SSint #[Sl.v out_5, Sl.v ρ10]) ω11 fun (ρ12 : Sl) ω13 =>
  k (emb4 p_1 ρ12 sites_6 (w64 (k_7 + 1))) ω13)
  else (
  Q (.exit 0) (x0 out_5) w)) := B4_eq std p_1 out_5 sites_6 k_7 w k Q
theorem L4_rule (p_1 : Sl) (out_5 : Sl) (sites_6 : Sl) (k_7 : Int) (w : World) (Q : Exit → Env → World → Prop) (I : Sl → Int → World → Prop) (μ : Sl → Int → World → Nat) (h0 : I out_5 k_7 w)
    (h : ∀ (out_5 : Sl) (k_7 : Int) (w' : World), I out_5 k_7 w' → B4 std p_1 out_5 sites_6 k_7 w' (fun e2 w2 => ∃ out_5_n k_7_n, e2 = emb4 p_1 out_5_n sites_6 k_7_n ∧ I out_5_n k_7_n w2 ∧ μ out_5_n k_7_n w2 < μ out_5 k_7 w') Q) :
    L4 std p_1 out_5 sites_6 k_7 w Q := by
  unfold L4
  refine LoopE.intro (σ := Sl × Int) (step := S4 std Q) (fun s => emb4 p_1 s.1 sites_6 s.2) (fun s w => I s.1 s.2 w) (fun s w => μ s.1 s.2 w) (out_5, k_7) rfl h0 ?_
  intro s w' hI
  have h1 := h s.1 s.2 w' hI
  unfold B4 at h1
  simp only [Prod.exists]
  exact h1
theorem A4_0_eq (pr : Prims) (out_5 : Sl) (w : World) (R : Ending → World → Prop) : (q5 pr R) (.exit 0) (x0 out_5) w = (
  R (.returned (Sl.v out_5)) w) := by kernel_rfl
theorem A4_0_s (out_5 : Sl) (w : World) (R : Ending → World → Prop) : (q5 std R) (.exit 0) (x0 out_5) w = (
  R (.returned (Sl.v out_5)) w) := A4_0_eq std out_5 w R
theorem E_eq (pr : Prims) (list_0 : Sl) (p_1 : Sl) (w : World) (R : Ending → World → Prop) : E pr list_0 p_1 w R = (
  pr.sem1 .sl PP (Instr.buildSlice T_SSint 0 #[]) w fun (ρ0 : Sl) ω1 =>
  pr.call1 .sl PP F.spec_ActiveSites #[Sl.v list_0, Sl.v p_1] ω1 fun (ρ2 : Sl) ω3 =>
  L4 pr p_1 ρ0 ρ2 0 ω3 (q5 pr R)) := by kernel_rfl
theorem E_s (list_0 : Sl) (p_1 : Sl) (w : World) (R : Ending → World → Prop) : E std list_0 p_1 w R = (
  sem1 .sl PP (Instr.buildSlice T_SSint 0 #[]) w fun (ρ0 : Sl) ω1 =>
  call1 .sl PP F.spec_ActiveSites #[Sl.v list_0, Sl.v p_1] ω1 fun (ρ2 : Sl) ω3 =>
  L4 std p_1 ρ0 ρ2 0 ω3 (q5 std R)) := E_eq std list_0 p_1 w R
theorem drawsOk : drawsOk PP cfg okD (codeOf Try.f74) = true := by kernel_rfl
theorem calls (list_0 : Sl) (p_1 : Sl) {w : World} {R : Ending → World → Prop} (h : E std list_0 p_1 w R) : Calls PP F.spec_ChildrenOf #[Sl.v list_0, Sl.v p_1] w R :=
  calls_of noCount mixed drawOk Try.func74 rfl (c := cfg) (args := [Sl.v list_0, Sl.v p_1]) rfl (Nat.le_of_ble_eq_true (by kernel_rfl)) drawsOk h
end spec_ChildrenOf

namespace impl_active
@[reducible] def cfg : Cfg := ⟨25, [(3, [0, 1, 5, 10, 11])], [(1, [0, 1, 5, 10, 11]), (0, [5])], [], [4], [], [62, 10, 22, 58, 24, 44, 18, 70, 43, 85, 25, 71, 59, 37, 63], [82, 113, 102, 38, 103, 26, 60]⟩
def q2 (pr : Prims) (R : Ending → World → Prop) : Exit → Env → World → Prop := fun ex e w => normQ ex (fun e w => contE pr cfg (sub (codeOf Try.f52) [1, 1, 1]) (fun e w => wpC pr PP cfg (DD pr) (sub (codeOf Try.f52) [1, 1, 1]) (retQ Try.f52.results.toList R) e w) e w) (retQ Try.f52.results.toList R) e w
def q3 (pr : Prims) (R : Ending → World → Prop) : Exit → Env → World → Prop := fun ex e w => blockQ ex 0 (q2 pr R) e w
def emb3 (list_0 : Sl) (p_1 : Sl) (out_5 : Sl) (t10 : Int) (t11 : Int) : Env := [(0, Sl.v list_0), (1, Sl.v p_1), (5, Sl.v out_5), (10, vI t10), (11, vI t11)]
def x0 (out_5 : Sl) : Env := [(5, Sl.v out_5)]
def S3 (pr : Prims) (Q : Exit → Env → World → Prop) : (Env → World → Prop) → Env → World → Prop := fun k e w => wpC pr PP cfg (DD pr) (sub (codeOf Try.f52) [1, 1, 0, 1, 0, 0]) (fun ex e w => normQ ex (fun e' w' => k (Env.restr e' (lookN cfg.loops (keyOf (sub (codeOf Try.f52) [1, 1, 0, 1, 0, 0])))) w') Q e w) e w
def B3 (pr : Prims) (list_0 : Sl) (p_1 : Sl) (out_5 : Sl) (t10 : Int) (t11 : Int) (w : World) (k : Env → World → Prop) (Q : Exit → Env → World → Prop) : Prop :=
  S3 pr Q k (emb3 list_0 p_1 out_5 t10 t11) w
def L3 (pr : Prims) (list_0 : Sl) (p_1 : Sl) (out_5 : Sl) (t10 : Int) (t11 : Int) (w : World) (Q : Exit → Env → World → Prop) : Prop :=
  pr.loop (S3 pr Q) (emb3 list_0 p_1 out_5 t10 t11) w
def E (pr : Prims) (list_0 : Sl) (p_1 : Sl) (w : World) (R : Ending → World → Prop) : Prop :=
  wpC pr PP cfg (DD pr) (codeOf Try.f52) (retQ Try.f52.results.toList R) (argE 0 [Sl.v list_0, Sl.v p_1]) w
theorem B3_eq (pr : Prims) (list_0 : Sl) (p_1 : Sl) (out_5 : Sl) (t10 : Int) (t11 : Int) (w : World) (k : Env → World → Prop) (Q : Exit → Env → World → Prop) : B3 pr list_0 p_1 out_5 t10 t11 w k Q = (
  bif decide (t11 < t10) then (
  pr.call1 .sl PP F.impl_child #[Sl.v p_1, vI t11] w fun (ρ4 : Sl) ω5 =>
  pr.call1 .bool PP F.impl_avoids #[Sl.v list_0, Sl.v ρ4] ω5 fun (ρ6 : Bool) ω7 =>
  bif ρ6 then (
  pr.sem1 .sl PP (Instr.buildSlice T_Sint 1 #[(0, vI t11)]) ω7 fun (ρ8 : Sl) ω9 =>
  pr.sem1 .sl PP (Builtin.append_ #[T_Sint, T_Sint] T_Sint #[Sl.v out_5, Sl.v ρ8]) ω9 fun (ρ10 : Sl) ω11 =>
  k (emb3 list_0 p_1 ρ10 t10 (w64 (t11 + 1))) ω11)
  else (
  k (emb3 list_0 p_1 out_5 t10 (w64 (t11 + 1))) ω7))
  else (
  Q (.exit 0) (x0 out_5) w)) := by kernel_rfl
theorem B3_s (list_0 : Sl) (p_1 : Sl) (out_5 : Sl) (t10 : Int) (t11 : Int) (w : World) (k : Env → World → Prop) (Q : Exit → Env → World → Prop) : B3 std list_0 p_1 out_5 t10 t11 w k Q = (
  bif decide (t11 < t10) then (
  call1 .sl PP F.impl_child #[Sl.v p_1, vI t11] w fun (ρ4 : Sl) ω5 =>
  call1 .bool PP F.impl_avoids #[Sl.v list_0, Sl.v ρ4] ω5 fun (ρ6 : Bool) ω7 =>
  bif ρ6 then (
  sem1 .sl PP (Instr.buildSlice T_Sint 1 #[(0, vI t11)]) ω7 fun (ρ8 : Sl) ω9 =>
  sem1 .sl PP (Builtin.append_ #[T_Sint, T_Sint] T_Sint #[Sl.v out_5, Sl.v ρ8]) ω9 fun (ρ10 : Sl) ω11 =>
  k (emb3 list_0 p_1 ρ10 t10 (w64 (t11 + 1))) ω11)
  else (
  k (emb3 list_0 p_1 out_5 t10 (w64 (t11 + 1))) ω7))
  else (
  Q (.exit 0) (x0 out_5) w)) := B3_eq std list_0 p_1 out_5 t10 t11 w k Q
theorem L3_rule (list_0 : Sl) (p_1 : Sl) (out_5 : Sl) (t10 : Int) (t11 : Int) (w : World) (Q : Exit → Env → World → Prop) (I : Sl → Int → World → Prop) (μ : Sl → Int → World → Nat) (h0 : I out_5 t11 w)
    (h : ∀ (out_5 : Sl) (t11 : Int) (w' : World), I out_5 t11 w' → B3 std list_0 p_1 out_5 t10 t11 w' (fun e2 w2 => ∃ out_5_n t11_n, e2 = emb3 list_0 p_1 out_5_n t10 t11_n ∧ I out_5_n t11_n w2 ∧ μ out_5_n t11_n w2 < μ out_5 t11 w') Q) :
    L3 std list_0 p_1 out_5 t10 t11 w Q := by
  unfold L3
  refine LoopE.intro (σ := Sl × Int) (step := S3 std Q) (fun s => emb3 list_0 p_1 s.1 t10 s.2) (fun s w => I s.1 s.2 w) (fun s w => μ s.1 s.2 w) (out_5, t11) rfl h0 ?_
  intro s w' hI
  have h1 := h s.1 s.2 w' hI
  unfold B3 at h1
  simp only [Prod.exists]
  exact h1
theorem A3_0_eq (pr : Prims) (out_5 : Sl) (w : World) (R : Ending → World → Prop) : (q3 pr R) (.exit 0) (x0 out_5) w = (
  R (.returned (Sl.v out_5)) w) := by kernel_rfl
theorem A3_0_s (out_5 : Sl) (w : World) (R : Ending → World → Prop) : (q3 std R) (.exit 0) (x0 out_5) w = (
  R (.returned (Sl.v out_5)) w) := A3_0_eq std out_5 w R
theorem E_eq (pr : Prims) (list_0 : Sl) (p_1 : Sl) (w : World) (R : Ending → World → Prop) : E pr list_0 p_1 w R = (
  pr.sem1 .sl PP (Instr.buildSlice T_Sint 0 #[]) w fun (ρ0 : Sl) ω1 =>
  L3 pr list_0 p_1 ρ0 (w64 ((p_1.n : Int) + 1)) 0 ω1 (q3 pr R)) := by kernel_rfl
theorem E_s (list_0 : Sl) (p_1 : Sl) (w : World) (R : Ending → World → Prop) : E std list_0 p_1 w R = (
  sem1 .sl PP (Instr.buildSlice T_Sint 0 #[]) w fun (ρ0 : Sl) ω1 =>
  L3 std list_0 p_1 ρ0 (w64 ((p_1.n : Int) + 1)) 0 ω1 (q3 std R)) := E_eq std list_0 p_1 w R
theorem drawsOk : drawsOk PP cfg okD (codeOf Try.f52) = true := by kernel_rfl
theorem calls (list_0 : Sl) (p_1 : Sl) {w : World} {R : Ending → World → Prop} (h : E std list_0 p_1 w R) : Calls PP F.impl_active #[Sl.v list_0, Sl.v p_1] w R :=
  calls_of noCount mixed drawOk Try.func52 rfl (c := cfg) (args := [Sl.v list_0, Sl.v p_1]) rfl (Nat.le_of_ble_eq_true (by kernel_rfl)) drawsOk h
end impl_active

namespace impl_children
@[reducible] def cfg : Cfg := ⟨25, [(3, [1, 5, 11, 12, 13])], [(1, [1, 5, 11, 12, 13]), (0, [5])], [], [4], [], [62, 10, 22, 58, 24, 44, 18, 70, 43, 85, 25, 71, 59, 37, 63], [82, 113, 102, 38, 103, 26, 60]⟩
def q2 (pr : Prims) (R : Ending → World → Prop) : Exit → Env → World → Prop := fun ex e w => normQ ex (fun e w => contE pr cfg (sub (codeOf Try.f54) [1, 1, 1]) (fun e w => wpC pr PP cfg (DD pr) (sub (codeOf Try.f54) [1, 1, 1]) (retQ Try.f54.results.toList R) e w) e w) (retQ Try.f54.results.toList R) e w
def q5 (pr : Prims) (R : Ending → World → Prop) : Exit → Env → World → Prop := fun ex e w => blockQ ex 0 (q2 pr R) e w
def emb3 (p_1 : Sl) (out_5 : Sl) (t11 : Sl) (t12 : Int) (t13 : Int) : Env := [(1, Sl.v p_1), (5, Sl.v out_5), (11, Sl.v t11), (12, vI t12), (13, vI t13)]
def x0 (out_5 : Sl) : Env := [(5, Sl.v out_5)]
def S3 (pr : Prims) (Q : Exit → Env → World → Prop) : (Env → World → Prop) → Env → World → Prop := fun k e w => wpC pr PP cfg (DD pr) (sub (codeOf Try.f54) [1, 1, 0, 1, 0, 0]) (fun ex e w => normQ ex (fun e' w' => k (Env.restr e' (lookN cfg.loops (keyOf (sub (codeOf Try.f54) [1, 1, 0, 1, 0, 0])))) w') Q e w) e w
def B3 (pr : Prims) (p_1 : Sl) (out_5 : Sl) (t11 : Sl) (t12 : Int) (t13 : Int) (w : World) (k : Env → World → Prop) (Q : Exit → Env → World → Prop) : Prop :=
  S3 pr Q k (emb3 p_1 out_5 t11 t12 t13) w
def L3 (pr : Prims) (p_1 : Sl) (out_5 : Sl) (t11 : Sl) (t12 : Int) (t13 : Int) (w : World) (Q : Exit → Env → World → Prop) : Prop :=
  pr.loop (S3 pr Q) (emb3 p_1 out_5 t11 t12 t13) w
def E (pr : Prims) (list_0 : Sl) (p_1 : Sl) (w : World) (R : Ending → World → Prop) : Prop :=
  wpC pr PP cfg (DD pr) (codeOf Try.f54) (retQ Try.f54.results.toList R) (argE 0 [Sl.v list_0, Sl.v p_1]) w
theorem B3_eq (pr : Prims) (p_1 : Sl) (out_5 : Sl) (t11 : Sl) (t12 : Int) (t13 : Int) (w : World) (k : Env → World → Prop) (Q : Exit → Env → World → Prop) : B3 pr p_1 out_5 t11 t12 t13 w k Q = (
  bif decide (t13 < t12) then (
  pr.idxK 1 t11 t13 fun (a6 : Addr) =>
  pr.load1 (.int .i64) a6 w fun (ξ7 : Int) =>
  pr.call1 .sl PP F.impl_child #[Sl.v p_1, vI ξ7] w fun (ρ8 : Sl) ω9 =>
  pr.sem1 .sl PP (Instr.buildSlice T_SSint 1 #[(0, Sl.v ρ8)]) ω9 fun (ρ10 : Sl) ω11 =>
  pr.sem1 .sl PP (Builtin.append_ #[T_SSint, T_SSint] T_SSint #[Sl.v out_5, Sl.v ρ10]) ω11 fun (ρ12 : Sl) ω13 =>
  k (emb3 p_1 ρ12 t11 t12 (w64 (t13 + 1))) ω13)
  else (
  Q (.exit 0) (x0 out_5) w)) := by kernel_rfl
theorem B3_s (p_1 : Sl) (out_5 : Sl) (t11 : Sl) (t12 : Int) (t13 : Int) (w : World) (k : Env → World → Prop) (Q : Exit → Env → World → Prop) : B3 std p_1 out_5 t11 t12 t13 w k Q = (
  bif decide (t13 < t12) then (
  idxK 1 t11 t13 fun (a6 : Addr) =>
  load1 (.int .i64) a6 w fun (ξ7 : Int) =>
  call1 .sl PP F.impl_child #[Sl.v p_1, vI ξ7] w fun (ρ8 : Sl) ω9 =>
  sem1 .sl PP (Instr.buildSlice T_SSint 1 #[(0, Sl.v ρ8)]) ω9 fun (ρ10 : Sl) ω11 =>
  sem1 .sl PP (Builtin.append_ #[T_SSint, T_SSint] T_SSint #[Sl.v out_5, Sl.v ρ10]) ω11 fun (ρ12 : Sl) ω13 =>
  k (emb3 p_1 ρ12 t11 t12 (w64 (t13 + 1))) ω13)
  else (
  Q (.exit 0) (x0 out_5) w)) := B3_eq std p_1 out_5 t11 t12 t13 w k Q
theorem L3_rule (p_1 : Sl) (out_5 : Sl) (t11 : Sl) (t12 : Int) (t13 : Int) (w : World) (Q : Exit → Env → World → Prop) (I : Sl → Int → World → Prop) (μ : Sl → Int → World → Nat) (h0 : I out_5 t13 w)
    (h : ∀ (out_5 : Sl) (t13 : Int) (w' : World), I out_5 t13 w' → B3 std p_1 out_5 t11 t12 t13 w' (fun e2 w2 => ∃ out_5_n t13_n, e2 = emb3 p_1 out_5_n t11 t12 t13_n ∧ I out_5_n t13_n w2 ∧ μ out_5_n t13_n w2 < μ out_5 t13 w') Q) :
    L3 std p_1 out_5 t11 t12 t13 w Q := by
  unfold L3
  refine LoopE.intro (σ := Sl × Int) (step := S3 std Q) (fun s => emb3 p_1 s.1 t11 t12 s.2) (fun s w => I s.1 s.2 w) (fun s w => μ s.1 s.2 w) (out_5, t13) rfl h0 ?_
  intro s w' hI
  have h1 := h s.1 s.2 w' hI
  unfold B3 at h1
  simp only [Prod.exists]
  exact h1
theorem A3_0_eq (pr : Prims) (out_5 : Sl) (w : World) (R : Ending → World → Prop) : (q5 pr R) (.exit 0) (x0 out_5) w = (
  R (.returned (Sl.v out_5)) w) := by kernel_rfl
theorem A3_0_s (out_5 : Sl) (w : World) (R : Ending → World → Prop) : (q5 std R) (.exit 0) (x0 out_5) w = (
  R (.returned (Sl.v out_5)) w) := A3_0_eq std out_5 w R
theorem E_eq (pr : Prims) (list_0 : Sl) (p_1 : Sl) (w : World) (R : Ending → World → Prop) : E pr list_0 p_1 w R = (
  pr.sem1 .sl PP (Instr.buildSlice T_SSint 0 #[]) w fun (ρ0 : Sl) ω1 =>
  pr.call1 .sl PP F.impl_active #[Sl.v list_0, Sl.v p_1] ω1 fun (ρ3 : Sl) ω4 =>
  L3 pr p_1 ρ0 ρ3 (ρ3.n : Int) 0 ω4 (q5 pr R)) := by kernel_rfl
theorem E_s (list_0 : Sl) (p_1 : Sl) (w : World) (R : Ending → World → Prop) : E std list_0 p_1 w R = (
  sem1 .sl PP (Instr.buildSlice T_SSint 0 #[]) w fun (ρ0 : Sl) ω1 =>
  call1 .sl PP F.impl_active #[Sl.v list_0, Sl.v p_1] ω1 fun (ρ3 : Sl) ω4 =>
  L3 std p_1 ρ0 ρ3 (ρ3.n : Int) 0 ω4 (q5 std R)) := E_eq std list_0 p_1 w R
theorem drawsOk : drawsOk PP cfg okD (codeOf Try.f54) = true := by kernel_rfl
theorem calls (list_0 : Sl) (p_1 : Sl) {w : World} {R : Ending → World → Prop} (h : E std list_0 p_1 w R) : Calls PP F.impl_children #[Sl.v list_0, Sl.v p_1] w R :=
  calls_of noCount mixed drawOk Try.func54 rfl (c := cfg) (args := [Sl.v list_0, Sl.v p_1]) rfl (Nat.le_of_ble_eq_true (by kernel_rfl)) drawsOk h
end impl_children

end Go.Proofs.Ytmhgjfahgemblaa
