/- What each function does, step by step, written by a program (Gen.lean); each equation is checked by the kernel. -/
import Derived.Test.YtmhgjfahgemblaaHead
namespace Go.Proofs.Ytmhgjfahgemblaa
open Go
set_option linter.unusedVariables false
set_option maxRecDepth 100000
namespace impl_ClassCounts
@[reducible] def cfg : Cfg := ⟨30, [(5, [0, 5, 17, 18])], [(1, [0, 5, 17, 18]), (0, [5])], [], [4], [], [62, 10, 22, 58, 24, 44, 18, 70, 43, 85, 25, 71, 59, 37, 63], [82, 113, 102, 38, 103, 26, 60]⟩
def q5 (pr : Prims) (R : Ending → World → Prop) : Exit → Env → World → Prop := fun ex e w => normQ ex (fun e w => contE pr cfg (sub (codeOf Try.f40) [1, 1, 1, 1]) (fun e w => wpC pr PP cfg (DD pr) (sub (codeOf Try.f40) [1, 1, 1, 1]) (retQ Try.f40.results.toList R) e w) e w) (retQ Try.f40.results.toList R) e w
def q6 (pr : Prims) (R : Ending → World → Prop) : Exit → Env → World → Prop := fun ex e w => blockQ ex 0 (q5 pr R) e w
def emb5 (list_0 : Sl) (out_5 : Sl) (t17 : Int) (t18 : Int) : Env := [(0, Sl.v list_0), (5, Sl.v out_5), (17, vI t17), (18, vI t18)]
def x0 (out_5 : Sl) : Env := [(5, Sl.v out_5)]
def S5 (pr : Prims) (Q : Exit → Env → World → Prop) : (Env → World → Prop) → Env → World → Prop := fun k e w => wpC pr PP cfg (DD pr) (sub (codeOf Try.f40) [1, 1, 1, 0, 1, 0, 0]) (fun ex e w => normQ ex (fun e' w' => k (Env.restr e' (lookN cfg.loops (keyOf (sub (codeOf Try.f40) [1, 1, 1, 0, 1, 0, 0])))) w') Q e w) e w
def B5 (pr : Prims) (list_0 : Sl) (out_5 : Sl) (t17 : Int) (t18 : Int) (w : World) (k : Env → World → Prop) (Q : Exit → Env → World → Prop) : Prop :=
  S5 pr Q k (emb5 list_0 out_5 t17 t18) w
def L5 (pr : Prims) (list_0 : Sl) (out_5 : Sl) (t17 : Int) (t18 : Int) (w : World) (Q : Exit → Env → World → Prop) : Prop :=
  pr.loop (S5 pr Q) (emb5 list_0 out_5 t17 t18) w
def E (pr : Prims) (list_0 : Sl) (n_1 : Int) (w : World) (R : Ending → World → Prop) : Prop :=
  wpC pr PP cfg (DD pr) (codeOf Try.f40) (retQ Try.f40.results.toList R) (argE 0 [Sl.v list_0, vI n_1]) w
theorem B5_eq (pr : Prims) (list_0 : Sl) (out_5 : Sl) (t17 : Int) (t18 : Int) (w : World) (k : Env → World → Prop) (Q : Exit → Env → World → Prop) : B5 pr list_0 out_5 t17 t18 w k Q = (
  bif decide (t18 < t17) then (
  pr.call1 .sl PP F.impl_class #[Sl.v list_0, vI t18] w fun (ρ7 : Sl) ω8 =>
  pr.sem1 .sl PP (Instr.buildSlice T_Sint 1 #[(0, vI (ρ7.n : Int))]) ω8 fun (ρ9 : Sl) ω10 =>
  pr.sem1 .sl PP (Builtin.append_ #[T_Sint, T_Sint] T_Sint #[Sl.v out_5, Sl.v ρ9]) ω10 fun (ρ11 : Sl) ω12 =>
  k (emb5 list_0 ρ11 t17 (w64 (t18 + 1))) ω12)
  else (
  Q (.exit 0) (x0 out_5) w)) := by kernel_rfl
theorem B5_s (list_0 : Sl) (out_5 : Sl) (t17 : Int) (t18 : Int) (w : World) (k : Env → World → Prop) (Q : Exit → Env → World → Prop) : B5 std list_0 out_5 t17 t18 w k Q = (
  bif decide (t18 < t17) then (
  call1 .sl PP F.impl_class #[Sl.v list_0, vI t18] w fun (ρ7 : Sl) ω8 =>
  sem1 .sl PP (Instr.buildSlice T_Sint 1 #[(0, vI (ρ7.n : Int))]) ω8 fun (ρ9 : Sl) ω10 =>
  sem1 .sl PP (Builtin.append_ #[T_Sint, T_Sint] T_Sint #[Sl.v out_5, Sl.v ρ9]) ω10 fun (ρ11 : Sl) ω12 =>
  k (emb5 list_0 ρ11 t17 (w64 (t18 + 1))) ω12)
  else (
  Q (.exit 0) (x0 out_5) w)) := B5_eq std list_0 out_5 t17 t18 w k Q
theorem L5_rule (list_0 : Sl) (out_5 : Sl) (t17 : Int) (t18 : Int) (w : World) (Q : Exit → Env → World → Prop) (I : Sl → Int → World → Prop) (μ : Sl → Int → World → Nat) (h0 : I out_5 t18 w)
    (h : ∀ (out_5 : Sl) (t18 : Int) (w' : World), I out_5 t18 w' → B5 std list_0 out_5 t17 t18 w' (fun e2 w2 => ∃ out_5_n t18_n, e2 = emb5 list_0 out_5_n t17 t18_n ∧ I out_5_n t18_n w2 ∧ μ out_5_n t18_n w2 < μ out_5 t18 w') Q) :
    L5 std list_0 out_5 t17 t18 w Q := by
  unfold L5
  refine LoopE.intro (σ := Sl × Int) (step := S5 std Q) (fun s => emb5 list_0 s.1 t17 s.2) (fun s w => I s.1 s.2 w) (fun s w => μ s.1 s.2 w) (out_5, t18) rfl h0 ?_
  intro s w' hI
  have h1 := h s.1 s.2 w' hI
  unfold B5 at h1
  simp only [Prod.exists]
  exact h1
theorem A5_0_eq (pr : Prims) (out_5 : Sl) (w : World) (R : Ending → World → Prop) : (q6 pr R) (.exit 0) (x0 out_5) w = (
  R (.returned (Sl.v out_5)) w) := by kernel_rfl
theorem A5_0_s (out_5 : Sl) (w : World) (R : Ending → World → Prop) : (q6 std R) (.exit 0) (x0 out_5) w = (
  R (.returned (Sl.v out_5)) w) := A5_0_eq std out_5 w R
theorem E_eq (pr : Prims) (list_0 : Sl) (n_1 : Int) (w : World) (R : Ending → World → Prop) : E pr list_0 n_1 w R = (
  pr.call1 .bool PP F.impl_IsBasis #[Sl.v list_0] w fun (ρ0 : Bool) ω1 =>
  bif !ρ0 then (
  R (.returned (Sl.v Sl.nil)) ω1)
  else (
  pr.pcall1 .bool PP F.impl_isSix #[vI n_1] fun (ρ2 : Bool) =>
  bif !ρ2 then (
  R (.returned (Sl.v Sl.nil)) ω1)
  else (
  pr.sem1 .sl PP (Instr.buildSlice T_Sint 0 #[]) ω1 fun (ρ3 : Sl) ω4 =>
  L5 pr list_0 ρ3 (w64 (n_1 + 1)) 0 ω4 (q6 pr R)))) := by kernel_rfl
theorem E_s (list_0 : Sl) (n_1 : Int) (w : World) (R : Ending → World → Prop) : E std list_0 n_1 w R = (
  call1 .bool PP F.impl_IsBasis #[Sl.v list_0] w fun (ρ0 : Bool) ω1 =>
  bif !ρ0 then (
  R (.returned (Sl.v Sl.nil)) ω1)
  else (
  pcall1 .bool PP F.impl_isSix #[vI n_1] fun (ρ2 : Bool) =>
  bif !ρ2 then (
  R (.returned (Sl.v Sl.nil)) ω1)
  else (
  sem1 .sl PP (Instr.buildSlice T_Sint 0 #[]) ω1 fun (ρ3 : Sl) ω4 =>
  L5 std list_0 ρ3 (w64 (n_1 + 1)) 0 ω4 (q6 std R)))) := E_eq std list_0 n_1 w R
theorem drawsOk : drawsOk PP cfg okD (codeOf Try.f40) = true := by kernel_rfl
theorem calls (list_0 : Sl) (n_1 : Int) {w : World} {R : Ending → World → Prop} (h : E std list_0 n_1 w R) : Calls PP F.impl_ClassCounts #[Sl.v list_0, vI n_1] w R :=
  calls_of noCount mixed drawOk Try.func40 rfl (c := cfg) (args := [Sl.v list_0, vI n_1]) rfl (Nat.le_of_ble_eq_true (by kernel_rfl)) drawsOk h
end impl_ClassCounts

namespace spec_ClassCounts
@[reducible] def cfg : Cfg := ⟨36, [(6, [5, 6, 7])], [(1, [5, 6, 7]), (0, [5])], [], [4], [], [62, 10, 22, 58, 24, 44, 18, 70, 43, 85, 25, 71, 59, 37, 63], [82, 113, 102, 38, 103, 26, 60]⟩
def q7 (pr : Prims) (R : Ending → World → Prop) : Exit → Env → World → Prop := fun ex e w => normQ ex (fun e w => contE pr cfg (sub (codeOf Try.f36) [1, 1, 1, 1, 1]) (fun e w => wpC pr PP cfg (DD pr) (sub (codeOf Try.f36) [1, 1, 1, 1, 1]) (retQ Try.f36.results.toList R) e w) e w) (retQ Try.f36.results.toList R) e w
def q8 (pr : Prims) (R : Ending → World → Prop) : Exit → Env → World → Prop := fun ex e w => blockQ ex 0 (q7 pr R) e w
def emb6 (out_5 : Sl) (all_6 : Sl) (k_7 : Int) : Env := [(5, Sl.v out_5), (6, Sl.v all_6), (7, vI k_7)]
def x0 (out_5 : Sl) : Env := [(5, Sl.v out_5)]
def S6 (pr : Prims) (Q : Exit → Env → World → Prop) : (Env → World → Prop) → Env → World → Prop := fun k e w => wpC pr PP cfg (DD pr) (sub (codeOf Try.f36) [1, 1, 1, 1, 0, 1, 0, 0]) (fun ex e w => normQ ex (fun e' w' => k (Env.restr e' (lookN cfg.loops (keyOf (sub (codeOf Try.f36) [1, 1, 1, 1, 0, 1, 0, 0])))) w') Q e w) e w
def B6 (pr : Prims) (out_5 : Sl) (all_6 : Sl) (k_7 : Int) (w : World) (k : Env → World → Prop) (Q : Exit → Env → World → Prop) : Prop :=
  S6 pr Q k (emb6 out_5 all_6 k_7) w
def L6 (pr : Prims) (out_5 : Sl) (all_6 : Sl) (k_7 : Int) (w : World) (Q : Exit → Env → World → Prop) : Prop :=
  pr.loop (S6 pr Q) (emb6 out_5 all_6 k_7) w
def E (pr : Prims) (list_0 : Sl) (n_1 : Int) (w : World) (R : Ending → World → Prop) : Prop :=
  wpC pr PP cfg (DD pr) (codeOf Try.f36) (retQ Try.f36.results.toList R) (argE 0 [Sl.v list_0, vI n_1]) w
theorem B6_eq (pr : Prims) (out_5 : Sl) (all_6 : Sl) (k_7 : Int) (w : World) (k : Env → World → Prop) (Q : Exit → Env → World → Prop) : B6 pr out_5 all_6 k_7 w k Q = (
  bif decide (k_7 < (all_6.n : Int)) then (
  pr.idxK 1 all_6 k_7 fun (a9 : Addr) =>
  pr.load1 .sl a9 w fun (ξ10 : Sl) =>
  pr.sem1 .sl PP (Instr.buildSlice T_Sint 1 #[(0, vI (ξ10.n : Int))]) w fun (ρ11 : Sl) ω12 =>
  pr.sem1 .sl PP (Builtin.append_ #[T_Sint, T_Sint] T_Sint #[Sl.v out_5, Sl.v ρ11]) ω12 fun (ρ13 : Sl) ω14 =>
  k (emb6 ρ13 all_6 (w64 (k_7 + 1))) ω14)
  else (
  Q (.exit 0) (x0 out_5) w)) := by kernel_rfl
theorem B6_s (out_5 : Sl) (all_6 : Sl) (k_7 : Int) (w : World) (k : Env → World → Prop) (Q : Exit → Env → World → Prop) : B6 std out_5 all_6 k_7 w k Q = (
  bif decide (k_7 < (all_6.n : Int)) then (
  idxK 1 all_6 k_7 fun (a9 : Addr) =>
  load1 .sl a9 w fun (ξ10 : Sl) =>
  sem1 .sl PP (Instr.buildSlice T_Sint 1 #[(0, vI (ξ10.n : Int))]) w fun (ρ11 : Sl) ω12 =>
  sem1 .sl PP (Builtin.append_ #[T_Sint, T_Sint] T_Sint #[Sl.v out_5, Sl.v ρ11]) ω12 fun (ρ13 : Sl) ω14 =>
  k (emb6 ρ13 all_6 (w64 (k_7 + 1))) ω14)
  else (
  Q (.exit 0) (x0 out_5) w)) := B6_eq std out_5 all_6 k_7 w k Q
theorem L6_rule (out_5 : Sl) (all_6 : Sl) (k_7 : Int) (w : World) (Q : Exit → Env → World → Prop) (I : Sl → Int → World → Prop) (μ : Sl → Int → World → Nat) (h0 : I out_5 k_7 w)
    (h : ∀ (out_5 : Sl) (k_7 : Int) (w' : World), I out_5 k_7 w' → B6 std out_5 all_6 k_7 w' (fun e2 w2 => ∃ out_5_n k_7_n, e2 = emb6 out_5_n all_6 k_7_n ∧ I out_5_n k_7_n w2 ∧ μ out_5_n k_7_n w2 < μ out_5 k_7 w') Q) :
    L6 std out_5 all_6 k_7 w Q := by
  unfold L6
  refine LoopE.intro (σ := Sl × Int) (step := S6 std Q) (fun s => emb6 s.1 all_6 s.2) (fun s w => I s.1 s.2 w) (fun s w => μ s.1 s.2 w) (out_5, k_7) rfl h0 ?_
  intro s w' hI
  have h1 := h s.1 s.2 w' hI
  unfold B6 at h1
  simp only [Prod.exists]
  exact h1
theorem A6_0_eq (pr : Prims) (out_5 : Sl) (w : World) (R : Ending → World → Prop) : (q8 pr R) (.exit 0) (x0 out_5) w = (
  R (.returned (Sl.v out_5)) w) := by kernel_rfl
theorem A6_0_s (out_5 : Sl) (w : World) (R : Ending → World → Prop) : (q8 std R) (.exit 0) (x0 out_5) w = (
  R (.returned (Sl.v out_5)) w) := A6_0_eq std out_5 w R
theorem E_eq (pr : Prims) (list_0 : Sl) (n_1 : Int) (w : World) (R : Ending → World → Prop) : E pr list_0 n_1 w R = (
  pr.sem1 .sl PP (Instr.buildSlice T_Sint 0 #[]) w fun (ρ0 : Sl) ω1 =>
  pr.call1 .bool PP F.spec_IsBasis #[Sl.v list_0] ω1 fun (ρ2 : Bool) ω3 =>
  bif !ρ2 then (
  R (.returned (Sl.v ρ0)) ω3)
  else (
  pr.pcall1 .bool PP F.spec_l1In #[vI n_1, vI 0, vI 6] fun (ρ4 : Bool) =>
  bif !ρ4 then (
  R (.returned (Sl.v ρ0)) ω3)
  else (
  pr.call1 .sl PP F.spec_l12Class #[Sl.v list_0, vI n_1] ω3 fun (ρ5 : Sl) ω6 =>
  L6 pr ρ0 ρ5 0 ω6 (q8 pr R)))) := by kernel_rfl
theorem E_s (list_0 : Sl) (n_1 : Int) (w : World) (R : Ending → World → Prop) : E std list_0 n_1 w R = (
  sem1 .sl PP (Instr.buildSlice T_Sint 0 #[]) w fun (ρ0 : Sl) ω1 =>
  call1 .bool PP F.spec_IsBasis #[Sl.v list_0] ω1 fun (ρ2 : Bool) ω3 =>
  bif !ρ2 then (
  R (.returned (Sl.v ρ0)) ω3)
  else (
  pcall1 .bool PP F.spec_l1In #[vI n_1, vI 0, vI 6] fun (ρ4 : Bool) =>
  bif !ρ4 then (
  R (.returned (Sl.v ρ0)) ω3)
  else (
  call1 .sl PP F.spec_l12Class #[Sl.v list_0, vI n_1] ω3 fun (ρ5 : Sl) ω6 =>
  L6 std ρ0 ρ5 0 ω6 (q8 std R)))) := E_eq std list_0 n_1 w R
theorem drawsOk : drawsOk PP cfg okD (codeOf Try.f36) = true := by kernel_rfl
theorem calls (list_0 : Sl) (n_1 : Int) {w : World} {R : Ending → World → Prop} (h : E std list_0 n_1 w R) : Calls PP F.spec_ClassCounts #[Sl.v list_0, vI n_1] w R :=
  calls_of noCount mixed drawOk Try.func36 rfl (c := cfg) (args := [Sl.v list_0, vI n_1]) rfl (Nat.le_of_ble_eq_true (by kernel_rfl)) drawsOk h
end spec_ClassCounts

namespace spec_l12Class
@[reducible] def cfg : Cfg := ⟨26, [(4, [0, 1, 5, 6, 7])], [(1, [0, 1, 5, 6, 7]), (0, [6])], [], [4], [], [62, 10, 22, 58, 24, 44, 18, 70, 43, 85, 25, 71, 59, 37, 63], [82, 113, 102, 38, 103, 26, 60]⟩
def q6 (pr : Prims) (R : Ending → World → Prop) : Exit → Env → World → Prop := fun ex e w => normQ ex (fun e w => contE pr cfg (sub (codeOf Try.f69) [1, 1, 1, 1]) (fun e w => wpC pr PP cfg (DD pr) (sub (codeOf Try.f69) [1, 1, 1, 1]) (retQ Try.f69.results.toList R) e w) e w) (retQ Try.f69.results.toList R) e w
def q7 (pr : Prims) (R : Ending → World → Prop) : Exit → Env → World → Prop := fun ex e w => blockQ ex 0 (q6 pr R) e w
def emb4 (list_0 : Sl) (n_1 : Int) (last_5 : Sl) (out_6 : Sl) (k_7 : Int) : Env := [(0, Sl.v list_0), (1, vI n_1), (5, Sl.v last_5), (6, Sl.v out_6), (7, vI k_7)]
def x0 (out_6 : Sl) : Env := [(6, Sl.v out_6)]
def S4 (pr : Prims) (Q : Exit → Env → World → Prop) : (Env → World → Prop) → Env → World → Prop := fun k e w => wpC pr PP cfg (DD pr) (sub (codeOf Try.f69) [1, 1, 1, 0, 1, 0, 0]) (fun ex e w => normQ ex (fun e' w' => k (Env.restr e' (lookN cfg.loops (keyOf (sub (codeOf Try.f69) [1, 1, 1, 0, 1, 0, 0])))) w') Q e w) e w
def B4 (pr : Prims) (list_0 : Sl) (n_1 : Int) (last_5 : Sl) (out_6 : Sl) (k_7 : Int) (w : World) (k : Env → World → Prop) (Q : Exit → Env → World → Prop) : Prop :=
  S4 pr Q k (emb4 list_0 n_1 last_5 out_6 k_7) w
def L4 (pr : Prims) (list_0 : Sl) (n_1 : Int) (last_5 : Sl) (out_6 : Sl) (k_7 : Int) (w : World) (Q : Exit → Env → World → Prop) : Prop :=
  pr.loop (S4 pr Q) (emb4 list_0 n_1 last_5 out_6 k_7) w
def E (pr : Prims) (list_0 : Sl) (n_1 : Int) (w : World) (R : Ending → World → Prop) : Prop :=
  wpC pr PP cfg (DD pr) (codeOf Try.f69) (retQ Try.f69.results.toList R) (argE 0 [Sl.v list_0, vI n_1]) w
theorem B4_eq (pr : Prims) (list_0 : Sl) (n_1 : Int) (last_5 : Sl) (out_6 : Sl) (k_7 : Int) (w : World) (k : Env → World → Prop) (Q : Exit → Env → World → Prop) : B4 pr list_0 n_1 last_5 out_6 k_7 w k Q = (
  bif decide (k_7 ≤ n_1) then (
  pr.call1 .sl PP F.spec_l12Next #[Sl.v list_0, Sl.v last_5, vI k_7] w fun (ρ8 : Sl) ω9 =>
  pr.sem1 .sl PP (Instr.buildSlice T_SSSint 1 #[(0, Sl.v ρ8)]) ω9 fun (ρ10 : Sl) ω11 =>
  pr.sem1 .sl PP (Builtin.append_ #[T_SSSint, T_SSSint] T_SSSint #[Sl.v out_6, Sl.v ρ10]) ω11 fun (ρ12 : Sl) ω13 =>
  k (emb4 list_0 n_1 ρ8 ρ12 (w64 (k_7 + 1))) ω13)
  else (
  Q (.exit 0) (x0 out_6) w)) := by kernel_rfl
theorem B4_s (list_0 : Sl) (n_1 : Int) (last_5 : Sl) (out_6 : Sl) (k_7 : Int) (w : World) (k : Env → World → Prop) (Q : Exit → Env → World → Prop) : B4 std list_0 n_1 last_5 out_6 k_7 w k Q = (
  bif decide (k_7 ≤ n_1) then (
  call1 .sl PP F.spec_l12Next #[Sl.v list_0, Sl.v last_5, vI k_7] w fun (ρ8 : Sl) ω9 =>
  sem1 .sl PP (Instr.buildSlice T_SSSint 1 #[(0, Sl.v ρ8)]) ω9 fun (ρ10 : Sl) ω11 =>
  sem1 .sl PP (Builtin.append_ #[T_SSSint, T_SSSint] T_SSSint #[Sl.v out_6, Sl.v ρ10]) ω11 fun (ρ12 : Sl) ω13 =>
  k (emb4 list_0 n_1 ρ8 ρ12 (w64 (k_7 + 1))) ω13)
  else (
  Q (.exit 0) (x0 out_6) w)) := B4_eq std list_0 n_1 last_5 out_6 k_7 w k Q
theorem L4_rule (list_0 : Sl) (n_1 : Int) (last_5 : Sl) (out_6 : Sl) (k_7 : Int) (w : World) (Q : Exit → Env → World → Prop) (I : Sl → Sl → Int → World → Prop) (μ : Sl → Sl → Int → World → Nat) (h0 : I last_5 out_6 k_7 w)
    (h : ∀ (last_5 : Sl) (out_6 : Sl) (k_7 : Int) (w' : World), I last_5 out_6 k_7 w' → B4 std list_0 n_1 last_5 out_6 k_7 w' (fun e2 w2 => ∃ last_5_n out_6_n k_7_n, e2 = emb4 list_0 n_1 last_5_n out_6_n k_7_n ∧ I last_5_n out_6_n k_7_n w2 ∧ μ last_5_n out_6_n k_7_n w2 < μ last_5 out_6 k_7 w') Q) :
    L4 std list_0 n_1 last_5 out_6 k_7 w Q := by
  unfold L4
  refine LoopE.intro (σ := Sl × Sl × Int) (step := S4 std Q) (fun s => emb4 list_0 n_1 s.1 s.2.1 s.2.2) (fun s w => I s.1 s.2.1 s.2.2 w) (fun s w => μ s.1 s.2.1 s.2.2 w) (last_5, out_6, k_7) rfl h0 ?_
  intro s w' hI
  have h1 := h s.1 s.2.1 s.2.2 w' hI
  unfold B4 at h1
  simp only [Prod.exists]
  exact h1
theorem A4_0_eq (pr : Prims) (out_6 : Sl) (w : World) (R : Ending → World → Prop) : (q7 pr R) (.exit 0) (x0 out_6) w = (
  R (.returned (Sl.v out_6)) w) := by kernel_rfl
theorem A4_0_s (out_6 : Sl) (w : World) (R : Ending → World → Prop) : (q7 std R) (.exit 0) (x0 out_6) w = (
  R (.returned (Sl.v out_6)) w) := A4_0_eq std out_6 w R
theorem E_eq (pr : Prims) (list_0 : Sl) (n_1 : Int) (w : World) (R : Ending → World → Prop) : E pr list_0 n_1 w R = (
  pr.sem1 .sl PP (Instr.buildSlice T_Sint 0 #[]) w fun (ρ0 : Sl) ω1 =>
  pr.sem1 .sl PP (Instr.buildSlice T_SSint 1 #[(0, Sl.v ρ0)]) ω1 fun (ρ2 : Sl) ω3 =>
  pr.sem1 .sl PP (Instr.buildSlice T_SSSint 1 #[(0, Sl.v ρ2)]) ω3 fun (ρ4 : Sl) ω5 =>
  L4 pr list_0 n_1 ρ2 ρ4 1 ω5 (q7 pr R)) := by kernel_rfl
theorem E_s (list_0 : Sl) (n_1 : Int) (w : World) (R : Ending → World → Prop) : E std list_0 n_1 w R = (
  sem1 .sl PP (Instr.buildSlice T_Sint 0 #[]) w fun (ρ0 : Sl) ω1 =>
  sem1 .sl PP (Instr.buildSlice T_SSint 1 #[(0, Sl.v ρ0)]) ω1 fun (ρ2 : Sl) ω3 =>
  sem1 .sl PP (Instr.buildSlice T_SSSint 1 #[(0, Sl.v ρ2)]) ω3 fun (ρ4 : Sl) ω5 =>
  L4 std list_0 n_1 ρ2 ρ4 1 ω5 (q7 std R)) := E_eq std list_0 n_1 w R
theorem drawsOk : drawsOk PP cfg okD (codeOf Try.f69) = true := by kernel_rfl
theorem calls (list_0 : Sl) (n_1 : Int) {w : World} {R : Ending → World → Prop} (h : E std list_0 n_1 w R) : Calls PP F.spec_l12Class #[Sl.v list_0, vI n_1] w R :=
  calls_of noCount mixed drawOk Try.func69 rfl (c := cfg) (args := [Sl.v list_0, vI n_1]) rfl (Nat.le_of_ble_eq_true (by kernel_rfl)) drawsOk h
end spec_l12Class

namespace spec_l12Next
@[reducible] def cfg : Cfg := ⟨67, [(10, [0, 1, 2, 7, 8, 9, 10, 11]), (6, [0, 1, 2, 7, 8, 9]), (3, [0, 1, 2, 7, 8])], [(5, [0, 1, 2, 7, 8, 9, 10, 11]), (4, [0, 1, 2, 7, 8, 9, 10]), (3, [0, 1, 2, 7, 8, 9]), (2, [0, 1, 2, 7, 8]), (1, [0, 1, 2, 7, 8]), (0, [7])], [], [6], [], [62, 10, 22, 58, 24, 44, 18, 70, 43, 85, 25, 71, 59, 37, 63], [82, 113, 102, 38, 103, 26, 60]⟩
def q2 (pr : Prims) (R : Ending → World → Prop) : Exit → Env → World → Prop := fun ex e w => normQ ex (fun e w => contE pr cfg (sub (codeOf Try.f84) [1, 1, 1]) (fun e w => wpC pr PP cfg (DD pr) (sub (codeOf Try.f84) [1, 1, 1]) (retQ Try.f84.results.toList R) e w) e w) (retQ Try.f84.results.toList R) e w
def q3 (pr : Prims) (R : Ending → World → Prop) : Exit → Env → World → Prop := fun ex e w => blockQ ex 0 (q2 pr R) e w
def q4 (pr : Prims) (k : Env → World → Prop) (Q : Exit → Env → World → Prop) : Exit → Env → World → Prop := fun ex e w => normQ ex (fun e w => contE pr cfg (sub (codeOf Try.f84) [1, 1, 0, 1, 0, 0, 1, 1]) (fun e w => wpC pr PP cfg (DD pr) (sub (codeOf Try.f84) [1, 1, 0, 1, 0, 0, 1, 1]) (fun ex e w => normQ ex (fun e' w' => k (Env.restr e' (lookN cfg.loops (keyOf (sub (codeOf Try.f84) [1, 1, 0, 1, 0, 0])))) w') Q e w) e w) e w) (fun ex e w => normQ ex (fun e' w' => k (Env.restr e' (lookN cfg.loops (keyOf (sub (codeOf Try.f84) [1, 1, 0, 1, 0, 0])))) w') Q e w) e w
def q5 (pr : Prims) (k : Env → World → Prop) (Q : Exit → Env → World → Prop) : Exit → Env → World → Prop := fun ex e w => blockQ ex 1 (q4 pr k Q) e w
def q6 (pr : Prims) (k : Env → World → Prop) (Q : Exit → Env → World → Prop) : Exit → Env → World → Prop := fun ex e w => blockQ ex 2 (q5 pr k Q) e w
def q7 (pr : Prims) (k : Env → World → Prop) (Q : Exit → Env → World → Prop) : Exit → Env → World → Prop := fun ex e w => normQ ex (fun e w => contE pr cfg (sub (codeOf Try.f84) [1, 1, 0, 1, 0, 0, 1, 0, 0, 1, 0, 0, 1, 1]) (fun e w => wpC pr PP cfg (DD pr) (sub (codeOf Try.f84) [1, 1, 0, 1, 0, 0, 1, 0, 0, 1, 0, 0, 1, 1]) (fun ex e w => normQ ex (fun e' w' => k (Env.restr e' (lookN cfg.loops (keyOf (sub (codeOf Try.f84) [1, 1, 0, 1, 0, 0, 1, 0, 0, 1, 0, 0])))) w') Q e w) e w) e w) (fun ex e w => normQ ex (fun e' w' => k (Env.restr e' (lookN cfg.loops (keyOf (sub (codeOf Try.f84) [1, 1, 0, 1, 0, 0, 1, 0, 0, 1, 0, 0])))) w') Q e w) e w
def q8 (pr : Prims) (k : Env → World → Prop) (Q : Exit → Env → World → Prop) : Exit → Env → World → Prop := fun ex e w => blockQ ex 3 (q7 pr k Q) e w
def q11 (pr : Prims) (k : Env → World → Prop) (Q : Exit → Env → World → Prop) : Exit → Env → World → Prop := fun ex e w => normQ ex (fun e w => contE pr cfg (sub (codeOf Try.f84) [1, 1, 0, 1, 0, 0, 1, 0, 0, 1, 0, 0, 1, 0, 0, 1, 1]) (fun e w => wpC pr PP cfg (DD pr) (sub (codeOf Try.f84) [1, 1, 0, 1, 0, 0, 1, 0, 0, 1, 0, 0, 1, 0, 0, 1, 1]) (q8 pr k Q) e w) e w) (q8 pr k Q) e w
def q12 (pr : Prims) (k : Env → World → Prop) (Q : Exit → Env → World → Prop) : Exit → Env → World → Prop := fun ex e w => blockQ ex 4 (q11 pr k Q) e w
def emb3 (list_0 : Sl) (last_1 : Sl) (n_2 : Int) (out_7 : Sl) (k_8 : Int) : Env := [(0, Sl.v list_0), (1, Sl.v last_1), (2, vI n_2), (7, Sl.v out_7), (8, vI k_8)]
def emb6 (list_0 : Sl) (last_1 : Sl) (n_2 : Int) (out_7 : Sl) (k_8 : Int) (v_9 : Int) : Env := [(0, Sl.v list_0), (1, Sl.v last_1), (2, vI n_2), (7, Sl.v out_7), (8, vI k_8), (9, vI v_9)]
def emb10 (list_0 : Sl) (last_1 : Sl) (n_2 : Int) (out_7 : Sl) (k_8 : Int) (v_9 : Int) (p_10 : Sl) (i_11 : Int) : Env := [(0, Sl.v list_0), (1, Sl.v last_1), (2, vI n_2), (7, Sl.v out_7), (8, vI k_8), (9, vI v_9), (10, Sl.v p_10), (11, vI i_11)]
def x4 (list_0 : Sl) (last_1 : Sl) (n_2 : Int) (out_7 : Sl) (k_8 : Int) (v_9 : Int) (p_10 : Sl) : Env := [(0, Sl.v list_0), (1, Sl.v last_1), (2, vI n_2), (7, Sl.v out_7), (8, vI k_8), (9, vI v_9), (10, Sl.v p_10)]
def x2 (list_0 : Sl) (last_1 : Sl) (n_2 : Int) (out_7 : Sl) (k_8 : Int) : Env := [(0, Sl.v list_0), (1, Sl.v last_1), (2, vI n_2), (7, Sl.v out_7), (8, vI k_8)]
def x0 (out_7 : Sl) : Env := [(7, Sl.v out_7)]
def S10 (pr : Prims) (Q : Exit → Env → World → Prop) : (Env → World → Prop) → Env → World → Prop := fun k e w => wpC pr PP cfg (DD pr) (sub (codeOf Try.f84) [1, 1, 0, 1, 0, 0, 1, 0, 0, 1, 0, 0, 1, 0, 0, 1, 0, 1, 0, 0]) (fun ex e w => normQ ex (fun e' w' => k (Env.restr e' (lookN cfg.loops (keyOf (sub (codeOf Try.f84) [1, 1, 0, 1, 0, 0, 1, 0, 0, 1, 0, 0, 1, 0, 0, 1, 0, 1, 0, 0])))) w') Q e w) e w
def S6 (pr : Prims) (Q : Exit → Env → World → Prop) : (Env → World → Prop) → Env → World → Prop := fun k e w => wpC pr PP cfg (DD pr) (sub (codeOf Try.f84) [1, 1, 0, 1, 0, 0, 1, 0, 0, 1, 0, 0]) (fun ex e w => normQ ex (fun e' w' => k (Env.restr e' (lookN cfg.loops (keyOf (sub (codeOf Try.f84) [1, 1, 0, 1, 0, 0, 1, 0, 0, 1, 0, 0])))) w') Q e w) e w
def S3 (pr : Prims) (Q : Exit → Env → World → Prop) : (Env → World → Prop) → Env → World → Prop := fun k e w => wpC pr PP cfg (DD pr) (sub (codeOf Try.f84) [1, 1, 0, 1, 0, 0]) (fun ex e w => normQ ex (fun e' w' => k (Env.restr e' (lookN cfg.loops (keyOf (sub (codeOf Try.f84) [1, 1, 0, 1, 0, 0])))) w') Q e w) e w
def B10 (pr : Prims) (list_0 : Sl) (last_1 : Sl) (n_2 : Int) (out_7 : Sl) (k_8 : Int) (v_9 : Int) (p_10 : Sl) (i_11 : Int) (w : World) (k : Env → World → Prop) (Q : Exit → Env → World → Prop) : Prop :=
  S10 pr Q k (emb10 list_0 last_1 n_2 out_7 k_8 v_9 p_10 i_11) w
def L10 (pr : Prims) (list_0 : Sl) (last_1 : Sl) (n_2 : Int) (out_7 : Sl) (k_8 : Int) (v_9 : Int) (p_10 : Sl) (i_11 : Int) (w : World) (Q : Exit → Env → World → Prop) : Prop :=
  pr.loop (S10 pr Q) (emb10 list_0 last_1 n_2 out_7 k_8 v_9 p_10 i_11) w
def B6 (pr : Prims) (list_0 : Sl) (last_1 : Sl) (n_2 : Int) (out_7 : Sl) (k_8 : Int) (v_9 : Int) (w : World) (k : Env → World → Prop) (Q : Exit → Env → World → Prop) : Prop :=
  S6 pr Q k (emb6 list_0 last_1 n_2 out_7 k_8 v_9) w
def L6 (pr : Prims) (list_0 : Sl) (last_1 : Sl) (n_2 : Int) (out_7 : Sl) (k_8 : Int) (v_9 : Int) (w : World) (Q : Exit → Env → World → Prop) : Prop :=
  pr.loop (S6 pr Q) (emb6 list_0 last_1 n_2 out_7 k_8 v_9) w
def B3 (pr : Prims) (list_0 : Sl) (last_1 : Sl) (n_2 : Int) (out_7 : Sl) (k_8 : Int) (w : World) (k : Env → World → Prop) (Q : Exit → Env → World → Prop) : Prop :=
  S3 pr Q k (emb3 list_0 last_1 n_2 out_7 k_8) w
def L3 (pr : Prims) (list_0 : Sl) (last_1 : Sl) (n_2 : Int) (out_7 : Sl) (k_8 : Int) (w : World) (Q : Exit → Env → World → Prop) : Prop :=
  pr.loop (S3 pr Q) (emb3 list_0 last_1 n_2 out_7 k_8) w
def E (pr : Prims) (list_0 : Sl) (last_1 : Sl) (n_2 : Int) (w : World) (R : Ending → World → Prop) : Prop :=
  wpC pr PP cfg (DD pr) (codeOf Try.f84) (retQ Try.f84.results.toList R) (argE 0 [Sl.v list_0, Sl.v last_1, vI n_2]) w
theorem B10_eq (pr : Prims) (list_0 : Sl) (last_1 : Sl) (n_2 : Int) (out_7 : Sl) (k_8 : Int) (v_9 : Int) (p_10 : Sl) (i_11 : Int) (w : World) (k : Env → World → Prop) (Q : Exit → Env → World → Prop) : B10 pr list_0 last_1 n_2 out_7 k_8 v_9 p_10 i_11 w k Q = (
  pr.idxK 1 last_1 k_8 fun (a13 : Addr) =>
  pr.load1 .sl a13 w fun (ξ14 : Sl) =>
  bif decide (i_11 < (ξ14.n : Int)) then (
  pr.drewAll w fun ω15 =>
  pr.idxK 1 last_1 k_8 fun (a16 : Addr) =>
  pr.idxK 1 last_1 k_8 fun (a17 : Addr) =>
  (pr.load1 .sl a16 ω15 fun (ξ18 : Sl) =>
  pr.idxK 1 ξ18 i_11 fun (a19 : Addr) =>
  (pr.load1 (.int .i64) a19 ω15 fun (ξ20 : Int) =>
  pr.load1 .sl a17 ω15 fun (ξ21 : Sl) =>
  pr.idxK 1 ξ21 i_11 fun (a22 : Addr) =>
  pr.load1 (.int .i64) a22 ω15 fun (ξ23 : Int) =>
  pr.pcall1 (.int .i64) PP F.spec_l1Bit #[.bool (decide (ξ23 ≥ v_9))] fun (ρ24 : Int) =>
  pr.sem1 .sl PP (Instr.buildSlice T_Sint 1 #[(0, vI (w64 (ξ20 + ρ24)))]) ω15 fun (ρ25 : Sl) ω26 =>
  pr.sem1 .sl PP (Builtin.append_ #[T_Sint, T_Sint] T_Sint #[Sl.v p_10, Sl.v ρ25]) ω26 fun (ρ27 : Sl) ω28 =>
  k (emb10 list_0 last_1 n_2 out_7 k_8 v_9 ρ27 (w64 (i_11 + 1))) ω28) ∧
  (pr.load1 .sl a17 ω15 fun (ξ29 : Sl) =>
  pr.idxK 1 ξ29 i_11 fun (a30 : Addr) =>
  (pr.load1 (.int .i64) a19 ω15 fun (ξ31 : Int) =>
  pr.load1 (.int .i64) a30 ω15 fun (ξ32 : Int) =>
  pr.pcall1 (.int .i64) PP F.spec_l1Bit #[.bool (decide (ξ32 ≥ v_9))] fun (ρ33 : Int) =>
  pr.sem1 .sl PP (Instr.buildSlice T_Sint 1 #[(0, vI (w64 (ξ31 + ρ33)))]) ω15 fun (ρ34 : Sl) ω35 =>
  pr.sem1 .sl PP (Builtin.append_ #[T_Sint, T_Sint] T_Sint #[Sl.v p_10, Sl.v ρ34]) ω35 fun (ρ36 : Sl) ω37 =>
  k (emb10 list_0 last_1 n_2 out_7 k_8 v_9 ρ36 (w64 (i_11 + 1))) ω37) ∧
  (pr.load1 (.int .i64) a30 ω15 fun (ξ38 : Int) =>
  (pr.load1 (.int .i64) a19 ω15 fun (ξ39 : Int) =>
  pr.pcall1 (.int .i64) PP F.spec_l1Bit #[.bool (decide (ξ38 ≥ v_9))] fun (ρ40 : Int) =>
  pr.sem1 .sl PP (Instr.buildSlice T_Sint 1 #[(0, vI (w64 (ξ39 + ρ40)))]) ω15 fun (ρ41 : Sl) ω42 =>
  pr.sem1 .sl PP (Builtin.append_ #[T_Sint, T_Sint] T_Sint #[Sl.v p_10, Sl.v ρ41]) ω42 fun (ρ43 : Sl) ω44 =>
  k (emb10 list_0 last_1 n_2 out_7 k_8 v_9 ρ43 (w64 (i_11 + 1))) ω44) ∧
  (pr.pcall1 (.int .i64) PP F.spec_l1Bit #[.bool (decide (ξ38 ≥ v_9))] fun (ρ45 : Int) =>
  pr.load1 (.int .i64) a19 ω15 fun (ξ46 : Int) =>
  pr.sem1 .sl PP (Instr.buildSlice T_Sint 1 #[(0, vI (w64 (ξ46 + ρ45)))]) ω15 fun (ρ47 : Sl) ω48 =>
  pr.sem1 .sl PP (Builtin.append_ #[T_Sint, T_Sint] T_Sint #[Sl.v p_10, Sl.v ρ47]) ω48 fun (ρ49 : Sl) ω50 =>
  k (emb10 list_0 last_1 n_2 out_7 k_8 v_9 ρ49 (w64 (i_11 + 1))) ω50)))) ∧
  (pr.load1 .sl a17 ω15 fun (ξ51 : Sl) =>
  pr.idxK 1 ξ51 i_11 fun (a52 : Addr) =>
  (pr.load1 .sl a16 ω15 fun (ξ53 : Sl) =>
  pr.idxK 1 ξ53 i_11 fun (a54 : Addr) =>
  (pr.load1 (.int .i64) a54 ω15 fun (ξ55 : Int) =>
  pr.load1 (.int .i64) a52 ω15 fun (ξ56 : Int) =>
  pr.pcall1 (.int .i64) PP F.spec_l1Bit #[.bool (decide (ξ56 ≥ v_9))] fun (ρ57 : Int) =>
  pr.sem1 .sl PP (Instr.buildSlice T_Sint 1 #[(0, vI (w64 (ξ55 + ρ57)))]) ω15 fun (ρ58 : Sl) ω59 =>
  pr.sem1 .sl PP (Builtin.append_ #[T_Sint, T_Sint] T_Sint #[Sl.v p_10, Sl.v ρ58]) ω59 fun (ρ60 : Sl) ω61 =>
  k (emb10 list_0 last_1 n_2 out_7 k_8 v_9 ρ60 (w64 (i_11 + 1))) ω61) ∧
  (pr.load1 (.int .i64) a52 ω15 fun (ξ62 : Int) =>
  (pr.load1 (.int .i64) a54 ω15 fun (ξ63 : Int) =>
  pr.pcall1 (.int .i64) PP F.spec_l1Bit #[.bool (decide (ξ62 ≥ v_9))] fun (ρ64 : Int) =>
  pr.sem1 .sl PP (Instr.buildSlice T_Sint 1 #[(0, vI (w64 (ξ63 + ρ64)))]) ω15 fun (ρ65 : Sl) ω66 =>
  pr.sem1 .sl PP (Builtin.append_ #[T_Sint, T_Sint] T_Sint #[Sl.v p_10, Sl.v ρ65]) ω66 fun (ρ67 : Sl) ω68 =>
  k (emb10 list_0 last_1 n_2 out_7 k_8 v_9 ρ67 (w64 (i_11 + 1))) ω68) ∧
  (pr.pcall1 (.int .i64) PP F.spec_l1Bit #[.bool (decide (ξ62 ≥ v_9))] fun (ρ69 : Int) =>
  pr.load1 (.int .i64) a54 ω15 fun (ξ70 : Int) =>
  pr.sem1 .sl PP (Instr.buildSlice T_Sint 1 #[(0, vI (w64 (ξ70 + ρ69)))]) ω15 fun (ρ71 : Sl) ω72 =>
  pr.sem1 .sl PP (Builtin.append_ #[T_Sint, T_Sint] T_Sint #[Sl.v p_10, Sl.v ρ71]) ω72 fun (ρ73 : Sl) ω74 =>
  k (emb10 list_0 last_1 n_2 out_7 k_8 v_9 ρ73 (w64 (i_11 + 1))) ω74))) ∧
  (pr.load1 (.int .i64) a52 ω15 fun (ξ75 : Int) =>
  (pr.load1 .sl a16 ω15 fun (ξ76 : Sl) =>
  pr.idxK 1 ξ76 i_11 fun (a77 : Addr) =>
  (pr.load1 (.int .i64) a77 ω15 fun (ξ78 : Int) =>
  pr.pcall1 (.int .i64) PP F.spec_l1Bit #[.bool (decide (ξ75 ≥ v_9))] fun (ρ79 : Int) =>
  pr.sem1 .sl PP (Instr.buildSlice T_Sint 1 #[(0, vI (w64 (ξ78 + ρ79)))]) ω15 fun (ρ80 : Sl) ω81 =>
  pr.sem1 .sl PP (Builtin.append_ #[T_Sint, T_Sint] T_Sint #[Sl.v p_10, Sl.v ρ80]) ω81 fun (ρ82 : Sl) ω83 =>
  k (emb10 list_0 last_1 n_2 out_7 k_8 v_9 ρ82 (w64 (i_11 + 1))) ω83) ∧
  (pr.pcall1 (.int .i64) PP F.spec_l1Bit #[.bool (decide (ξ75 ≥ v_9))] fun (ρ84 : Int) =>
  pr.load1 (.int .i64) a77 ω15 fun (ξ85 : Int) =>
  pr.sem1 .sl PP (Instr.buildSlice T_Sint 1 #[(0, vI (w64 (ξ85 + ρ84)))]) ω15 fun (ρ86 : Sl) ω87 =>
  pr.sem1 .sl PP (Builtin.append_ #[T_Sint, T_Sint] T_Sint #[Sl.v p_10, Sl.v ρ86]) ω87 fun (ρ88 : Sl) ω89 =>
  k (emb10 list_0 last_1 n_2 out_7 k_8 v_9 ρ88 (w64 (i_11 + 1))) ω89)) ∧
  (pr.pcall1 (.int .i64) PP F.spec_l1Bit #[.bool (decide (ξ75 ≥ v_9))] fun (ρ90 : Int) =>
  pr.load1 .sl a16 ω15 fun (ξ91 : Sl) =>
  pr.idxK 1 ξ91 i_11 fun (a92 : Addr) =>
  pr.load1 (.int .i64) a92 ω15 fun (ξ93 : Int) =>
  pr.sem1 .sl PP (Instr.buildSlice T_Sint 1 #[(0, vI (w64 (ξ93 + ρ90)))]) ω15 fun (ρ94 : Sl) ω95 =>
  pr.sem1 .sl PP (Builtin.append_ #[T_Sint, T_Sint] T_Sint #[Sl.v p_10, Sl.v ρ94]) ω95 fun (ρ96 : Sl) ω97 =>
  k (emb10 list_0 last_1 n_2 out_7 k_8 v_9 ρ96 (w64 (i_11 + 1))) ω97))))
  else (
  Q (.exit 4) (x4 list_0 last_1 n_2 out_7 k_8 v_9 p_10) w)) := by kernel_rfl
theorem B10_s (list_0 : Sl) (last_1 : Sl) (n_2 : Int) (out_7 : Sl) (k_8 : Int) (v_9 : Int) (p_10 : Sl) (i_11 : Int) (w : World) (k : Env → World → Prop) (Q : Exit → Env → World → Prop) : B10 std list_0 last_1 n_2 out_7 k_8 v_9 p_10 i_11 w k Q = (
  idxK 1 last_1 k_8 fun (a13 : Addr) =>
  load1 .sl a13 w fun (ξ14 : Sl) =>
  bif decide (i_11 < (ξ14.n : Int)) then (
  drewAll w fun ω15 =>
  idxK 1 last_1 k_8 fun (a16 : Addr) =>
  idxK 1 last_1 k_8 fun (a17 : Addr) =>
  (load1 .sl a16 ω15 fun (ξ18 : Sl) =>
  idxK 1 ξ18 i_11 fun (a19 : Addr) =>
  (load1 (.int .i64) a19 ω15 fun (ξ20 : Int) =>
  load1 .sl a17 ω15 fun (ξ21 : Sl) =>
  idxK 1 ξ21 i_11 fun (a22 : Addr) =>
  load1 (.int .i64) a22 ω15 fun (ξ23 : Int) =>
  pcall1 (.int .i64) PP F.spec_l1Bit #[.bool (decide (ξ23 ≥ v_9))] fun (ρ24 : Int) =>
  sem1 .sl PP (Instr.buildSlice T_Sint 1 #[(0, vI (w64 (ξ20 + ρ24)))]) ω15 fun (ρ25 : Sl) ω26 =>
  sem1 .sl PP (Builtin.append_ #[T_Sint, T_Sint] T_Sint #[Sl.v p_10, Sl.v ρ25]) ω26 fun (ρ27 : Sl) ω28 =>
  k (emb10 list_0 last_1 n_2 out_7 k_8 v_9 ρ27 (w64 (i_11 + 1))) ω28) ∧
  (load1 .sl a17 ω15 fun (ξ29 : Sl) =>
  idxK 1 ξ29 i_11 fun (a30 : Addr) =>
  (load1 (.int .i64) a19 ω15 fun (ξ31 : Int) =>
  load1 (.int .i64) a30 ω15 fun (ξ32 : Int) =>
  pcall1 (.int .i64) PP F.spec_l1Bit #[.bool (decide (ξ32 ≥ v_9))] fun (ρ33 : Int) =>
  sem1 .sl PP (Instr.buildSlice T_Sint 1 #[(0, vI (w64 (ξ31 + ρ33)))]) ω15 fun (ρ34 : Sl) ω35 =>
  sem1 .sl PP (Builtin.append_ #[T_Sint, T_Sint] T_Sint #[Sl.v p_10, Sl.v ρ34]) ω35 fun (ρ36 : Sl) ω37 =>
  k (emb10 list_0 last_1 n_2 out_7 k_8 v_9 ρ36 (w64 (i_11 + 1))) ω37) ∧
  (load1 (.int .i64) a30 ω15 fun (ξ38 : Int) =>
  (load1 (.int .i64) a19 ω15 fun (ξ39 : Int) =>
  pcall1 (.int .i64) PP F.spec_l1Bit #[.bool (decide (ξ38 ≥ v_9))] fun (ρ40 : Int) =>
  sem1 .sl PP (Instr.buildSlice T_Sint 1 #[(0, vI (w64 (ξ39 + ρ40)))]) ω15 fun (ρ41 : Sl) ω42 =>
  sem1 .sl PP (Builtin.append_ #[T_Sint, T_Sint] T_Sint #[Sl.v p_10, Sl.v ρ41]) ω42 fun (ρ43 : Sl) ω44 =>
  k (emb10 list_0 last_1 n_2 out_7 k_8 v_9 ρ43 (w64 (i_11 + 1))) ω44) ∧
  (pcall1 (.int .i64) PP F.spec_l1Bit #[.bool (decide (ξ38 ≥ v_9))] fun (ρ45 : Int) =>
  load1 (.int .i64) a19 ω15 fun (ξ46 : Int) =>
  sem1 .sl PP (Instr.buildSlice T_Sint 1 #[(0, vI (w64 (ξ46 + ρ45)))]) ω15 fun (ρ47 : Sl) ω48 =>
  sem1 .sl PP (Builtin.append_ #[T_Sint, T_Sint] T_Sint #[Sl.v p_10, Sl.v ρ47]) ω48 fun (ρ49 : Sl) ω50 =>
  k (emb10 list_0 last_1 n_2 out_7 k_8 v_9 ρ49 (w64 (i_11 + 1))) ω50)))) ∧
  (load1 .sl a17 ω15 fun (ξ51 : Sl) =>
  idxK 1 ξ51 i_11 fun (a52 : Addr) =>
  (load1 .sl a16 ω15 fun (ξ53 : Sl) =>
  idxK 1 ξ53 i_11 fun (a54 : Addr) =>
  (load1 (.int .i64) a54 ω15 fun (ξ55 : Int) =>
  load1 (.int .i64) a52 ω15 fun (ξ56 : Int) =>
  pcall1 (.int .i64) PP F.spec_l1Bit #[.bool (decide (ξ56 ≥ v_9))] fun (ρ57 : Int) =>
  sem1 .sl PP (Instr.buildSlice T_Sint 1 #[(0, vI (w64 (ξ55 + ρ57)))]) ω15 fun (ρ58 : Sl) ω59 =>
  sem1 .sl PP (Builtin.append_ #[T_Sint, T_Sint] T_Sint #[Sl.v p_10, Sl.v ρ58]) ω59 fun (ρ60 : Sl) ω61 =>
  k (emb10 list_0 last_1 n_2 out_7 k_8 v_9 ρ60 (w64 (i_11 + 1))) ω61) ∧
  (load1 (.int .i64) a52 ω15 fun (ξ62 : Int) =>
  (load1 (.int .i64) a54 ω15 fun (ξ63 : Int) =>
  pcall1 (.int .i64) PP F.spec_l1Bit #[.bool (decide (ξ62 ≥ v_9))] fun (ρ64 : Int) =>
  sem1 .sl PP (Instr.buildSlice T_Sint 1 #[(0, vI (w64 (ξ63 + ρ64)))]) ω15 fun (ρ65 : Sl) ω66 =>
  sem1 .sl PP (Builtin.append_ #[T_Sint, T_Sint] T_Sint #[Sl.v p_10, Sl.v ρ65]) ω66 fun (ρ67 : Sl) ω68 =>
  k (emb10 list_0 last_1 n_2 out_7 k_8 v_9 ρ67 (w64 (i_11 + 1))) ω68) ∧
  (pcall1 (.int .i64) PP F.spec_l1Bit #[.bool (decide (ξ62 ≥ v_9))] fun (ρ69 : Int) =>
  load1 (.int .i64) a54 ω15 fun (ξ70 : Int) =>
  sem1 .sl PP (Instr.buildSlice T_Sint 1 #[(0, vI (w64 (ξ70 + ρ69)))]) ω15 fun (ρ71 : Sl) ω72 =>
  sem1 .sl PP (Builtin.append_ #[T_Sint, T_Sint] T_Sint #[Sl.v p_10, Sl.v ρ71]) ω72 fun (ρ73 : Sl) ω74 =>
  k (emb10 list_0 last_1 n_2 out_7 k_8 v_9 ρ73 (w64 (i_11 + 1))) ω74))) ∧
  (load1 (.int .i64) a52 ω15 fun (ξ75 : Int) =>
  (load1 .sl a16 ω15 fun (ξ76 : Sl) =>
  idxK 1 ξ76 i_11 fun (a77 : Addr) =>
  (load1 (.int .i64) a77 ω15 fun (ξ78 : Int) =>
  pcall1 (.int .i64) PP F.spec_l1Bit #[.bool (decide (ξ75 ≥ v_9))] fun (ρ79 : Int) =>
  sem1 .sl PP (Instr.buildSlice T_Sint 1 #[(0, vI (w64 (ξ78 + ρ79)))]) ω15 fun (ρ80 : Sl) ω81 =>
  sem1 .sl PP (Builtin.append_ #[T_Sint, T_Sint] T_Sint #[Sl.v p_10, Sl.v ρ80]) ω81 fun (ρ82 : Sl) ω83 =>
  k (emb10 list_0 last_1 n_2 out_7 k_8 v_9 ρ82 (w64 (i_11 + 1))) ω83) ∧
  (pcall1 (.int .i64) PP F.spec_l1Bit #[.bool (decide (ξ75 ≥ v_9))] fun (ρ84 : Int) =>
  load1 (.int .i64) a77 ω15 fun (ξ85 : Int) =>
  sem1 .sl PP (Instr.buildSlice T_Sint 1 #[(0, vI (w64 (ξ85 + ρ84)))]) ω15 fun (ρ86 : Sl) ω87 =>
  sem1 .sl PP (Builtin.append_ #[T_Sint, T_Sint] T_Sint #[Sl.v p_10, Sl.v ρ86]) ω87 fun (ρ88 : Sl) ω89 =>
  k (emb10 list_0 last_1 n_2 out_7 k_8 v_9 ρ88 (w64 (i_11 + 1))) ω89)) ∧
  (pcall1 (.int .i64) PP F.spec_l1Bit #[.bool (decide (ξ75 ≥ v_9))] fun (ρ90 : Int) =>
  load1 .sl a16 ω15 fun (ξ91 : Sl) =>
  idxK 1 ξ91 i_11 fun (a92 : Addr) =>
  load1 (.int .i64) a92 ω15 fun (ξ93 : Int) =>
  sem1 .sl PP (Instr.buildSlice T_Sint 1 #[(0, vI (w64 (ξ93 + ρ90)))]) ω15 fun (ρ94 : Sl) ω95 =>
  sem1 .sl PP (Builtin.append_ #[T_Sint, T_Sint] T_Sint #[Sl.v p_10, Sl.v ρ94]) ω95 fun (ρ96 : Sl) ω97 =>
  k (emb10 list_0 last_1 n_2 out_7 k_8 v_9 ρ96 (w64 (i_11 + 1))) ω97))))
  else (
  Q (.exit 4) (x4 list_0 last_1 n_2 out_7 k_8 v_9 p_10) w)) := B10_eq std list_0 last_1 n_2 out_7 k_8 v_9 p_10 i_11 w k Q
theorem L10_rule (list_0 : Sl) (last_1 : Sl) (n_2 : Int) (out_7 : Sl) (k_8 : Int) (v_9 : Int) (p_10 : Sl) (i_11 : Int) (w : World) (Q : Exit → Env → World → Prop) (I : Sl → Int → World → Prop) (μ : Sl → Int → World → Nat) (h0 : I p_10 i_11 w)
    (h : ∀ (p_10 : Sl) (i_11 : Int) (w' : World), I p_10 i_11 w' → B10 std list_0 last_1 n_2 out_7 k_8 v_9 p_10 i_11 w' (fun e2 w2 => ∃ p_10_n i_11_n, e2 = emb10 list_0 last_1 n_2 out_7 k_8 v_9 p_10_n i_11_n ∧ I p_10_n i_11_n w2 ∧ μ p_10_n i_11_n w2 < μ p_10 i_11 w') Q) :
    L10 std list_0 last_1 n_2 out_7 k_8 v_9 p_10 i_11 w Q := by
  unfold L10
  refine LoopE.intro (σ := Sl × Int) (step := S10 std Q) (fun s => emb10 list_0 last_1 n_2 out_7 k_8 v_9 s.1 s.2) (fun s w => I s.1 s.2 w) (fun s w => μ s.1 s.2 w) (p_10, i_11) rfl h0 ?_
  intro s w' hI
  have h1 := h s.1 s.2 w' hI
  unfold B10 at h1
  simp only [Prod.exists]
  exact h1
theorem A10_4_eq (pr : Prims) (list_0 : Sl) (last_1 : Sl) (n_2 : Int) (out_7 : Sl) (k_8 : Int) (v_9 : Int) (p_10 : Sl) (w : World) (k : Env → World → Prop) (Q : Exit → Env → World → Prop) : (q12 pr k Q) (.exit 4) (x4 list_0 last_1 n_2 out_7 k_8 v_9 p_10) w = (
  pr.sem1 .sl PP (Instr.buildSlice T_Sint 1 #[(0, vI v_9)]) w fun (ρ98 : Sl) ω99 =>
  pr.sem1 .sl PP (Builtin.append_ #[T_Sint, T_Sint] T_Sint #[Sl.v p_10, Sl.v ρ98]) ω99 fun (ρ100 : Sl) ω101 =>
  pr.call1 .bool PP F.spec_l12Avoids #[Sl.v list_0, Sl.v ρ100] ω101 fun (ρ102 : Bool) ω103 =>
  bif ρ102 then (
  pr.sem1 .sl PP (Instr.buildSlice T_SSint 1 #[(0, Sl.v ρ100)]) ω103 fun (ρ104 : Sl) ω105 =>
  pr.sem1 .sl PP (Builtin.append_ #[T_SSint, T_SSint] T_SSint #[Sl.v out_7, Sl.v ρ104]) ω105 fun (ρ106 : Sl) ω107 =>
  k (emb6 list_0 last_1 n_2 ρ106 k_8 (w64 (v_9 + 1))) ω107)
  else (
  k (emb6 list_0 last_1 n_2 out_7 k_8 (w64 (v_9 + 1))) ω103)) := by kernel_rfl
theorem A10_4_s (list_0 : Sl) (last_1 : Sl) (n_2 : Int) (out_7 : Sl) (k_8 : Int) (v_9 : Int) (p_10 : Sl) (w : World) (k : Env → World → Prop) (Q : Exit → Env → World → Prop) : (q12 std k Q) (.exit 4) (x4 list_0 last_1 n_2 out_7 k_8 v_9 p_10) w = (
  sem1 .sl PP (Instr.buildSlice T_Sint 1 #[(0, vI v_9)]) w fun (ρ98 : Sl) ω99 =>
  sem1 .sl PP (Builtin.append_ #[T_Sint, T_Sint] T_Sint #[Sl.v p_10, Sl.v ρ98]) ω99 fun (ρ100 : Sl) ω101 =>
  call1 .bool PP F.spec_l12Avoids #[Sl.v list_0, Sl.v ρ100] ω101 fun (ρ102 : Bool) ω103 =>
  bif ρ102 then (
  sem1 .sl PP (Instr.buildSlice T_SSint 1 #[(0, Sl.v ρ100)]) ω103 fun (ρ104 : Sl) ω105 =>
  sem1 .sl PP (Builtin.append_ #[T_SSint, T_SSint] T_SSint #[Sl.v out_7, Sl.v ρ104]) ω105 fun (ρ106 : Sl) ω107 =>
  k (emb6 list_0 last_1 n_2 ρ106 k_8 (w64 (v_9 + 1))) ω107)
  else (
  k (emb6 list_0 last_1 n_2 out_7 k_8 (w64 (v_9 + 1))) ω103)) := A10_4_eq std list_0 last_1 n_2 out_7 k_8 v_9 p_10 w k Q
theorem B6_eq (pr : Prims) (list_0 : Sl) (last_1 : Sl) (n_2 : Int) (out_7 : Sl) (k_8 : Int) (v_9 : Int) (w : World) (k : Env → World → Prop) (Q : Exit → Env → World → Prop) : B6 pr list_0 last_1 n_2 out_7 k_8 v_9 w k Q = (
  bif decide (v_9 ≤ n_2) then (
  pr.sem1 .sl PP (Instr.buildSlice T_Sint 0 #[]) w fun (ρ9 : Sl) ω10 =>
  L10 pr list_0 last_1 n_2 out_7 k_8 v_9 ρ9 0 ω10 (q12 pr k Q))
  else (
  Q (.exit 2) (x2 list_0 last_1 n_2 out_7 k_8) w)) := by kernel_rfl
theorem B6_s (list_0 : Sl) (last_1 : Sl) (n_2 : Int) (out_7 : Sl) (k_8 : Int) (v_9 : Int) (w : World) (k : Env → World → Prop) (Q : Exit → Env → World → Prop) : B6 std list_0 last_1 n_2 out_7 k_8 v_9 w k Q = (
  bif decide (v_9 ≤ n_2) then (
  sem1 .sl PP (Instr.buildSlice T_Sint 0 #[]) w fun (ρ9 : Sl) ω10 =>
  L10 std list_0 last_1 n_2 out_7 k_8 v_9 ρ9 0 ω10 (q12 std k Q))
  else (
  Q (.exit 2) (x2 list_0 last_1 n_2 out_7 k_8) w)) := B6_eq std list_0 last_1 n_2 out_7 k_8 v_9 w k Q
theorem L6_rule (list_0 : Sl) (last_1 : Sl) (n_2 : Int) (out_7 : Sl) (k_8 : Int) (v_9 : Int) (w : World) (Q : Exit → Env → World → Prop) (I : Sl → Int → World → Prop) (μ : Sl → Int → World → Nat) (h0 : I out_7 v_9 w)
    (h : ∀ (out_7 : Sl) (v_9 : Int) (w' : World), I out_7 v_9 w' → B6 std list_0 last_1 n_2 out_7 k_8 v_9 w' (fun e2 w2 => ∃ out_7_n v_9_n, e2 = emb6 list_0 last_1 n_2 out_7_n k_8 v_9_n ∧ I out_7_n v_9_n w2 ∧ μ out_7_n v_9_n w2 < μ out_7 v_9 w') Q) :
    L6 std list_0 last_1 n_2 out_7 k_8 v_9 w Q := by
  unfold L6
  refine LoopE.intro (σ := Sl × Int) (step := S6 std Q) (fun s => emb6 list_0 last_1 n_2 s.1 k_8 s.2) (fun s w => I s.1 s.2 w) (fun s w => μ s.1 s.2 w) (out_7, v_9) rfl h0 ?_
  intro s w' hI
  have h1 := h s.1 s.2 w' hI
  unfold B6 at h1
  simp only [Prod.exists]
  exact h1
theorem A6_2_eq (pr : Prims) (list_0 : Sl) (last_1 : Sl) (n_2 : Int) (out_7 : Sl) (k_8 : Int) (w : World) (k : Env → World → Prop) (Q : Exit → Env → World → Prop) : (q6 pr k Q) (.exit 2) (x2 list_0 last_1 n_2 out_7 k_8) w = (
  k (emb3 list_0 last_1 n_2 out_7 (w64 (k_8 + 1))) w) := by kernel_rfl
theorem A6_2_s (list_0 : Sl) (last_1 : Sl) (n_2 : Int) (out_7 : Sl) (k_8 : Int) (w : World) (k : Env → World → Prop) (Q : Exit → Env → World → Prop) : (q6 std k Q) (.exit 2) (x2 list_0 last_1 n_2 out_7 k_8) w = (
  k (emb3 list_0 last_1 n_2 out_7 (w64 (k_8 + 1))) w) := A6_2_eq std list_0 last_1 n_2 out_7 k_8 w k Q
theorem A6_4_eq (pr : Prims) (list_0 : Sl) (last_1 : Sl) (n_2 : Int) (out_7 : Sl) (k_8 : Int) (v_9 : Int) (p_10 : Sl) (w : World) (k : Env → World → Prop) (Q : Exit → Env → World → Prop) : (q6 pr k Q) (.exit 4) (x4 list_0 last_1 n_2 out_7 k_8 v_9 p_10) w = (
  Q (.exit 4) (x4 list_0 last_1 n_2 out_7 k_8 v_9 p_10) w) := by kernel_rfl
theorem A6_4_s (list_0 : Sl) (last_1 : Sl) (n_2 : Int) (out_7 : Sl) (k_8 : Int) (v_9 : Int) (p_10 : Sl) (w : World) (k : Env → World → Prop) (Q : Exit → Env → World → Prop) : (q6 std k Q) (.exit 4) (x4 list_0 last_1 n_2 out_7 k_8 v_9 p_10) w = (
  Q (.exit 4) (x4 list_0 last_1 n_2 out_7 k_8 v_9 p_10) w) := A6_4_eq std list_0 last_1 n_2 out_7 k_8 v_9 p_10 w k Q
theorem B3_eq (pr : Prims) (list_0 : Sl) (last_1 : Sl) (n_2 : Int) (out_7 : Sl) (k_8 : Int) (w : World) (k : Env → World → Prop) (Q : Exit → Env → World → Prop) : B3 pr list_0 last_1 n_2 out_7 k_8 w k Q = (
  bif decide (k_8 < (last_1.n : Int)) then (
  L6 pr list_0 last_1 n_2 out_7 k_8 1 w (q6 pr k Q))
  else (
  Q (.exit 0) (x0 out_7) w)) := by kernel_rfl
theorem B3_s (list_0 : Sl) (last_1 : Sl) (n_2 : Int) (out_7 : Sl) (k_8 : Int) (w : World) (k : Env → World → Prop) (Q : Exit → Env → World → Prop) : B3 std list_0 last_1 n_2 out_7 k_8 w k Q = (
  bif decide (k_8 < (last_1.n : Int)) then (
  L6 std list_0 last_1 n_2 out_7 k_8 1 w (q6 std k Q))
  else (
  Q (.exit 0) (x0 out_7) w)) := B3_eq std list_0 last_1 n_2 out_7 k_8 w k Q
theorem L3_rule (list_0 : Sl) (last_1 : Sl) (n_2 : Int) (out_7 : Sl) (k_8 : Int) (w : World) (Q : Exit → Env → World → Prop) (I : Sl → Int → World → Prop) (μ : Sl → Int → World → Nat) (h0 : I out_7 k_8 w)
    (h : ∀ (out_7 : Sl) (k_8 : Int) (w' : World), I out_7 k_8 w' → B3 std list_0 last_1 n_2 out_7 k_8 w' (fun e2 w2 => ∃ out_7_n k_8_n, e2 = emb3 list_0 last_1 n_2 out_7_n k_8_n ∧ I out_7_n k_8_n w2 ∧ μ out_7_n k_8_n w2 < μ out_7 k_8 w') Q) :
    L3 std list_0 last_1 n_2 out_7 k_8 w Q := by
  unfold L3
  refine LoopE.intro (σ := Sl × Int) (step := S3 std Q) (fun s => emb3 list_0 last_1 n_2 s.1 s.2) (fun s w => I s.1 s.2 w) (fun s w => μ s.1 s.2 w) (out_7, k_8) rfl h0 ?_
  intro s w' hI
  have h1 := h s.1 s.2 w' hI
  unfold B3 at h1
  simp only [Prod.exists]
  exact h1
theorem A3_0_eq (pr : Prims) (out_7 : Sl) (w : World) (R : Ending → World → Prop) : (q3 pr R) (.exit 0) (x0 out_7) w = (
  R (.returned (Sl.v out_7)) w) := by kernel_rfl
theorem A3_0_s (out_7 : Sl) (w : World) (R : Ending → World → Prop) : (q3 std R) (.exit 0) (x0 out_7) w = (
  R (.returned (Sl.v out_7)) w) := A3_0_eq std out_7 w R
theorem E_eq (pr : Prims) (list_0 : Sl) (last_1 : Sl) (n_2 : Int) (w : World) (R : Ending → World → Prop) : E pr list_0 last_1 n_2 w R = (
  pr.sem1 .sl PP (Instr.buildSlice T_SSint 0 #[]) w fun (ρ0 : Sl) ω1 =>
  L3 pr list_0 last_1 n_2 ρ0 0 ω1 (q3 pr R)) := by kernel_rfl
theorem E_s (list_0 : Sl) (last_1 : Sl) (n_2 : Int) (w : World) (R : Ending → World → Prop) : E std list_0 last_1 n_2 w R = (
  sem1 .sl PP (Instr.buildSlice T_SSint 0 #[]) w fun (ρ0 : Sl) ω1 =>
  L3 std list_0 last_1 n_2 ρ0 0 ω1 (q3 std R)) := E_eq std list_0 last_1 n_2 w R
theorem drawsOk : drawsOk PP cfg okD (codeOf Try.f84) = true := by kernel_rfl
theorem calls (list_0 : Sl) (last_1 : Sl) (n_2 : Int) {w : World} {R : Ending → World → Prop} (h : E std list_0 last_1 n_2 w R) : Calls PP F.spec_l12Next #[Sl.v list_0, Sl.v last_1, vI n_2] w R :=
  calls_of noCount mixed drawOk Try.func84 rfl (c := cfg) (args := [Sl.v list_0, Sl.v last_1, vI n_2]) rfl (Nat.le_of_ble_eq_true (by kernel_rfl)) drawsOk h
end spec_l12Next

end Go.Proofs.Ytmhgjfahgemblaa
