/- What each function does, step by step, written by a program (Gen.lean); each equation is checked by the kernel. -/
import Derived.Test.YtjojajnkofgfpaaHead
namespace Go.Proofs.Ytjojajnkofgfpaa
open Go
set_option linter.unusedVariables false
set_option maxRecDepth 100000
namespace impl_labels
@[reducible] def cfg : Cfg := ⟨26, [(3, [0, 5, 9, 10, 11])], [(1, [0, 5, 9, 10, 11]), (0, [5])], [], [4], [], [30, 27, 11, 13, 20, 26, 37, 16, 52, 109, 83, 111, 72, 70, 36], [49, 46, 97, 75, 33, 104]⟩
def q2 (pr : Prims) (R : Ending → World → Prop) : Exit → Env → World → Prop := fun ex e w => normQ ex (fun e w => contE pr cfg (sub (codeOf Try.f42) [1, 1, 1]) (fun e w => wpC pr PP cfg (DD pr) (sub (codeOf Try.f42) [1, 1, 1]) (retQ Try.f42.results.toList R) e w) e w) (retQ Try.f42.results.toList R) e w
def q3 (pr : Prims) (R : Ending → World → Prop) : Exit → Env → World → Prop := fun ex e w => blockQ ex 0 (q2 pr R) e w
def emb3 (list_0 : Sl) (out_5 : Sl) (t9 : Sl) (t10 : Int) (t11 : Int) : Env := [(0, Sl.v list_0), (5, Sl.v out_5), (9, Sl.v t9), (10, vI t10), (11, vI t11)]
def x0 (out_5 : Sl) : Env := [(5, Sl.v out_5)]
def S3 (pr : Prims) (Q : Exit → Env → World → Prop) : (Env → World → Prop) → Env → World → Prop := fun k e w => wpC pr PP cfg (DD pr) (sub (codeOf Try.f42) [1, 1, 0, 1, 0, 0]) (fun ex e w => normQ ex (fun e' w' => k (Env.restr e' (lookN cfg.loops (keyOf (sub (codeOf Try.f42) [1, 1, 0, 1, 0, 0])))) w') Q e w) e w
def B3 (pr : Prims) (list_0 : Sl) (out_5 : Sl) (t9 : Sl) (t10 : Int) (t11 : Int) (w : World) (k : Env → World → Prop) (Q : Exit → Env → World → Prop) : Prop :=
  S3 pr Q k (emb3 list_0 out_5 t9 t10 t11) w
def L3 (pr : Prims) (list_0 : Sl) (out_5 : Sl) (t9 : Sl) (t10 : Int) (t11 : Int) (w : World) (Q : Exit → Env → World → Prop) : Prop :=
  pr.loop (S3 pr Q) (emb3 list_0 out_5 t9 t10 t11) w
def E (pr : Prims) (list_0 : Sl) (perms_1 : Sl) (w : World) (R : Ending → World → Prop) : Prop :=
  wpC pr PP cfg (DD pr) (codeOf Try.f42) (retQ Try.f42.results.toList R) (argE 0 [Sl.v list_0, Sl.v perms_1]) w
theorem B3_eq (pr : Prims) (list_0 : Sl) (out_5 : Sl) (t9 : Sl) (t10 : Int) (t11 : Int) (w : World) (k : Env → World → Prop) (Q : Exit → Env → World → Prop) : B3 pr list_0 out_5 t9 t10 t11 w k Q = (
  bif decide (t11 < t10) then (
  pr.idxK 1 t9 t11 fun (a4 : Addr) =>
  pr.load1 .sl a4 w fun (ξ5 : Sl) =>
  pr.call1 .sl PP F.impl_active #[Sl.v list_0, Sl.v ξ5] w fun (ρ6 : Sl) ω7 =>
  pr.sem1 .sl PP (Instr.buildSlice T_Sint 1 #[(0, vI (ρ6.n : Int))]) ω7 fun (ρ8 : Sl) ω9 =>
  pr.sem1 .sl PP (Builtin.append_ #[T_Sint, T_Sint] T_Sint #[Sl.v out_5, Sl.v ρ8]) ω9 fun (ρ10 : Sl) ω11 =>
  k (emb3 list_0 ρ10 t9 t10 (w64 (t11 + 1))) ω11)
  else (
  Q (.exit 0) (x0 out_5) w)) := by kernel_rfl
theorem B3_s (list_0 : Sl) (out_5 : Sl) (t9 : Sl) (t10 : Int) (t11 : Int) (w : World) (k : Env → World → Prop) (Q : Exit → Env → World → Prop) : B3 std list_0 out_5 t9 t10 t11 w k Q = (
  bif decide (t11 < t10) then (
  idxK 1 t9 t11 fun (a4 : Addr) =>
  load1 .sl a4 w fun (ξ5 : Sl) =>
  call1 .sl PP F.impl_active #[Sl.v list_0, Sl.v ξ5] w fun (ρ6 : Sl) ω7 =>
  sem1 .sl PP (Instr.buildSlice T_Sint 1 #[(0, vI (ρ6.n : Int))]) ω7 fun (ρ8 : Sl) ω9 =>
  sem1 .sl PP (Builtin.append_ #[T_Sint, T_Sint] T_Sint #[Sl.v out_5, Sl.v ρ8]) ω9 fun (ρ10 : Sl) ω11 =>
  k (emb3 list_0 ρ10 t9 t10 (w64 (t11 + 1))) ω11)
  else (
  Q (.exit 0) (x0 out_5) w)) := B3_eq std list_0 out_5 t9 t10 t11 w k Q
theorem L3_rule (list_0 : Sl) (out_5 : Sl) (t9 : Sl) (t10 : Int) (t11 : Int) (w : World) (Q : Exit → Env → World → Prop) (I : Sl → Int → World → Prop) (μ : Sl → Int → World → Nat) (h0 : I out_5 t11 w)
    (h : ∀ (out_5 : Sl) (t11 : Int) (w' : World), I out_5 t11 w' → B3 std list_0 out_5 t9 t10 t11 w' (fun e2 w2 => ∃ out_5_n t11_n, e2 = emb3 list_0 out_5_n t9 t10 t11_n ∧ I out_5_n t11_n w2 ∧ μ out_5_n t11_n w2 < μ out_5 t11 w') Q) :
    L3 std list_0 out_5 t9 t10 t11 w Q := by
  unfold L3
  refine LoopE.intro (σ := Sl × Int) (step := S3 std Q) (fun s => emb3 list_0 s.1 t9 t10 s.2) (fun s w => I s.1 s.2 w) (fun s w => μ s.1 s.2 w) (out_5, t11) rfl h0 ?_
  intro s w' hI
  have h1 := h s.1 s.2 w' hI
  unfold B3 at h1
  simp only [Prod.exists]
  exact h1
theorem A3_0_eq (pr : Prims) (out_5 : Sl) (w : World) (R : Ending → World → Prop) : (q3 pr R) (.exit 0) (x0 out_5) w = (
  pr.call0  PP F.slices_Sort___int_int_ #[Sl.v out_5] w fun ω12 =>
  R (.returned (Sl.v out_5)) ω12) := by kernel_rfl
theorem A3_0_s (out_5 : Sl) (w : World) (R : Ending → World → Prop) : (q3 std R) (.exit 0) (x0 out_5) w = (
  call0  PP F.slices_Sort___int_int_ #[Sl.v out_5] w fun ω12 =>
  R (.returned (Sl.v out_5)) ω12) := A3_0_eq std out_5 w R
theorem E_eq (pr : Prims) (list_0 : Sl) (perms_1 : Sl) (w : World) (R : Ending → World → Prop) : E pr list_0 perms_1 w R = (
  pr.sem1 .sl PP (Instr.buildSlice T_Sint 0 #[]) w fun (ρ0 : Sl) ω1 =>
  L3 pr list_0 ρ0 perms_1 (perms_1.n : Int) 0 ω1 (q3 pr R)) := by kernel_rfl
theorem E_s (list_0 : Sl) (perms_1 : Sl) (w : World) (R : Ending → World → Prop) : E std list_0 perms_1 w R = (
  sem1 .sl PP (Instr.buildSlice T_Sint 0 #[]) w fun (ρ0 : Sl) ω1 =>
  L3 std list_0 ρ0 perms_1 (perms_1.n : Int) 0 ω1 (q3 std R)) := E_eq std list_0 perms_1 w R
theorem drawsOk : drawsOk PP cfg okD (codeOf Try.f42) = true := by kernel_rfl
theorem calls (list_0 : Sl) (perms_1 : Sl) {w : World} {R : Ending → World → Prop} (h : E std list_0 perms_1 w R) : Calls PP F.impl_labels #[Sl.v list_0, Sl.v perms_1] w R :=
  calls_of noCount mixed drawOk Try.func42 rfl (c := cfg) (args := [Sl.v list_0, Sl.v perms_1]) rfl (Nat.le_of_ble_eq_true (by kernel_rfl)) drawsOk h
end impl_labels

namespace impl_ChildLabels
@[reducible] def cfg : Cfg := ⟨19, [], [], [], [4], [], [30, 27, 11, 13, 20, 26, 37, 16, 52, 109, 83, 111, 72, 70, 36], [49, 46, 97, 75, 33, 104]⟩
def E (pr : Prims) (list_0 : Sl) (p_1 : Sl) (w : World) (R : Ending → World → Prop) : Prop :=
  wpC pr PP cfg (DD pr) (codeOf Try.f19) (retQ Try.f19.results.toList R) (argE 0 [Sl.v list_0, Sl.v p_1]) w
theorem E_eq (pr : Prims) (list_0 : Sl) (p_1 : Sl) (w : World) (R : Ending → World → Prop) : E pr list_0 p_1 w R = (
  bif decide ((p_1.n : Int) > 6) then (
  R (.returned (Sl.v Sl.nil)) w)
  else (
  pr.call1 .bool PP F.impl_hasSites #[Sl.v list_0, Sl.v p_1] w fun (ρ0 : Bool) ω1 =>
  bif !ρ0 then (
  R (.returned (Sl.v Sl.nil)) ω1)
  else (
  pr.call1 .sl PP F.impl_children #[Sl.v list_0, Sl.v p_1] ω1 fun (ρ2 : Sl) ω3 =>
  pr.call1 .sl PP F.impl_labels #[Sl.v list_0, Sl.v ρ2] ω3 fun (ρ4 : Sl) ω5 =>
  R (.returned (Sl.v ρ4)) ω5))) := by kernel_rfl
theorem E_s (list_0 : Sl) (p_1 : Sl) (w : World) (R : Ending → World → Prop) : E std list_0 p_1 w R = (
  bif decide ((p_1.n : Int) > 6) then (
  R (.returned (Sl.v Sl.nil)) w)
  else (
  call1 .bool PP F.impl_hasSites #[Sl.v list_0, Sl.v p_1] w fun (ρ0 : Bool) ω1 =>
  bif !ρ0 then (
  R (.returned (Sl.v Sl.nil)) ω1)
  else (
  call1 .sl PP F.impl_children #[Sl.v list_0, Sl.v p_1] ω1 fun (ρ2 : Sl) ω3 =>
  call1 .sl PP F.impl_labels #[Sl.v list_0, Sl.v ρ2] ω3 fun (ρ4 : Sl) ω5 =>
  R (.returned (Sl.v ρ4)) ω5))) := E_eq std list_0 p_1 w R
theorem drawsOk : drawsOk PP cfg okD (codeOf Try.f19) = true := by kernel_rfl
theorem calls (list_0 : Sl) (p_1 : Sl) {w : World} {R : Ending → World → Prop} (h : E std list_0 p_1 w R) : Calls PP F.impl_ChildLabels #[Sl.v list_0, Sl.v p_1] w R :=
  calls_of noCount mixed drawOk Try.func19 rfl (c := cfg) (args := [Sl.v list_0, Sl.v p_1]) rfl (Nat.le_of_ble_eq_true (by kernel_rfl)) drawsOk h
end impl_ChildLabels

namespace spec_ChildLabels
@[reducible] def cfg : Cfg := ⟨34, [(6, [0, 5, 6, 7])], [(1, [0, 5, 6, 7]), (0, [5])], [], [4], [], [30, 27, 11, 13, 20, 26, 37, 16, 52, 109, 83, 111, 72, 70, 36], [49, 46, 97, 75, 33, 104]⟩
def q4 (pr : Prims) (R : Ending → World → Prop) : Exit → Env → World → Prop := fun ex e w => normQ ex (fun e w => contE pr cfg (sub (codeOf Try.f17) [1, 1, 1, 1, 1]) (fun e w => wpC pr PP cfg (DD pr) (sub (codeOf Try.f17) [1, 1, 1, 1, 1]) (retQ Try.f17.results.toList R) e w) e w) (retQ Try.f17.results.toList R) e w
def q5 (pr : Prims) (R : Ending → World → Prop) : Exit → Env → World → Prop := fun ex e w => blockQ ex 0 (q4 pr R) e w
def emb6 (list_0 : Sl) (out_5 : Sl) (all_6 : Sl) (k_7 : Int) : Env := [(0, Sl.v list_0), (5, Sl.v out_5), (6, Sl.v all_6), (7, vI k_7)]
def x0 (out_5 : Sl) : Env := [(5, Sl.v out_5)]
def S6 (pr : Prims) (Q : Exit → Env → World → Prop) : (Env → World → Prop) → Env → World → Prop := fun k e w => wpC pr PP cfg (DD pr) (sub (codeOf Try.f17) [1, 1, 1, 1, 0, 1, 0, 0]) (fun ex e w => normQ ex (fun e' w' => k (Env.restr e' (lookN cfg.loops (keyOf (sub (codeOf Try.f17) [1, 1, 1, 1, 0, 1, 0, 0])))) w') Q e w) e w
def B6 (pr : Prims) (list_0 : Sl) (out_5 : Sl) (all_6 : Sl) (k_7 : Int) (w : World) (k : Env → World → Prop) (Q : Exit → Env → World → Prop) : Prop :=
  S6 pr Q k (emb6 list_0 out_5 all_6 k_7) w
def L6 (pr : Prims) (list_0 : Sl) (out_5 : Sl) (all_6 : Sl) (k_7 : Int) (w : World) (Q : Exit → Env → World → Prop) : Prop :=
  pr.loop (S6 pr Q) (emb6 list_0 out_5 all_6 k_7) w
def E (pr : Prims) (list_0 : Sl) (p_1 : Sl) (w : World) (R : Ending → World → Prop) : Prop :=
  wpC pr PP cfg (DD pr) (codeOf Try.f17) (retQ Try.f17.results.toList R) (argE 0 [Sl.v list_0, Sl.v p_1]) w
theorem B6_eq (pr : Prims) (list_0 : Sl) (out_5 : Sl) (all_6 : Sl) (k_7 : Int) (w : World) (k : Env → World → Prop) (Q : Exit → Env → World → Prop) : B6 pr list_0 out_5 all_6 k_7 w k Q = (
  bif decide (k_7 < (all_6.n : Int)) then (
  pr.idxK 1 all_6 k_7 fun (a6 : Addr) =>
  pr.load1 .sl a6 w fun (ξ7 : Sl) =>
  pr.call1 .sl PP F.spec_l14Sites #[Sl.v list_0, Sl.v ξ7] w fun (ρ8 : Sl) ω9 =>
  pr.sem1 .sl PP (Instr.buildSlice T_Sint 1 #[(0, vI (ρ8.n : Int))]) ω9 fun (ρ10 : Sl) ω11 =>
  pr.sem1 .sl PP (Builtin.append_ #[T_Sint, T_Sint] T_Sint #[Sl.v out_5, Sl.v ρ10]) ω11 fun (ρ12 : Sl) ω13 =>
  k (emb6 list_0 ρ12 all_6 (w64 (k_7 + 1))) ω13)
  else (
  Q (.exit 0) (x0 out_5) w)) := by kernel_rfl
theorem B6_s (list_0 : Sl) (out_5 : Sl) (all_6 : Sl) (k_7 : Int) (w : World) (k : Env → World → Prop) (Q : Exit → Env → World → Prop) : B6 std list_0 out_5 all_6 k_7 w k Q = (
  bif decide (k_7 < (all_6.n : Int)) then (
  idxK 1 all_6 k_7 fun (a6 : Addr) =>
  load1 .sl a6 w fun (ξ7 : Sl) =>
  call1 .sl PP F.spec_l14Sites #[Sl.v list_0, Sl.v ξ7] w fun (ρ8 : Sl) ω9 =>
  sem1 .sl PP (Instr.buildSlice T_Sint 1 #[(0, vI (ρ8.n : Int))]) ω9 fun (ρ10 : Sl) ω11 =>
  sem1 .sl PP (Builtin.append_ #[T_Sint, T_Sint] T_Sint #[Sl.v out_5, Sl.v ρ10]) ω11 fun (ρ12 : Sl) ω13 =>
  k (emb6 list_0 ρ12 all_6 (w64 (k_7 + 1))) ω13)
  else (
  Q (.exit 0) (x0 out_5) w)) := B6_eq std list_0 out_5 all_6 k_7 w k Q
theorem L6_rule (list_0 : Sl) (out_5 : Sl) (all_6 : Sl) (k_7 : Int) (w : World) (Q : Exit → Env → World → Prop) (I : Sl → Int → World → Prop) (μ : Sl → Int → World → Nat) (h0 : I out_5 k_7 w)
    (h : ∀ (out_5 : Sl) (k_7 : Int) (w' : World), I out_5 k_7 w' → B6 std list_0 out_5 all_6 k_7 w' (fun e2 w2 => ∃ out_5_n k_7_n, e2 = emb6 list_0 out_5_n all_6 k_7_n ∧ I out_5_n k_7_n w2 ∧ μ out_5_n k_7_n w2 < μ out_5 k_7 w') Q) :
    L6 std list_0 out_5 all_6 k_7 w Q := by
  unfold L6
  refine LoopE.intro (σ := Sl × Int) (step := S6 std Q) (fun s => emb6 list_0 s.1 all_6 s.2) (fun s w => I s.1 s.2 w) (fun s w => μ s.1 s.2 w) (out_5, k_7) rfl h0 ?_
  intro s w' hI
  have h1 := h s.1 s.2 w' hI
  unfold B6 at h1
  simp only [Prod.exists]
  exact h1
theorem A6_0_eq (pr : Prims) (out_5 : Sl) (w : World) (R : Ending → World → Prop) : (q5 pr R) (.exit 0) (x0 out_5) w = (
  pr.call1 .sl PP F.spec_l15Sort #[Sl.v out_5] w fun (ρ14 : Sl) ω15 =>
  R (.returned (Sl.v ρ14)) ω15) := by kernel_rfl
theorem A6_0_s (out_5 : Sl) (w : World) (R : Ending → World → Prop) : (q5 std R) (.exit 0) (x0 out_5) w = (
  call1 .sl PP F.spec_l15Sort #[Sl.v out_5] w fun (ρ14 : Sl) ω15 =>
  R (.returned (Sl.v ρ14)) ω15) := A6_0_eq std out_5 w R
theorem E_eq (pr : Prims) (list_0 : Sl) (p_1 : Sl) (w : World) (R : Ending → World → Prop) : E pr list_0 p_1 w R = (
  pr.sem1 .sl PP (Instr.buildSlice T_Sint 0 #[]) w fun (ρ0 : Sl) ω1 =>
  bif decide ((p_1.n : Int) > 6) then (
  R (.returned (Sl.v ρ0)) ω1)
  else (
  pr.call1 .sl PP F.spec_ChildrenOf #[Sl.v list_0, Sl.v p_1] ω1 fun (ρ2 : Sl) ω3 =>
  L6 pr list_0 ρ0 ρ2 0 ω3 (q5 pr R))) := by kernel_rfl
theorem E_s (list_0 : Sl) (p_1 : Sl) (w : World) (R : Ending → World → Prop) : E std list_0 p_1 w R = (
  sem1 .sl PP (Instr.buildSlice T_Sint 0 #[]) w fun (ρ0 : Sl) ω1 =>
  bif decide ((p_1.n : Int) > 6) then (
  R (.returned (Sl.v ρ0)) ω1)
  else (
  call1 .sl PP F.spec_ChildrenOf #[Sl.v list_0, Sl.v p_1] ω1 fun (ρ2 : Sl) ω3 =>
  L6 std list_0 ρ0 ρ2 0 ω3 (q5 std R))) := E_eq std list_0 p_1 w R
theorem drawsOk : drawsOk PP cfg okD (codeOf Try.f17) = true := by kernel_rfl
theorem calls (list_0 : Sl) (p_1 : Sl) {w : World} {R : Ending → World → Prop} (h : E std list_0 p_1 w R) : Calls PP F.spec_ChildLabels #[Sl.v list_0, Sl.v p_1] w R :=
  calls_of noCount mixed drawOk Try.func17 rfl (c := cfg) (args := [Sl.v list_0, Sl.v p_1]) rfl (Nat.le_of_ble_eq_true (by kernel_rfl)) drawsOk h
end spec_ChildLabels

namespace impl_LabelsAt
@[reducible] def cfg : Cfg := ⟨18, [], [], [], [4], [], [30, 27, 11, 13, 20, 26, 37, 16, 52, 109, 83, 111, 72, 70, 36], [49, 46, 97, 75, 33, 104]⟩
def E (pr : Prims) (list_0 : Sl) (n_1 : Int) (w : World) (R : Ending → World → Prop) : Prop :=
  wpC pr PP cfg (DD pr) (codeOf Try.f23) (retQ Try.f23.results.toList R) (argE 0 [Sl.v list_0, vI n_1]) w
theorem E_eq (pr : Prims) (list_0 : Sl) (n_1 : Int) (w : World) (R : Ending → World → Prop) : E pr list_0 n_1 w R = (
  pr.call1 .bool PP F.impl_IsBasis #[Sl.v list_0] w fun (ρ0 : Bool) ω1 =>
  bif !ρ0 then (
  R (.returned (Sl.v Sl.nil)) ω1)
  else (
  pr.pcall1 .bool PP F.impl_isSix #[vI n_1] fun (ρ2 : Bool) =>
  bif !ρ2 then (
  R (.returned (Sl.v Sl.nil)) ω1)
  else (
  pr.call1 .sl PP F.impl_class #[Sl.v list_0, vI n_1] ω1 fun (ρ3 : Sl) ω4 =>
  pr.call1 .sl PP F.impl_labels #[Sl.v list_0, Sl.v ρ3] ω4 fun (ρ5 : Sl) ω6 =>
  R (.returned (Sl.v ρ5)) ω6))) := by kernel_rfl
theorem E_s (list_0 : Sl) (n_1 : Int) (w : World) (R : Ending → World → Prop) : E std list_0 n_1 w R = (
  call1 .bool PP F.impl_IsBasis #[Sl.v list_0] w fun (ρ0 : Bool) ω1 =>
  bif !ρ0 then (
  R (.returned (Sl.v Sl.nil)) ω1)
  else (
  pcall1 .bool PP F.impl_isSix #[vI n_1] fun (ρ2 : Bool) =>
  bif !ρ2 then (
  R (.returned (Sl.v Sl.nil)) ω1)
  else (
  call1 .sl PP F.impl_class #[Sl.v list_0, vI n_1] ω1 fun (ρ3 : Sl) ω4 =>
  call1 .sl PP F.impl_labels #[Sl.v list_0, Sl.v ρ3] ω4 fun (ρ5 : Sl) ω6 =>
  R (.returned (Sl.v ρ5)) ω6))) := E_eq std list_0 n_1 w R
theorem drawsOk : drawsOk PP cfg okD (codeOf Try.f23) = true := by kernel_rfl
theorem calls (list_0 : Sl) (n_1 : Int) {w : World} {R : Ending → World → Prop} (h : E std list_0 n_1 w R) : Calls PP F.impl_LabelsAt #[Sl.v list_0, vI n_1] w R :=
  calls_of noCount mixed drawOk Try.func23 rfl (c := cfg) (args := [Sl.v list_0, vI n_1]) rfl (Nat.le_of_ble_eq_true (by kernel_rfl)) drawsOk h
end impl_LabelsAt

namespace spec_LabelsAt
@[reducible] def cfg : Cfg := ⟨30, [(4, [0, 5, 6, 7])], [(1, [0, 5, 6, 7]), (0, [5])], [], [4], [], [30, 27, 11, 13, 20, 26, 37, 16, 52, 109, 83, 111, 72, 70, 36], [49, 46, 97, 75, 33, 104]⟩
def q4 (pr : Prims) (R : Ending → World → Prop) : Exit → Env → World → Prop := fun ex e w => normQ ex (fun e w => contE pr cfg (sub (codeOf Try.f22) [1, 1, 1, 1]) (fun e w => wpC pr PP cfg (DD pr) (sub (codeOf Try.f22) [1, 1, 1, 1]) (retQ Try.f22.results.toList R) e w) e w) (retQ Try.f22.results.toList R) e w
def q5 (pr : Prims) (R : Ending → World → Prop) : Exit → Env → World → Prop := fun ex e w => blockQ ex 0 (q4 pr R) e w
def emb4 (list_0 : Sl) (out_5 : Sl) (all_6 : Sl) (k_7 : Int) : Env := [(0, Sl.v list_0), (5, Sl.v out_5), (6, Sl.v all_6), (7, vI k_7)]
def x0 (out_5 : Sl) : Env := [(5, Sl.v out_5)]
def S4 (pr : Prims) (Q : Exit → Env → World → Prop) : (Env → World → Prop) → Env → World → Prop := fun k e w => wpC pr PP cfg (DD pr) (sub (codeOf Try.f22) [1, 1, 1, 0, 1, 0, 0]) (fun ex e w => normQ ex (fun e' w' => k (Env.restr e' (lookN cfg.loops (keyOf (sub (codeOf Try.f22) [1, 1, 1, 0, 1, 0, 0])))) w') Q e w) e w
def B4 (pr : Prims) (list_0 : Sl) (out_5 : Sl) (all_6 : Sl) (k_7 : Int) (w : World) (k : Env → World → Prop) (Q : Exit → Env → World → Prop) : Prop :=
  S4 pr Q k (emb4 list_0 out_5 all_6 k_7) w
def L4 (pr : Prims) (list_0 : Sl) (out_5 : Sl) (all_6 : Sl) (k_7 : Int) (w : World) (Q : Exit → Env → World → Prop) : Prop :=
  pr.loop (S4 pr Q) (emb4 list_0 out_5 all_6 k_7) w
def E (pr : Prims) (list_0 : Sl) (n_1 : Int) (w : World) (R : Ending → World → Prop) : Prop :=
  wpC pr PP cfg (DD pr) (codeOf Try.f22) (retQ Try.f22.results.toList R) (argE 0 [Sl.v list_0, vI n_1]) w
theorem B4_eq (pr : Prims) (list_0 : Sl) (out_5 : Sl) (all_6 : Sl) (k_7 : Int) (w : World) (k : Env → World → Prop) (Q : Exit → Env → World → Prop) : B4 pr list_0 out_5 all_6 k_7 w k Q = (
  bif decide (k_7 < (all_6.n : Int)) then (
  pr.idxK 1 all_6 k_7 fun (a6 : Addr) =>
  pr.load1 .sl a6 w fun (ξ7 : Sl) =>
  pr.call1 .sl PP F.spec_l14Sites #[Sl.v list_0, Sl.v ξ7] w fun (ρ8 : Sl) ω9 =>
  pr.sem1 .sl PP (Instr.buildSlice T_Sint 1 #[(0, vI (ρ8.n : Int))]) ω9 fun (ρ10 : Sl) ω11 =>
  pr.sem1 .sl PP (Builtin.append_ #[T_Sint, T_Sint] T_Sint #[Sl.v out_5, Sl.v ρ10]) ω11 fun (ρ12 : Sl) ω13 =>
  k (emb4 list_0 ρ12 all_6 (w64 (k_7 + 1))) ω13)
  else (
  Q (.exit 0) (x0 out_5) w)) := by kernel_rfl
theorem B4_s (list_0 : Sl) (out_5 : Sl) (all_6 : Sl) (k_7 : Int) (w : World) (k : Env → World → Prop) (Q : Exit → Env → World → Prop) : B4 std list_0 out_5 all_6 k_7 w k Q = (
  bif decide (k_7 < (all_6.n : Int)) then (
  idxK 1 all_6 k_7 fun (a6 : Addr) =>
  load1 .sl a6 w fun (ξ7 : Sl) =>
  call1 .sl PP F.spec_l14Sites #[Sl.v list_0, Sl.v ξ7] w fun (ρ8 : Sl) ω9 =>
  sem1 .sl PP (Instr.buildSlice T_Sint 1 #[(0, vI (ρ8.n : Int))]) ω9 fun (ρ10 : Sl) ω11 =>
  sem1 .sl PP (Builtin.append_ #[T_Sint, T_Sint] T_Sint #[Sl.v out_5, Sl.v ρ10]) ω11 fun (ρ12 : Sl) ω13 =>
  k (emb4 list_0 ρ12 all_6 (w64 (k_7 + 1))) ω13)
  else (
  Q (.exit 0) (x0 out_5) w)) := B4_eq std list_0 out_5 all_6 k_7 w k Q
theorem L4_rule (list_0 : Sl) (out_5 : Sl) (all_6 : Sl) (k_7 : Int) (w : World) (Q : Exit → Env → World → Prop) (I : Sl → Int → World → Prop) (μ : Sl → Int → World → Nat) (h0 : I out_5 k_7 w)
    (h : ∀ (out_5 : Sl) (k_7 : Int) (w' : World), I out_5 k_7 w' → B4 std list_0 out_5 all_6 k_7 w' (fun e2 w2 => ∃ out_5_n k_7_n, e2 = emb4 list_0 out_5_n all_6 k_7_n ∧ I out_5_n k_7_n w2 ∧ μ out_5_n k_7_n w2 < μ out_5 k_7 w') Q) :
    L4 std list_0 out_5 all_6 k_7 w Q := by
  unfold L4
  refine LoopE.intro (σ := Sl × Int) (step := S4 std Q) (fun s => emb4 list_0 s.1 all_6 s.2) (fun s w => I s.1 s.2 w) (fun s w => μ s.1 s.2 w) (out_5, k_7) rfl h0 ?_
  intro s w' hI
  have h1 := h s.1 s.2 w' hI
  unfold B4 at h1
  simp only [Prod.exists]
  exact h1
theorem A4_0_eq (pr : Prims) (out_5 : Sl) (w : World) (R : Ending → World → Prop) : (q5 pr R) (.exit 0) (x0 out_5) w = (
  pr.call1 .sl PP F.spec_l15Sort #[Sl.v out_5] w fun (ρ14 : Sl) ω15 =>
  R (.returned (Sl.v ρ14)) ω15) := by kernel_rfl
theorem A4_0_s (out_5 : Sl) (w : World) (R : Ending → World → Prop) : (q5 std R) (.exit 0) (x0 out_5) w = (
  call1 .sl PP F.spec_l15Sort #[Sl.v out_5] w fun (ρ14 : Sl) ω15 =>
  R (.returned (Sl.v ρ14)) ω15) := A4_0_eq std out_5 w R
theorem E_eq (pr : Prims) (list_0 : Sl) (n_1 : Int) (w : World) (R : Ending → World → Prop) : E pr list_0 n_1 w R = (
  pr.sem1 .sl PP (Instr.buildSlice T_Sint 0 #[]) w fun (ρ0 : Sl) ω1 =>
  pr.call1 .sl PP F.spec_ClassOf #[Sl.v list_0, vI n_1] ω1 fun (ρ2 : Sl) ω3 =>
  L4 pr list_0 ρ0 ρ2 0 ω3 (q5 pr R)) := by kernel_rfl
theorem E_s (list_0 : Sl) (n_1 : Int) (w : World) (R : Ending → World → Prop) : E std list_0 n_1 w R = (
  sem1 .sl PP (Instr.buildSlice T_Sint 0 #[]) w fun (ρ0 : Sl) ω1 =>
  call1 .sl PP F.spec_ClassOf #[Sl.v list_0, vI n_1] ω1 fun (ρ2 : Sl) ω3 =>
  L4 std list_0 ρ0 ρ2 0 ω3 (q5 std R)) := E_eq std list_0 n_1 w R
theorem drawsOk : drawsOk PP cfg okD (codeOf Try.f22) = true := by kernel_rfl
theorem calls (list_0 : Sl) (n_1 : Int) {w : World} {R : Ending → World → Prop} (h : E std list_0 n_1 w R) : Calls PP F.spec_LabelsAt #[Sl.v list_0, vI n_1] w R :=
  calls_of noCount mixed drawOk Try.func22 rfl (c := cfg) (args := [Sl.v list_0, vI n_1]) rfl (Nat.le_of_ble_eq_true (by kernel_rfl)) drawsOk h
end spec_LabelsAt

namespace laws_FnExactChildLabels
@[reducible] def cfg : Cfg := ⟨90, [], [], [], [4], [], [30, 27, 11, 13, 20, 26, 37, 16, 52, 109, 83, 111, 72, 70, 36], [49, 46, 97, 75, 33, 104]⟩
def E (pr : Prims) (aList_0 : Sl) (aP_1 : Sl) (w : World) (R : Ending → World → Prop) : Prop :=
  wpC pr PP cfg (DD pr) (codeOf Try.f5) (retQ Try.f5.results.toList R) (argE 0 [Sl.v aList_0, Sl.v aP_1]) w
theorem E_eq (pr : Prims) (aList_0 : Sl) (aP_1 : Sl) (w : World) (R : Ending → World → Prop) : E pr aList_0 aP_1 w R = (
  bif decide ((aP_1.n : Int) > 1048576) then (
  R (.returned (.bool true)) w)
  else (
  pr.call1 (.int .i64) PP F.laws_szIntSS #[Sl.v aList_0, vI 1048576] w fun (ρ0 : Int) ω1 =>
  bif decide (ρ0 < 0) then (
  R (.returned (.bool true)) ω1)
  else (
  pr.call1 .sl PP F.laws_toIntSS #[Sl.v aList_0] ω1 fun (ρ2 : Sl) ω3 =>
  pr.call1 .sl PP F.laws_toIntS #[Sl.v aP_1] ω3 fun (ρ4 : Sl) ω5 =>
  pr.call1 .sl PP F.spec_ChildLabels #[Sl.v ρ2, Sl.v ρ4] ω5 fun (ρ6 : Sl) ω7 =>
  pr.call1 .sl PP F.laws_toIntSS #[Sl.v aList_0] ω7 fun (ρ8 : Sl) ω9 =>
  pr.call1 .sl PP F.laws_toIntS #[Sl.v aP_1] ω9 fun (ρ10 : Sl) ω11 =>
  pr.call1 .sl PP F.impl_ChildLabels #[Sl.v ρ8, Sl.v ρ10] ω11 fun (ρ12 : Sl) ω13 =>
  pr.call1 .bool PP F.laws_eqIntS #[Sl.v ρ12, Sl.v ρ6] ω13 fun (ρ14 : Bool) ω15 =>
  bif !ρ14 then (
  R (.returned (.bool false)) ω15)
  else (
  pr.call1 .sl PP F.laws_toIntSS #[Sl.v aList_0] ω15 fun (ρ16 : Sl) ω17 =>
  pr.call1 .bool PP F.laws_eqIntSS #[Sl.v ρ8, Sl.v ρ16] ω17 fun (ρ18 : Bool) ω19 =>
  bif !ρ18 then (
  R (.returned (.bool false)) ω19)
  else (
  pr.call1 .sl PP F.laws_toIntS #[Sl.v aP_1] ω19 fun (ρ20 : Sl) ω21 =>
  pr.call1 .bool PP F.laws_eqIntS #[Sl.v ρ10, Sl.v ρ20] ω21 fun (ρ22 : Bool) ω23 =>
  bif !ρ22 then (
  R (.returned (.bool false)) ω23)
  else (
  pr.call1 (.int .i64) PP F.laws_markIntSS #[Sl.v ρ8, vI 1] ω23 fun (ρ24 : Int) ω25 =>
  pr.call1 (.int .i64) PP F.laws_markIntS #[Sl.v ρ10, vI ρ24] ω25 fun (ρ26 : Int) ω27 =>
  bif decide (ρ26 < 0) then (
  R (.returned (.bool false)) ω27)
  else (
  pr.call1 .bool PP F.laws_eqIntS #[Sl.v ρ12, Sl.v ρ6] ω27 fun (ρ28 : Bool) ω29 =>
  bif !ρ28 then (
  R (.returned (.bool false)) ω29)
  else (
  pr.call1 (.int .i64) PP F.laws_markIntS #[Sl.v ρ12, vI 1] ω29 fun (ρ30 : Int) ω31 =>
  pr.call1 (.int .i64) PP F.laws_heldIntS #[Sl.v ρ12, vI 1] ω31 fun (ρ32 : Int) ω33 =>
  bif decide (ρ32 < 0) then (
  R (.returned (.bool false)) ω33)
  else (
  bif ρ32 != ρ30 then (
  R (.returned (.bool false)) ω33)
  else (
  pr.call1 .sl PP F.laws_toIntSS #[Sl.v aList_0] ω33 fun (ρ34 : Sl) ω35 =>
  pr.call1 .sl PP F.laws_toIntS #[Sl.v aP_1] ω35 fun (ρ36 : Sl) ω37 =>
  pr.call1 .sl PP F.impl_ChildLabels #[Sl.v ρ34, Sl.v ρ36] ω37 fun (ρ38 : Sl) ω39 =>
  pr.call1 .bool PP F.laws_eqIntS #[Sl.v ρ38, Sl.v ρ6] ω39 fun (ρ40 : Bool) ω41 =>
  bif !ρ40 then (
  R (.returned (.bool false)) ω41)
  else (
  pr.call1 (.int .i64) PP F.laws_heldIntS #[Sl.v ρ12, vI 1] ω41 fun (ρ42 : Int) ω43 =>
  bif decide (ρ42 < 0) then (
  R (.returned (.bool false)) ω43)
  else (
  bif ρ42 != ρ30 then (
  R (.returned (.bool false)) ω43)
  else (
  R (.returned (.bool true)) ω43))))))))))))) := by kernel_rfl
theorem E_s (aList_0 : Sl) (aP_1 : Sl) (w : World) (R : Ending → World → Prop) : E std aList_0 aP_1 w R = (
  bif decide ((aP_1.n : Int) > 1048576) then (
  R (.returned (.bool true)) w)
  else (
  call1 (.int .i64) PP F.laws_szIntSS #[Sl.v aList_0, vI 1048576] w fun (ρ0 : Int) ω1 =>
  bif decide (ρ0 < 0) then (
  R (.returned (.bool true)) ω1)
  else (
  call1 .sl PP F.laws_toIntSS #[Sl.v aList_0] ω1 fun (ρ2 : Sl) ω3 =>
  call1 .sl PP F.laws_toIntS #[Sl.v aP_1] ω3 fun (ρ4 : Sl) ω5 =>
  call1 .sl PP F.spec_ChildLabels #[Sl.v ρ2, Sl.v ρ4] ω5 fun (ρ6 : Sl) ω7 =>
  call1 .sl PP F.laws_toIntSS #[Sl.v aList_0] ω7 fun (ρ8 : Sl) ω9 =>
  call1 .sl PP F.laws_toIntS #[Sl.v aP_1] ω9 fun (ρ10 : Sl) ω11 =>
  call1 .sl PP F.impl_ChildLabels #[Sl.v ρ8, Sl.v ρ10] ω11 fun (ρ12 : Sl) ω13 =>
  call1 .bool PP F.laws_eqIntS #[Sl.v ρ12, Sl.v ρ6] ω13 fun (ρ14 : Bool) ω15 =>
  bif !ρ14 then (
  R (.returned (.bool false)) ω15)
  else (
  call1 .sl PP F.laws_toIntSS #[Sl.v aList_0] ω15 fun (ρ16 : Sl) ω17 =>
  call1 .bool PP F.laws_eqIntSS #[Sl.v ρ8, Sl.v ρ16] ω17 fun (ρ18 : Bool) ω19 =>
  bif !ρ18 then (
  R (.returned (.bool false)) ω19)
  else (
  call1 .sl PP F.laws_toIntS #[Sl.v aP_1] ω19 fun (ρ20 : Sl) ω21 =>
  call1 .bool PP F.laws_eqIntS #[Sl.v ρ10, Sl.v ρ20] ω21 fun (ρ22 : Bool) ω23 =>
  bif !ρ22 then (
  R (.returned (.bool false)) ω23)
  else (
  call1 (.int .i64) PP F.laws_markIntSS #[Sl.v ρ8, vI 1] ω23 fun (ρ24 : Int) ω25 =>
  call1 (.int .i64) PP F.laws_markIntS #[Sl.v ρ10, vI ρ24] ω25 fun (ρ26 : Int) ω27 =>
  bif decide (ρ26 < 0) then (
  R (.returned (.bool false)) ω27)
  else (
  call1 .bool PP F.laws_eqIntS #[Sl.v ρ12, Sl.v ρ6] ω27 fun (ρ28 : Bool) ω29 =>
  bif !ρ28 then (
  R (.returned (.bool false)) ω29)
  else (
  call1 (.int .i64) PP F.laws_markIntS #[Sl.v ρ12, vI 1] ω29 fun (ρ30 : Int) ω31 =>
  call1 (.int .i64) PP F.laws_heldIntS #[Sl.v ρ12, vI 1] ω31 fun (ρ32 : Int) ω33 =>
  bif decide (ρ32 < 0) then (
  R (.returned (.bool false)) ω33)
  else (
  bif ρ32 != ρ30 then (
  R (.returned (.bool false)) ω33)
  else (
  call1 .sl PP F.laws_toIntSS #[Sl.v aList_0] ω33 fun (ρ34 : Sl) ω35 =>
  call1 .sl PP F.laws_toIntS #[Sl.v aP_1] ω35 fun (ρ36 : Sl) ω37 =>
  call1 .sl PP F.impl_ChildLabels #[Sl.v ρ34, Sl.v ρ36] ω37 fun (ρ38 : Sl) ω39 =>
  call1 .bool PP F.laws_eqIntS #[Sl.v ρ38, Sl.v ρ6] ω39 fun (ρ40 : Bool) ω41 =>
  bif !ρ40 then (
  R (.returned (.bool false)) ω41)
  else (
  call1 (.int .i64) PP F.laws_heldIntS #[Sl.v ρ12, vI 1] ω41 fun (ρ42 : Int) ω43 =>
  bif decide (ρ42 < 0) then (
  R (.returned (.bool false)) ω43)
  else (
  bif ρ42 != ρ30 then (
  R (.returned (.bool false)) ω43)
  else (
  R (.returned (.bool true)) ω43))))))))))))) := E_eq std aList_0 aP_1 w R
theorem drawsOk : drawsOk PP cfg okD (codeOf Try.f5) = true := by kernel_rfl
theorem calls (aList_0 : Sl) (aP_1 : Sl) {w : World} {R : Ending → World → Prop} (h : E std aList_0 aP_1 w R) : Calls PP F.laws_FnExactChildLabels #[Sl.v aList_0, Sl.v aP_1] w R :=
  calls_of noCount mixed drawOk Try.func5 rfl (c := cfg) (args := [Sl.v aList_0, Sl.v aP_1]) rfl (Nat.le_of_ble_eq_true (by kernel_rfl)) drawsOk h
end laws_FnExactChildLabels

namespace laws_FnExactLabelsAt
@[reducible] def cfg : Cfg := ⟨74, [], [], [], [4], [], [30, 27, 11, 13, 20, 26, 37, 16, 52, 109, 83, 111, 72, 70, 36], [49, 46, 97, 75, 33, 104]⟩
def E (pr : Prims) (aList_0 : Sl) (aN_1 : Int) (w : World) (R : Ending → World → Prop) : Prop :=
  wpC pr PP cfg (DD pr) (codeOf Try.f6) (retQ Try.f6.results.toList R) (argE 0 [Sl.v aList_0, vI aN_1]) w
theorem E_eq (pr : Prims) (aList_0 : Sl) (aN_1 : Int) (w : World) (R : Ending → World → Prop) : E pr aList_0 aN_1 w R = (
  pr.call1 (.int .i64) PP F.laws_szIntSS #[Sl.v aList_0, vI 1048576] w fun (ρ0 : Int) ω1 =>
  bif decide (ρ0 < 0) then (
  R (.returned (.bool true)) ω1)
  else (
  pr.call1 .sl PP F.laws_toIntSS #[Sl.v aList_0] ω1 fun (ρ2 : Sl) ω3 =>
  pr.call1 .sl PP F.spec_LabelsAt #[Sl.v ρ2, vI aN_1] ω3 fun (ρ4 : Sl) ω5 =>
  pr.call1 .sl PP F.laws_toIntSS #[Sl.v aList_0] ω5 fun (ρ6 : Sl) ω7 =>
  pr.call1 .sl PP F.impl_LabelsAt #[Sl.v ρ6, vI aN_1] ω7 fun (ρ8 : Sl) ω9 =>
  pr.call1 .bool PP F.laws_eqIntS #[Sl.v ρ8, Sl.v ρ4] ω9 fun (ρ10 : Bool) ω11 =>
  bif !ρ10 then (
  R (.returned (.bool false)) ω11)
  else (
  pr.call1 .sl PP F.laws_toIntSS #[Sl.v aList_0] ω11 fun (ρ12 : Sl) ω13 =>
  pr.call1 .bool PP F.laws_eqIntSS #[Sl.v ρ6, Sl.v ρ12] ω13 fun (ρ14 : Bool) ω15 =>
  bif !ρ14 then (
  R (.returned (.bool false)) ω15)
  else (
  pr.call1 (.int .i64) PP F.laws_markIntSS #[Sl.v ρ6, vI 1] ω15 fun (ρ16 : Int) ω17 =>
  bif decide (ρ16 < 0) then (
  R (.returned (.bool false)) ω17)
  else (
  pr.call1 .bool PP F.laws_eqIntS #[Sl.v ρ8, Sl.v ρ4] ω17 fun (ρ18 : Bool) ω19 =>
  bif !ρ18 then (
  R (.returned (.bool false)) ω19)
  else (
  pr.call1 (.int .i64) PP F.laws_markIntS #[Sl.v ρ8, vI 1] ω19 fun (ρ20 : Int) ω21 =>
  pr.call1 (.int .i64) PP F.laws_heldIntS #[Sl.v ρ8, vI 1] ω21 fun (ρ22 : Int) ω23 =>
  bif decide (ρ22 < 0) then (
  R (.returned (.bool false)) ω23)
  else (
  bif ρ22 != ρ20 then (
  R (.returned (.bool false)) ω23)
  else (
  pr.call1 .sl PP F.laws_toIntSS #[Sl.v aList_0] ω23 fun (ρ24 : Sl) ω25 =>
  pr.call1 .sl PP F.impl_LabelsAt #[Sl.v ρ24, vI aN_1] ω25 fun (ρ26 : Sl) ω27 =>
  pr.call1 .bool PP F.laws_eqIntS #[Sl.v ρ26, Sl.v ρ4] ω27 fun (ρ28 : Bool) ω29 =>
  bif !ρ28 then (
  R (.returned (.bool false)) ω29)
  else (
  pr.call1 (.int .i64) PP F.laws_heldIntS #[Sl.v ρ8, vI 1] ω29 fun (ρ30 : Int) ω31 =>
  bif decide (ρ30 < 0) then (
  R (.returned (.bool false)) ω31)
  else (
  bif ρ30 != ρ20 then (
  R (.returned (.bool false)) ω31)
  else (
  R (.returned (.bool true)) ω31))))))))))) := by kernel_rfl
theorem E_s (aList_0 : Sl) (aN_1 : Int) (w : World) (R : Ending → World → Prop) : E std aList_0 aN_1 w R = (
  call1 (.int .i64) PP F.laws_szIntSS #[Sl.v aList_0, vI 1048576] w fun (ρ0 : Int) ω1 =>
  bif decide (ρ0 < 0) then (
  R (.returned (.bool true)) ω1)
  else (
  call1 .sl PP F.laws_toIntSS #[Sl.v aList_0] ω1 fun (ρ2 : Sl) ω3 =>
  call1 .sl PP F.spec_LabelsAt #[Sl.v ρ2, vI aN_1] ω3 fun (ρ4 : Sl) ω5 =>
  call1 .sl PP F.laws_toIntSS #[Sl.v aList_0] ω5 fun (ρ6 : Sl) ω7 =>
  call1 .sl PP F.impl_LabelsAt #[Sl.v ρ6, vI aN_1] ω7 fun (ρ8 : Sl) ω9 =>
  call1 .bool PP F.laws_eqIntS #[Sl.v ρ8, Sl.v ρ4] ω9 fun (ρ10 : Bool) ω11 =>
  bif !ρ10 then (
  R (.returned (.bool false)) ω11)
  else (
  call1 .sl PP F.laws_toIntSS #[Sl.v aList_0] ω11 fun (ρ12 : Sl) ω13 =>
  call1 .bool PP F.laws_eqIntSS #[Sl.v ρ6, Sl.v ρ12] ω13 fun (ρ14 : Bool) ω15 =>
  bif !ρ14 then (
  R (.returned (.bool false)) ω15)
  else (
  call1 (.int .i64) PP F.laws_markIntSS #[Sl.v ρ6, vI 1] ω15 fun (ρ16 : Int) ω17 =>
  bif decide (ρ16 < 0) then (
  R (.returned (.bool false)) ω17)
  else (
  call1 .bool PP F.laws_eqIntS #[Sl.v ρ8, Sl.v ρ4] ω17 fun (ρ18 : Bool) ω19 =>
  bif !ρ18 then (
  R (.returned (.bool false)) ω19)
  else (
  call1 (.int .i64) PP F.laws_markIntS #[Sl.v ρ8, vI 1] ω19 fun (ρ20 : Int) ω21 =>
  call1 (.int .i64) PP F.laws_heldIntS #[Sl.v ρ8, vI 1] ω21 fun (ρ22 : Int) ω23 =>
  bif decide (ρ22 < 0) then (
  R (.returned (.bool false)) ω23)
  else (
  bif ρ22 != ρ20 then (
  R (.returned (.bool false)) ω23)
  else (
  call1 .sl PP F.laws_toIntSS #[Sl.v aList_0] ω23 fun (ρ24 : Sl) ω25 =>
  call1 .sl PP F.impl_LabelsAt #[Sl.v ρ24, vI aN_1] ω25 fun (ρ26 : Sl) ω27 =>
  call1 .bool PP F.laws_eqIntS #[Sl.v ρ26, Sl.v ρ4] ω27 fun (ρ28 : Bool) ω29 =>
  bif !ρ28 then (
  R (.returned (.bool false)) ω29)
  else (
  call1 (.int .i64) PP F.laws_heldIntS #[Sl.v ρ8, vI 1] ω29 fun (ρ30 : Int) ω31 =>
  bif decide (ρ30 < 0) then (
  R (.returned (.bool false)) ω31)
  else (
  bif ρ30 != ρ20 then (
  R (.returned (.bool false)) ω31)
  else (
  R (.returned (.bool true)) ω31))))))))))) := E_eq std aList_0 aN_1 w R
theorem drawsOk : drawsOk PP cfg okD (codeOf Try.f6) = true := by kernel_rfl
theorem calls (aList_0 : Sl) (aN_1 : Int) {w : World} {R : Ending → World → Prop} (h : E std aList_0 aN_1 w R) : Calls PP F.laws_FnExactLabelsAt #[Sl.v aList_0, vI aN_1] w R :=
  calls_of noCount mixed drawOk Try.func6 rfl (c := cfg) (args := [Sl.v aList_0, vI aN_1]) rfl (Nat.le_of_ble_eq_true (by kernel_rfl)) drawsOk h
end laws_FnExactLabelsAt

end Go.Proofs.Ytjojajnkofgfpaa
