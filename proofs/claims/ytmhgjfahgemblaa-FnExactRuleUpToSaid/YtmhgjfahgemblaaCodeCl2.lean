/- What each function does, step by step, written by a program (Gen.lean); each equation is checked by the kernel. -/
import Derived.Test.YtmhgjfahgemblaaHead
namespace Go.Proofs.Ytmhgjfahgemblaa
open Go
set_option linter.unusedVariables false
set_option maxRecDepth 100000
namespace impl_class
@[reducible] def cfg : Cfg := ⟨25, [(3, [0, 5, 10, 11, 12])], [(1, [0, 5, 10, 11, 12]), (0, [5])], [], [4], [], [62, 10, 22, 58, 24, 44, 18, 70, 43, 85, 25, 71, 59, 37, 63], [82, 113, 102, 38, 103, 26, 60]⟩
def q2 (pr : Prims) (R : Ending → World → Prop) : Exit → Env → World → Prop := fun ex e w => normQ ex (fun e w => contE pr cfg (sub (codeOf Try.f51) [1, 1, 1]) (fun e w => wpC pr PP cfg (DD pr) (sub (codeOf Try.f51) [1, 1, 1]) (retQ Try.f51.results.toList R) e w) e w) (retQ Try.f51.results.toList R) e w
def q5 (pr : Prims) (R : Ending → World → Prop) : Exit → Env → World → Prop := fun ex e w => blockQ ex 0 (q2 pr R) e w
def emb3 (list_0 : Sl) (out_5 : Sl) (t10 : Sl) (t11 : Int) (t12 : Int) : Env := [(0, Sl.v list_0), (5, Sl.v out_5), (10, Sl.v t10), (11, vI t11), (12, vI t12)]
def x0 (out_5 : Sl) : Env := [(5, Sl.v out_5)]
def S3 (pr : Prims) (Q : Exit → Env → World → Prop) : (Env → World → Prop) → Env → World → Prop := fun k e w => wpC pr PP cfg (DD pr) (sub (codeOf Try.f51) [1, 1, 0, 1, 0, 0]) (fun ex e w => normQ ex (fun e' w' => k (Env.restr e' (lookN cfg.loops (keyOf (sub (codeOf Try.f51) [1, 1, 0, 1, 0, 0])))) w') Q e w) e w
def B3 (pr : Prims) (list_0 : Sl) (out_5 : Sl) (t10 : Sl) (t11 : Int) (t12 : Int) (w : World) (k : Env → World → Prop) (Q : Exit → Env → World → Prop) : Prop :=
  S3 pr Q k (emb3 list_0 out_5 t10 t11 t12) w
def L3 (pr : Prims) (list_0 : Sl) (out_5 : Sl) (t10 : Sl) (t11 : Int) (t12 : Int) (w : World) (Q : Exit → Env → World → Prop) : Prop :=
  pr.loop (S3 pr Q) (emb3 list_0 out_5 t10 t11 t12) w
def E (pr : Prims) (list_0 : Sl) (n_1 : Int) (w : World) (R : Ending → World → Prop) : Prop :=
  wpC pr PP cfg (DD pr) (codeOf Try.f51) (retQ Try.f51.results.toList R) (argE 0 [Sl.v list_0, vI n_1]) w
theorem B3_eq (pr : Prims) (list_0 : Sl) (out_5 : Sl) (t10 : Sl) (t11 : Int) (t12 : Int) (w : World) (k : Env → World → Prop) (Q : Exit → Env → World → Prop) : B3 pr list_0 out_5 t10 t11 t12 w k Q = (
  bif decide (t12 < t11) then (
  pr.idxK 1 t10 t12 fun (a6 : Addr) =>
  pr.load1 .sl a6 w fun (ξ7 : Sl) =>
  pr.call1 .bool PP F.impl_avoids #[Sl.v list_0, Sl.v ξ7] w fun (ρ8 : Bool) ω9 =>
  bif ρ8 then (
  pr.sem1 .sl PP (Instr.buildSlice T_SSint 1 #[(0, Sl.v ξ7)]) ω9 fun (ρ10 : Sl) ω11 =>
  pr.sem1 .sl PP (Builtin.append_ #[T_SSint, T_SSint] T_SSint #[Sl.v out_5, Sl.v ρ10]) ω11 fun (ρ12 : Sl) ω13 =>
  k (emb3 list_0 ρ12 t10 t11 (w64 (t12 + 1))) ω13)
  else (
  k (emb3 list_0 out_5 t10 t11 (w64 (t12 + 1))) ω9))
  else (
  Q (.exit 0) (x0 out_5) w)) := by kernel_rfl
theorem B3_s (list_0 : Sl) (out_5 : Sl) (t10 : Sl) (t11 : Int) (t12 : Int) (w : World) (k : Env → World → Prop) (Q : Exit → Env → World → Prop) : B3 std list_0 out_5 t10 t11 t12 w k Q = (
  bif decide (t12 < t11) then (
  idxK 1 t10 t12 fun (a6 : Addr) =>
  load1 .sl a6 w fun (ξ7 : Sl) =>
  call1 .bool PP F.impl_avoids #[Sl.v list_0, Sl.v ξ7] w fun (ρ8 : Bool) ω9 =>
  bif ρ8 then (
  sem1 .sl PP (Instr.buildSlice T_SSint 1 #[(0, Sl.v ξ7)]) ω9 fun (ρ10 : Sl) ω11 =>
  sem1 .sl PP (Builtin.append_ #[T_SSint, T_SSint] T_SSint #[Sl.v out_5, Sl.v ρ10]) ω11 fun (ρ12 : Sl) ω13 =>
  k (emb3 list_0 ρ12 t10 t11 (w64 (t12 + 1))) ω13)
  else (
  k (emb3 list_0 out_5 t10 t11 (w64 (t12 + 1))) ω9))
  else (
  Q (.exit 0) (x0 out_5) w)) := B3_eq std list_0 out_5 t10 t11 t12 w k Q
theorem L3_rule (list_0 : Sl) (out_5 : Sl) (t10 : Sl) (t11 : Int) (t12 : Int) (w : World) (Q : Exit → Env → World → Prop) (I : Sl → Int → World → Prop) (μ : Sl → Int → World → Nat) (h0 : I out_5 t12 w)
    (h : ∀ (out_5 : Sl) (t12 : Int) (w' : World), I out_5 t12 w' → B3 std list_0 out_5 t10 t11 t12 w' (fun e2 w2 => ∃ out_5_n t12_n, e2 = emb3 list_0 out_5_n t10 t11 t12_n ∧ I out_5_n t12_n w2 ∧ μ out_5_n t12_n w2 < μ out_5 t12 w') Q) :
    L3 std list_0 out_5 t10 t11 t12 w Q := by
  unfold L3
  refine LoopE.intro (σ := Sl × Int) (step := S3 std Q) (fun s => emb3 list_0 s.1 t10 t11 s.2) (fun s w => I s.1 s.2 w) (fun s w => μ s.1 s.2 w) (out_5, t12) rfl h0 ?_
  intro s w' hI
  have h1 := h s.1 s.2 w' hI
  unfold B3 at h1
  simp only [Prod.exists]
  exact h1
theorem A3_0_eq (pr : Prims) (out_5 : Sl) (w : World) (R : Ending → World → Prop) : (q5 pr R) (.exit 0) (x0 out_5) w = (
  R (.returned (Sl.v out_5)) w) := by kernel_rfl
theorem A3_0_s (out_5 : Sl) (w : World) (R : Ending → World → Prop) : (q5 std R) (.exit 0) (x0 out_5) w = (
  R (.returned (Sl.v out_5)) w) := A3_0_eq std out_5 w R
theorem E_eq (pr : Prims) (list_0 : Sl) (n_1 : Int) (w : World) (R : Ending → World → Prop) : E pr list_0 n_1 w R = (
  pr.sem1 .sl PP (Instr.buildSlice T_SSint 0 #[]) w fun (ρ0 : Sl) ω1 =>
  pr.call1 .sl PP F.impl_perms #[vI n_1] ω1 fun (ρ3 : Sl) ω4 =>
  L3 pr list_0 ρ0 ρ3 (ρ3.n : Int) 0 ω4 (q5 pr R)) := by kernel_rfl
theorem E_s (list_0 : Sl) (n_1 : Int) (w : World) (R : Ending → World → Prop) : E std list_0 n_1 w R = (
  sem1 .sl PP (Instr.buildSlice T_SSint 0 #[]) w fun (ρ0 : Sl) ω1 =>
  call1 .sl PP F.impl_perms #[vI n_1] ω1 fun (ρ3 : Sl) ω4 =>
  L3 std list_0 ρ0 ρ3 (ρ3.n : Int) 0 ω4 (q5 std R)) := E_eq std list_0 n_1 w R
theorem drawsOk : drawsOk PP cfg okD (codeOf Try.f51) = true := by kernel_rfl
theorem calls (list_0 : Sl) (n_1 : Int) {w : World} {R : Ending → World → Prop} (h : E std list_0 n_1 w R) : Calls PP F.impl_class #[Sl.v list_0, vI n_1] w R :=
  calls_of noCount mixed drawOk Try.func51 rfl (c := cfg) (args := [Sl.v list_0, vI n_1]) rfl (Nat.le_of_ble_eq_true (by kernel_rfl)) drawsOk h
end impl_class

namespace spec_ClassOf
@[reducible] def cfg : Cfg := ⟨40, [(6, [0, 5, 6, 7])], [(1, [0, 5, 6, 7]), (0, [5])], [], [4], [], [62, 10, 22, 58, 24, 44, 18, 70, 43, 85, 25, 71, 59, 37, 63], [82, 113, 102, 38, 103, 26, 60]⟩
def q7 (pr : Prims) (R : Ending → World → Prop) : Exit → Env → World → Prop := fun ex e w => normQ ex (fun e w => contE pr cfg (sub (codeOf Try.f46) [1, 1, 1, 1, 1]) (fun e w => wpC pr PP cfg (DD pr) (sub (codeOf Try.f46) [1, 1, 1, 1, 1]) (retQ Try.f46.results.toList R) e w) e w) (retQ Try.f46.results.toList R) e w
def q8 (pr : Prims) (R : Ending → World → Prop) : Exit → Env → World → Prop := fun ex e w => blockQ ex 0 (q7 pr R) e w
def emb6 (list_0 : Sl) (out_5 : Sl) (all_6 : Sl) (k_7 : Int) : Env := [(0, Sl.v list_0), (5, Sl.v out_5), (6, Sl.v all_6), (7, vI k_7)]
def x0 (out_5 : Sl) : Env := [(5, Sl.v out_5)]
def S6 (pr : Prims) (Q : Exit → Env → World → Prop) : (Env → World → Prop) → Env → World → Prop := fun k e w => wpC pr PP cfg (DD pr) (sub (codeOf Try.f46) [1, 1, 1, 1, 0, 1, 0, 0]) (fun ex e w => normQ ex (fun e' w' => k (Env.restr e' (lookN cfg.loops (keyOf (sub (codeOf Try.f46) [1, 1, 1, 1, 0, 1, 0, 0])))) w') Q e w) e w
def B6 (pr : Prims) (list_0 : Sl) (out_5 : Sl) (all_6 : Sl) (k_7 : Int) (w : World) (k : Env → World → Prop) (Q : Exit → Env → World → Prop) : Prop :=
  S6 pr Q k (emb6 list_0 out_5 all_6 k_7) w
def L6 (pr : Prims) (list_0 : Sl) (out_5 : Sl) (all_6 : Sl) (k_7 : Int) (w : World) (Q : Exit → Env → World → Prop) : Prop :=
  pr.loop (S6 pr Q) (emb6 list_0 out_5 all_6 k_7) w
def E (pr : Prims) (list_0 : Sl) (n_1 : Int) (w : World) (R : Ending → World → Prop) : Prop :=
  wpC pr PP cfg (DD pr) (codeOf Try.f46) (retQ Try.f46.results.toList R) (argE 0 [Sl.v list_0, vI n_1]) w
theorem B6_eq (pr : Prims) (list_0 : Sl) (out_5 : Sl) (all_6 : Sl) (k_7 : Int) (w : World) (k : Env → World → Prop) (Q : Exit → Env → World → Prop) : B6 pr list_0 out_5 all_6 k_7 w k Q = (
  bif decide (k_7 < (all_6.n : Int)) then (
  pr.idxK 1 all_6 k_7 fun (a9 : Addr) =>
  pr.load1 .sl a9 w fun (ξ10 : Sl) =>
  pr.call1 .bool PP F.spec_l12Avoids #[Sl.v list_0, Sl.v ξ10] w fun (ρ11 : Bool) ω12 =>
  bif ρ11 then (
  pr.idxK 1 all_6 k_7 fun (a13 : Addr) =>
  pr.load1 .sl a13 ω12 fun (ξ14 : Sl) =>
  pr.sem1 .sl PP (Instr.buildSlice T_SSint 1 #[(0, Sl.v ξ14)]) ω12 fun (ρ15 : Sl) ω16 =>
  pr.sem1 .sl PP (Builtin.append_ #[T_SSint, T_SSint] T_SSint #[Sl.v out_5, Sl.v ρ15]) ω16 fun (ρ17 : Sl) ω18 =>
  k (emb6 list_0 ρ17 all_6 (w64 (k_7 + 1))) ω18)
  else (
  k (emb6 list_0 out_5 all_6 (w64 (k_7 + 1))) ω12))
  else (
  Q (.exit 0) (x0 out_5) w)) := by kernel_rfl
theorem B6_s (list_0 : Sl) (out_5 : Sl) (all_6 : Sl) (k_7 : Int) (w : World) (k : Env → World → Prop) (Q : Exit → Env → World → Prop) : B6 std list_0 out_5 all_6 k_7 w k Q = (
  bif decide (k_7 < (all_6.n : Int)) then (
  idxK 1 all_6 k_7 fun (a9 : Addr) =>
  load1 .sl a9 w fun (ξ10 : Sl) =>
  call1 .bool PP F.spec_l12Avoids #[Sl.v list_0, Sl.v ξ10] w fun (ρ11 : Bool) ω12 =>
  bif ρ11 then (
  idxK 1 all_6 k_7 fun (a13 : Addr) =>
  load1 .sl a13 ω12 fun (ξ14 : Sl) =>
  sem1 .sl PP (Instr.buildSlice T_SSint 1 #[(0, Sl.v ξ14)]) ω12 fun (ρ15 : Sl) ω16 =>
  sem1 .sl PP (Builtin.append_ #[T_SSint, T_SSint] T_SSint #[Sl.v out_5, Sl.v ρ15]) ω16 fun (ρ17 : Sl) ω18 =>
  k (emb6 list_0 ρ17 all_6 (w64 (k_7 + 1))) ω18)
  else (
  k (emb6 list_0 out_5 all_6 (w64 (k_7 + 1))) ω12))
  else (
  Q (.exit 0) (x0 out_5) w)) := B6_eq std list_0 out_5 all_6 k_7 w k Q
theorem L6_rule (list_0 : Sl) (out_5 : Sl) (all_6 : Sl) (k_7 : Int) (w : World) (Q : Exit → Env → World → Prop) (I : Sl → Int → World → Prop) (μ : Sl → Int → World → Nat) (h0 : I out_5 k_7 w)
    (h : ∀ (out_5 : Sl) (k_7 : Int) (w' : World), I out_5 k_7 w' → B6 std list_0 out_5 all_6 k_7 w' (fun e2 w2 => ∃ out_5_n k_7_n, e2 = emb6 list_0 out_5_n all_6 k_7_n ∧ I out_5_n k_7_n w2 ∧ μ out_5_n k_7_n w2 < μ out_5 k_7 w') Q) :
    L6 std list_0 out_5 all_6 k_7 w Q := by
  unfold L6
  refine LoopE.intro (σ := Sl × Int) (step := S6 std Q) (fun s => emb6 list_0 s.1 all_6 s.2) (fun s w => I s.1 s.2 w) (fun s w => μ s.1 s.2 w) (out_5, k_7) rfl h0 ?_
  intro s w' hI
  have h1 := h s.1 s.2 w' hI
  unfold B6 at h1
  simp only [Prod.exists]
  exact h1
theorem A6_0_eq (pr : Prims) (out_5 : Sl) (w : World) (R : Ending → World → Prop) : (q8 pr R) (.exit 0) (x0 out_5) w = (
  R (.returned (Sl.v out_5)) w) := by kernel_rfl
theorem A6_0_s (out_5 : Sl) (w : World) (R : Ending → World → Prop) : (q8 std R) (.exit 0) (x0 out_5) w = (
  R (.returned (Sl.v out_5)) w) := A6_0_eq std out_5 w R
theorem E_eq (pr : Prims) (list_0 : Sl) (n_1 : Int) (w : World) (R : Ending → World → Prop) : E pr list_0 n_1 w R = (
  pr.sem1 .sl PP (Instr.buildSlice T_SSint 0 #[]) w fun (ρ0 : Sl) ω1 =>
  pr.call1 .bool PP F.spec_IsBasis #[Sl.v list_0] ω1 fun (ρ2 : Bool) ω3 =>
  bif !ρ2 then (
  R (.returned (Sl.v ρ0)) ω3)
  else (
  pr.pcall1 .bool PP F.spec_l1In #[vI n_1, vI 0, vI 6] fun (ρ4 : Bool) =>
  bif !ρ4 then (
  R (.returned (Sl.v ρ0)) ω3)
  else (
  pr.call1 .sl PP F.spec_PermsOf #[vI n_1] ω3 fun (ρ5 : Sl) ω6 =>
  L6 pr list_0 ρ0 ρ5 0 ω6 (q8 pr R)))) := by kernel_rfl
theorem E_s (list_0 : Sl) (n_1 : Int) (w : World) (R : Ending → World → Prop) : E std list_0 n_1 w R = (
  sem1 .sl PP (Instr.buildSlice T_SSint 0 #[]) w fun (ρ0 : Sl) ω1 =>
  call1 .bool PP F.spec_IsBasis #[Sl.v list_0] ω1 fun (ρ2 : Bool) ω3 =>
  bif !ρ2 then (
  R (.returned (Sl.v ρ0)) ω3)
  else (
  pcall1 .bool PP F.spec_l1In #[vI n_1, vI 0, vI 6] fun (ρ4 : Bool) =>
  bif !ρ4 then (
  R (.returned (Sl.v ρ0)) ω3)
  else (
  call1 .sl PP F.spec_PermsOf #[vI n_1] ω3 fun (ρ5 : Sl) ω6 =>
  L6 std list_0 ρ0 ρ5 0 ω6 (q8 std R)))) := E_eq std list_0 n_1 w R
theorem drawsOk : drawsOk PP cfg okD (codeOf Try.f46) = true := by kernel_rfl
theorem calls (list_0 : Sl) (n_1 : Int) {w : World} {R : Ending → World → Prop} (h : E std list_0 n_1 w R) : Calls PP F.spec_ClassOf #[Sl.v list_0, vI n_1] w R :=
  calls_of noCount mixed drawOk Try.func46 rfl (c := cfg) (args := [Sl.v list_0, vI n_1]) rfl (Nat.le_of_ble_eq_true (by kernel_rfl)) drawsOk h
end spec_ClassOf

end Go.Proofs.Ytmhgjfahgemblaa
