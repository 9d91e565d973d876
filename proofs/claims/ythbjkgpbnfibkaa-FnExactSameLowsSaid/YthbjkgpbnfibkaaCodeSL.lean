/- What each function does, step by step, written by a program (Gen.lean); each equation is checked by the kernel. -/
import Derived.Test.YthbjkgpbnfibkaaHead
namespace Go.Proofs.Ythbjkgpbnfibkaa
open Go
set_option linter.unusedVariables false
set_option maxRecDepth 100000
namespace spec_SameLows
@[reducible] def cfg : Cfg := ⟨36, [], [], [], [4], [], [93, 51, 18, 26, 23, 44, 60, 19, 57, 123, 109, 126, 53, 100], [61, 85, 110, 74, 127, 120]⟩
def E (pr : Prims) (p_0 : Sl) (q_1 : Sl) (w : World) (R : Ending → World → Prop) : Prop :=
  wpC pr PP cfg (DD pr) (codeOf Try.f15) (retQ Try.f15.results.toList R) (argE 0 [Sl.v p_0, Sl.v q_1]) w
theorem E_eq (pr : Prims) (p_0 : Sl) (q_1 : Sl) (w : World) (R : Ending → World → Prop) : E pr p_0 q_1 w R = (
  pr.call1 .bool PP F.spec_IsPerm #[Sl.v p_0] w fun (ρ0 : Bool) ω1 =>
  bif !ρ0 then (
  R (.returned (.bool false)) ω1)
  else (
  pr.call1 .bool PP F.spec_IsPerm #[Sl.v q_1] ω1 fun (ρ2 : Bool) ω3 =>
  bif !ρ2 then (
  R (.returned (.bool false)) ω3)
  else (
  bif (p_0.n : Int) != (q_1.n : Int) then (
  R (.returned (.bool false)) ω3)
  else (
  pr.call1 .sl PP F.spec_LowsOf #[Sl.v p_0] ω3 fun (ρ4 : Sl) ω5 =>
  pr.call1 .sl PP F.spec_LowsOf #[Sl.v q_1] ω5 fun (ρ6 : Sl) ω7 =>
  pr.call1 .bool PP F.spec_l2Same #[Sl.v ρ4, Sl.v ρ6] ω7 fun (ρ8 : Bool) ω9 =>
  bif ρ8 then (
  pr.call1 .sl PP F.spec_l7At #[Sl.v p_0, Sl.v ρ4] ω9 fun (ρ10 : Sl) ω11 =>
  pr.call1 .sl PP F.spec_l7At #[Sl.v q_1, Sl.v ρ4] ω11 fun (ρ12 : Sl) ω13 =>
  pr.call1 .bool PP F.spec_l2Same #[Sl.v ρ10, Sl.v ρ12] ω13 fun (ρ14 : Bool) ω15 =>
  R (.returned (.bool ρ14)) ω15)
  else (
  R (.returned (.bool false)) ω9))))) := by kernel_rfl
theorem E_s (p_0 : Sl) (q_1 : Sl) (w : World) (R : Ending → World → Prop) : E std p_0 q_1 w R = (
  call1 .bool PP F.spec_IsPerm #[Sl.v p_0] w fun (ρ0 : Bool) ω1 =>
  bif !ρ0 then (
  R (.returned (.bool false)) ω1)
  else (
  call1 .bool PP F.spec_IsPerm #[Sl.v q_1] ω1 fun (ρ2 : Bool) ω3 =>
  bif !ρ2 then (
  R (.returned (.bool false)) ω3)
  else (
  bif (p_0.n : Int) != (q_1.n : Int) then (
  R (.returned (.bool false)) ω3)
  else (
  call1 .sl PP F.spec_LowsOf #[Sl.v p_0] ω3 fun (ρ4 : Sl) ω5 =>
  call1 .sl PP F.spec_LowsOf #[Sl.v q_1] ω5 fun (ρ6 : Sl) ω7 =>
  call1 .bool PP F.spec_l2Same #[Sl.v ρ4, Sl.v ρ6] ω7 fun (ρ8 : Bool) ω9 =>
  bif ρ8 then (
  call1 .sl PP F.spec_l7At #[Sl.v p_0, Sl.v ρ4] ω9 fun (ρ10 : Sl) ω11 =>
  call1 .sl PP F.spec_l7At #[Sl.v q_1, Sl.v ρ4] ω11 fun (ρ12 : Sl) ω13 =>
  call1 .bool PP F.spec_l2Same #[Sl.v ρ10, Sl.v ρ12] ω13 fun (ρ14 : Bool) ω15 =>
  R (.returned (.bool ρ14)) ω15)
  else (
  R (.returned (.bool false)) ω9))))) := E_eq std p_0 q_1 w R
theorem drawsOk : drawsOk PP cfg okD (codeOf Try.f15) = true := by kernel_rfl
theorem calls (p_0 : Sl) (q_1 : Sl) {w : World} {R : Ending → World → Prop} (h : E std p_0 q_1 w R) : Calls PP F.spec_SameLows #[Sl.v p_0, Sl.v q_1] w R :=
  calls_of noCount mixed drawOk Try.func15 rfl (c := cfg) (args := [Sl.v p_0, Sl.v q_1]) rfl (Nat.le_of_ble_eq_true (by kernel_rfl)) drawsOk h
end spec_SameLows

namespace impl_SameLows
@[reducible] def cfg : Cfg := ⟨33, [], [], [], [4], [], [93, 51, 18, 26, 23, 44, 60, 19, 57, 123, 109, 126, 53, 100], [61, 85, 110, 74, 127, 120]⟩
def E (pr : Prims) (p_0 : Sl) (q_1 : Sl) (w : World) (R : Ending → World → Prop) : Prop :=
  wpC pr PP cfg (DD pr) (codeOf Try.f17) (retQ Try.f17.results.toList R) (argE 0 [Sl.v p_0, Sl.v q_1]) w
theorem E_eq (pr : Prims) (p_0 : Sl) (q_1 : Sl) (w : World) (R : Ending → World → Prop) : E pr p_0 q_1 w R = (
  pr.newK T_Sint #[Sl.v p_0] w fun (a0 : Addr) ω1 =>
  pr.newK T_Sint #[Sl.v q_1] ω1 fun (a2 : Addr) ω3 =>
  pr.load1 .sl a0 ω3 fun (ξ4 : Sl) =>
  pr.call1 .bool PP F.impl_IsPerm #[Sl.v ξ4] ω3 fun (ρ5 : Bool) ω6 =>
  bif !ρ5 then (
  R (.returned (.bool false)) ω6)
  else (
  pr.load1 .sl a2 ω6 fun (ξ7 : Sl) =>
  pr.call1 .bool PP F.impl_IsPerm #[Sl.v ξ7] ω6 fun (ρ8 : Bool) ω9 =>
  bif !ρ8 then (
  R (.returned (.bool false)) ω9)
  else (
  pr.load1 .sl a0 ω9 fun (ξ10 : Sl) =>
  pr.load1 .sl a2 ω9 fun (ξ11 : Sl) =>
  bif (ξ10.n : Int) != (ξ11.n : Int) then (
  R (.returned (.bool false)) ω9)
  else (
  pr.load1 .sl a0 ω9 fun (ξ12 : Sl) =>
  pr.call1 .sl PP F.impl_LowsOf #[Sl.v ξ12] ω9 fun (ρ13 : Sl) ω14 =>
  pr.load1 .sl a2 ω14 fun (ξ15 : Sl) =>
  pr.call1 .sl PP F.impl_LowsOf #[Sl.v ξ15] ω14 fun (ρ16 : Sl) ω17 =>
  pr.call1 .bool PP F.slices_Equal___int_int_ #[Sl.v ρ13, Sl.v ρ16] ω17 fun (ρ18 : Bool) ω19 =>
  bif ρ18 then (
  pr.call1 .bool PP F.slices_ContainsFunc___int_int_ #[Sl.v ρ13, (.func (.func F.impl_SameLowsL1) #[] #[.pointer (some a0), .pointer (some a2)])] ω19 fun (ρ20 : Bool) ω21 =>
  R (.returned (.bool (!ρ20))) ω21)
  else (
  R (.returned (.bool false)) ω19))))) := by kernel_rfl
theorem E_s (p_0 : Sl) (q_1 : Sl) (w : World) (R : Ending → World → Prop) : E std p_0 q_1 w R = (
  newK T_Sint #[Sl.v p_0] w fun (a0 : Addr) ω1 =>
  newK T_Sint #[Sl.v q_1] ω1 fun (a2 : Addr) ω3 =>
  load1 .sl a0 ω3 fun (ξ4 : Sl) =>
  call1 .bool PP F.impl_IsPerm #[Sl.v ξ4] ω3 fun (ρ5 : Bool) ω6 =>
  bif !ρ5 then (
  R (.returned (.bool false)) ω6)
  else (
  load1 .sl a2 ω6 fun (ξ7 : Sl) =>
  call1 .bool PP F.impl_IsPerm #[Sl.v ξ7] ω6 fun (ρ8 : Bool) ω9 =>
  bif !ρ8 then (
  R (.returned (.bool false)) ω9)
  else (
  load1 .sl a0 ω9 fun (ξ10 : Sl) =>
  load1 .sl a2 ω9 fun (ξ11 : Sl) =>
  bif (ξ10.n : Int) != (ξ11.n : Int) then (
  R (.returned (.bool false)) ω9)
  else (
  load1 .sl a0 ω9 fun (ξ12 : Sl) =>
  call1 .sl PP F.impl_LowsOf #[Sl.v ξ12] ω9 fun (ρ13 : Sl) ω14 =>
  load1 .sl a2 ω14 fun (ξ15 : Sl) =>
  call1 .sl PP F.impl_LowsOf #[Sl.v ξ15] ω14 fun (ρ16 : Sl) ω17 =>
  call1 .bool PP F.slices_Equal___int_int_ #[Sl.v ρ13, Sl.v ρ16] ω17 fun (ρ18 : Bool) ω19 =>
  bif ρ18 then (
  call1 .bool PP F.slices_ContainsFunc___int_int_ #[Sl.v ρ13, (.func (.func F.impl_SameLowsL1) #[] #[.pointer (some a0), .pointer (some a2)])] ω19 fun (ρ20 : Bool) ω21 =>
  R (.returned (.bool (!ρ20))) ω21)
  else (
  R (.returned (.bool false)) ω19))))) := E_eq std p_0 q_1 w R
theorem drawsOk : drawsOk PP cfg okD (codeOf Try.f17) = true := by kernel_rfl
theorem calls (p_0 : Sl) (q_1 : Sl) {w : World} {R : Ending → World → Prop} (h : E std p_0 q_1 w R) : Calls PP F.impl_SameLows #[Sl.v p_0, Sl.v q_1] w R :=
  calls_of noCount mixed drawOk Try.func17 rfl (c := cfg) (args := [Sl.v p_0, Sl.v q_1]) rfl (Nat.le_of_ble_eq_true (by kernel_rfl)) drawsOk h
end impl_SameLows

namespace impl_SameLowsL1
@[reducible] def cfg : Cfg := ⟨16, [], [], [], [4], [1], [93, 51, 18, 26, 23, 44, 60, 19, 57, 123, 109, 126, 53, 100], [61, 85, 110, 74, 127, 120]⟩
def E (pr : Prims) (i_0 : Int) (t1 : Addr) (t2 : Addr) (w : World) (R : Ending → World → Prop) : Prop :=
  wpC pr PP cfg (DD pr) (codeOf Try.f59) (retQ Try.f59.results.toList R) (argE 0 [vI i_0, .pointer (some t1), .pointer (some t2)]) w
theorem E_eq (pr : Prims) (i_0 : Int) (t1 : Addr) (t2 : Addr) (w : World) (R : Ending → World → Prop) : E pr i_0 t1 t2 w R = (
  pr.load1 .sl t1 w fun (ξ0 : Sl) =>
  pr.idxK 1 ξ0 (w64 (i_0 - 1)) fun (a1 : Addr) =>
  pr.load1 (.int .i64) a1 w fun (ξ2 : Int) =>
  pr.load1 .sl t2 w fun (ξ3 : Sl) =>
  pr.idxK 1 ξ3 (w64 (i_0 - 1)) fun (a4 : Addr) =>
  pr.load1 (.int .i64) a4 w fun (ξ5 : Int) =>
  pr.drewAll w fun ω6 =>
  R (.returned (.bool (ξ2 != ξ5))) ω6) := by kernel_rfl
theorem E_s (i_0 : Int) (t1 : Addr) (t2 : Addr) (w : World) (R : Ending → World → Prop) : E std i_0 t1 t2 w R = (
  load1 .sl t1 w fun (ξ0 : Sl) =>
  idxK 1 ξ0 (w64 (i_0 - 1)) fun (a1 : Addr) =>
  load1 (.int .i64) a1 w fun (ξ2 : Int) =>
  load1 .sl t2 w fun (ξ3 : Sl) =>
  idxK 1 ξ3 (w64 (i_0 - 1)) fun (a4 : Addr) =>
  load1 (.int .i64) a4 w fun (ξ5 : Int) =>
  drewAll w fun ω6 =>
  R (.returned (.bool (ξ2 != ξ5))) ω6) := E_eq std i_0 t1 t2 w R
theorem drawsOk : drawsOk PP cfg okD (codeOf Try.f59) = true := by kernel_rfl
theorem calls (i_0 : Int) (t1 : Addr) (t2 : Addr) {w : World} {R : Ending → World → Prop} (h : E std i_0 t1 t2 w R) : Calls PP F.impl_SameLowsL1 #[vI i_0, .pointer (some t1), .pointer (some t2)] w R :=
  calls_of noCount mixed drawOk Try.func59 rfl (c := cfg) (args := [vI i_0, .pointer (some t1), .pointer (some t2)]) rfl (Nat.le_of_ble_eq_true (by kernel_rfl)) drawsOk h
end impl_SameLowsL1

namespace spec_l7At
@[reducible] def cfg : Cfg := ⟨26, [(3, [0, 1, 5, 6])], [(1, [0, 1, 5, 6]), (0, [5])], [], [4], [], [93, 51, 18, 26, 23, 44, 60, 19, 57, 123, 109, 126, 53, 100], [61, 85, 110, 74, 127, 120]⟩
def q2 (pr : Prims) (R : Ending → World → Prop) : Exit → Env → World → Prop := fun ex e w => normQ ex (fun e w => contE pr cfg (sub (codeOf Try.f54) [1, 1, 1]) (fun e w => wpC pr PP cfg (DD pr) (sub (codeOf Try.f54) [1, 1, 1]) (retQ Try.f54.results.toList R) e w) e w) (retQ Try.f54.results.toList R) e w
def q3 (pr : Prims) (R : Ending → World → Prop) : Exit → Env → World → Prop := fun ex e w => blockQ ex 0 (q2 pr R) e w
def emb3 (p_0 : Sl) (places_1 : Sl) (out_5 : Sl) (k_6 : Int) : Env := [(0, Sl.v p_0), (1, Sl.v places_1), (5, Sl.v out_5), (6, vI k_6)]
def x0 (out_5 : Sl) : Env := [(5, Sl.v out_5)]
def S3 (pr : Prims) (Q : Exit → Env → World → Prop) : (Env → World → Prop) → Env → World → Prop := fun k e w => wpC pr PP cfg (DD pr) (sub (codeOf Try.f54) [1, 1, 0, 1, 0, 0]) (fun ex e w => normQ ex (fun e' w' => k (Env.restr e' (lookN cfg.loops (keyOf (sub (codeOf Try.f54) [1, 1, 0, 1, 0, 0])))) w') Q e w) e w
def B3 (pr : Prims) (p_0 : Sl) (places_1 : Sl) (out_5 : Sl) (k_6 : Int) (w : World) (k : Env → World → Prop) (Q : Exit → Env → World → Prop) : Prop :=
  S3 pr Q k (emb3 p_0 places_1 out_5 k_6) w
def L3 (pr : Prims) (p_0 : Sl) (places_1 : Sl) (out_5 : Sl) (k_6 : Int) (w : World) (Q : Exit → Env → World → Prop) : Prop :=
  pr.loop (S3 pr Q) (emb3 p_0 places_1 out_5 k_6) w
def E (pr : Prims) (p_0 : Sl) (places_1 : Sl) (w : World) (R : Ending → World → Prop) : Prop :=
  wpC pr PP cfg (DD pr) (codeOf Try.f54) (retQ Try.f54.results.toList R) (argE 0 [Sl.v p_0, Sl.v places_1]) w
theorem B3_eq (pr : Prims) (p_0 : Sl) (places_1 : Sl) (out_5 : Sl) (k_6 : Int) (w : World) (k : Env → World → Prop) (Q : Exit → Env → World → Prop) : B3 pr p_0 places_1 out_5 k_6 w k Q = (
  bif decide (k_6 < (places_1.n : Int)) then (
  pr.idxK 1 places_1 k_6 fun (a4 : Addr) =>
  pr.load1 (.int .i64) a4 w fun (ξ5 : Int) =>
  pr.idxK 1 p_0 (w64 (ξ5 - 1)) fun (a6 : Addr) =>
  pr.load1 (.int .i64) a6 w fun (ξ7 : Int) =>
  pr.sem1 .sl PP (Instr.buildSlice T_Sint 1 #[(0, vI ξ7)]) w fun (ρ8 : Sl) ω9 =>
  pr.sem1 .sl PP (Builtin.append_ #[T_Sint, T_Sint] T_Sint #[Sl.v out_5, Sl.v ρ8]) ω9 fun (ρ10 : Sl) ω11 =>
  k (emb3 p_0 places_1 ρ10 (w64 (k_6 + 1))) ω11)
  else (
  Q (.exit 0) (x0 out_5) w)) := by kernel_rfl
theorem B3_s (p_0 : Sl) (places_1 : Sl) (out_5 : Sl) (k_6 : Int) (w : World) (k : Env → World → Prop) (Q : Exit → Env → World → Prop) : B3 std p_0 places_1 out_5 k_6 w k Q = (
  bif decide (k_6 < (places_1.n : Int)) then (
  idxK 1 places_1 k_6 fun (a4 : Addr) =>
  load1 (.int .i64) a4 w fun (ξ5 : Int) =>
  idxK 1 p_0 (w64 (ξ5 - 1)) fun (a6 : Addr) =>
  load1 (.int .i64) a6 w fun (ξ7 : Int) =>
  sem1 .sl PP (Instr.buildSlice T_Sint 1 #[(0, vI ξ7)]) w fun (ρ8 : Sl) ω9 =>
  sem1 .sl PP (Builtin.append_ #[T_Sint, T_Sint] T_Sint #[Sl.v out_5, Sl.v ρ8]) ω9 fun (ρ10 : Sl) ω11 =>
  k (emb3 p_0 places_1 ρ10 (w64 (k_6 + 1))) ω11)
  else (
  Q (.exit 0) (x0 out_5) w)) := B3_eq std p_0 places_1 out_5 k_6 w k Q
theorem L3_rule (p_0 : Sl) (places_1 : Sl) (out_5 : Sl) (k_6 : Int) (w : World) (Q : Exit → Env → World → Prop) (I : Sl → Int → World → Prop) (μ : Sl → Int → World → Nat) (h0 : I out_5 k_6 w)
    (h : ∀ (out_5 : Sl) (k_6 : Int) (w' : World), I out_5 k_6 w' → B3 std p_0 places_1 out_5 k_6 w' (fun e2 w2 => ∃ out_5_n k_6_n, e2 = emb3 p_0 places_1 out_5_n k_6_n ∧ I out_5_n k_6_n w2 ∧ μ out_5_n k_6_n w2 < μ out_5 k_6 w') Q) :
    L3 std p_0 places_1 out_5 k_6 w Q := by
  unfold L3
  refine LoopE.intro (σ := Sl × Int) (step := S3 std Q) (fun s => emb3 p_0 places_1 s.1 s.2) (fun s w => I s.1 s.2 w) (fun s w => μ s.1 s.2 w) (out_5, k_6) rfl h0 ?_
  intro s w' hI
  have h1 := h s.1 s.2 w' hI
  unfold B3 at h1
  simp only [Prod.exists]
  exact h1
theorem A3_0_eq (pr : Prims) (out_5 : Sl) (w : World) (R : Ending → World → Prop) : (q3 pr R) (.exit 0) (x0 out_5) w = (
  R (.returned (Sl.v out_5)) w) := by kernel_rfl
theorem A3_0_s (out_5 : Sl) (w : World) (R : Ending → World → Prop) : (q3 std R) (.exit 0) (x0 out_5) w = (
  R (.returned (Sl.v out_5)) w) := A3_0_eq std out_5 w R
theorem E_eq (pr : Prims) (p_0 : Sl) (places_1 : Sl) (w : World) (R : Ending → World → Prop) : E pr p_0 places_1 w R = (
  pr.sem1 .sl PP (Instr.buildSlice T_Sint 0 #[]) w fun (ρ0 : Sl) ω1 =>
  L3 pr p_0 places_1 ρ0 0 ω1 (q3 pr R)) := by kernel_rfl
theorem E_s (p_0 : Sl) (places_1 : Sl) (w : World) (R : Ending → World → Prop) : E std p_0 places_1 w R = (
  sem1 .sl PP (Instr.buildSlice T_Sint 0 #[]) w fun (ρ0 : Sl) ω1 =>
  L3 std p_0 places_1 ρ0 0 ω1 (q3 std R)) := E_eq std p_0 places_1 w R
theorem drawsOk : drawsOk PP cfg okD (codeOf Try.f54) = true := by kernel_rfl
theorem calls (p_0 : Sl) (places_1 : Sl) {w : World} {R : Ending → World → Prop} (h : E std p_0 places_1 w R) : Calls PP F.spec_l7At #[Sl.v p_0, Sl.v places_1] w R :=
  calls_of noCount mixed drawOk Try.func54 rfl (c := cfg) (args := [Sl.v p_0, Sl.v places_1]) rfl (Nat.le_of_ble_eq_true (by kernel_rfl)) drawsOk h
end spec_l7At

namespace laws_FnExactSameLows
@[reducible] def cfg : Cfg := ⟨40, [], [], [], [4], [], [93, 51, 18, 26, 23, 44, 60, 19, 57, 123, 109, 126, 53, 100], [61, 85, 110, 74, 127, 120]⟩
def E (pr : Prims) (aP_0 : Sl) (aQ_1 : Sl) (w : World) (R : Ending → World → Prop) : Prop :=
  wpC pr PP cfg (DD pr) (codeOf Try.f3) (retQ Try.f3.results.toList R) (argE 0 [Sl.v aP_0, Sl.v aQ_1]) w
theorem E_eq (pr : Prims) (aP_0 : Sl) (aQ_1 : Sl) (w : World) (R : Ending → World → Prop) : E pr aP_0 aQ_1 w R = (
  bif decide ((aP_0.n : Int) > 1048576) then (
  R (.returned (.bool true)) w)
  else (
  bif decide ((aQ_1.n : Int) > 1048576) then (
  R (.returned (.bool true)) w)
  else (
  pr.call1 .sl PP F.laws_toIntS #[Sl.v aP_0] w fun (ρ0 : Sl) ω1 =>
  pr.call1 .sl PP F.laws_toIntS #[Sl.v aQ_1] ω1 fun (ρ2 : Sl) ω3 =>
  pr.call1 .bool PP F.spec_SameLows #[Sl.v ρ0, Sl.v ρ2] ω3 fun (ρ4 : Bool) ω5 =>
  pr.call1 .sl PP F.laws_toIntS #[Sl.v aP_0] ω5 fun (ρ6 : Sl) ω7 =>
  pr.call1 .sl PP F.laws_toIntS #[Sl.v aQ_1] ω7 fun (ρ8 : Sl) ω9 =>
  pr.call1 .bool PP F.impl_SameLows #[Sl.v ρ6, Sl.v ρ8] ω9 fun (ρ10 : Bool) ω11 =>
  bif !(ρ10 == ρ4) then (
  R (.returned (.bool false)) ω11)
  else (
  pr.call1 .sl PP F.laws_toIntS #[Sl.v aP_0] ω11 fun (ρ12 : Sl) ω13 =>
  pr.call1 .bool PP F.laws_eqIntS #[Sl.v ρ6, Sl.v ρ12] ω13 fun (ρ14 : Bool) ω15 =>
  bif !ρ14 then (
  R (.returned (.bool false)) ω15)
  else (
  pr.call1 .sl PP F.laws_toIntS #[Sl.v aQ_1] ω15 fun (ρ16 : Sl) ω17 =>
  pr.call1 .bool PP F.laws_eqIntS #[Sl.v ρ8, Sl.v ρ16] ω17 fun (ρ18 : Bool) ω19 =>
  bif !ρ18 then (
  R (.returned (.bool false)) ω19)
  else (
  R (.returned (.bool true)) ω19)))))) := by kernel_rfl
theorem E_s (aP_0 : Sl) (aQ_1 : Sl) (w : World) (R : Ending → World → Prop) : E std aP_0 aQ_1 w R = (
  bif decide ((aP_0.n : Int) > 1048576) then (
  R (.returned (.bool true)) w)
  else (
  bif decide ((aQ_1.n : Int) > 1048576) then (
  R (.returned (.bool true)) w)
  else (
  call1 .sl PP F.laws_toIntS #[Sl.v aP_0] w fun (ρ0 : Sl) ω1 =>
  call1 .sl PP F.laws_toIntS #[Sl.v aQ_1] ω1 fun (ρ2 : Sl) ω3 =>
  call1 .bool PP F.spec_SameLows #[Sl.v ρ0, Sl.v ρ2] ω3 fun (ρ4 : Bool) ω5 =>
  call1 .sl PP F.laws_toIntS #[Sl.v aP_0] ω5 fun (ρ6 : Sl) ω7 =>
  call1 .sl PP F.laws_toIntS #[Sl.v aQ_1] ω7 fun (ρ8 : Sl) ω9 =>
  call1 .bool PP F.impl_SameLows #[Sl.v ρ6, Sl.v ρ8] ω9 fun (ρ10 : Bool) ω11 =>
  bif !(ρ10 == ρ4) then (
  R (.returned (.bool false)) ω11)
  else (
  call1 .sl PP F.laws_toIntS #[Sl.v aP_0] ω11 fun (ρ12 : Sl) ω13 =>
  call1 .bool PP F.laws_eqIntS #[Sl.v ρ6, Sl.v ρ12] ω13 fun (ρ14 : Bool) ω15 =>
  bif !ρ14 then (
  R (.returned (.bool false)) ω15)
  else (
  call1 .sl PP F.laws_toIntS #[Sl.v aQ_1] ω15 fun (ρ16 : Sl) ω17 =>
  call1 .bool PP F.laws_eqIntS #[Sl.v ρ8, Sl.v ρ16] ω17 fun (ρ18 : Bool) ω19 =>
  bif !ρ18 then (
  R (.returned (.bool false)) ω19)
  else (
  R (.returned (.bool true)) ω19)))))) := E_eq std aP_0 aQ_1 w R
theorem drawsOk : drawsOk PP cfg okD (codeOf Try.f3) = true := by kernel_rfl
theorem calls (aP_0 : Sl) (aQ_1 : Sl) {w : World} {R : Ending → World → Prop} (h : E std aP_0 aQ_1 w R) : Calls PP F.laws_FnExactSameLows #[Sl.v aP_0, Sl.v aQ_1] w R :=
  calls_of noCount mixed drawOk Try.func3 rfl (c := cfg) (args := [Sl.v aP_0, Sl.v aQ_1]) rfl (Nat.le_of_ble_eq_true (by kernel_rfl)) drawsOk h
end laws_FnExactSameLows

end Go.Proofs.Ythbjkgpbnfibkaa
