/- What each function does, step by step, written by a program (Gen.lean); each equation is checked by the kernel. -/
import Derived.Test.YtliabbhfagfagaaHead
namespace Go.Proofs.Ytliabbhfagfagaa
open Go
set_option linter.unusedVariables false
set_option maxRecDepth 100000
namespace laws_FnExactCountTwoPasses
@[reducible] def cfg : Cfg := ⟨12, [], [], [], [2], [], [73, 46, 18, 22, 43, 45, 72, 88, 85, 80, 81, 70], [56, 63, 74, 86, 89, 64]⟩
def E (pr : Prims) (aN_0 : Int) (w : World) (R : Ending → World → Prop) : Prop :=
  wpC pr PP cfg (DD pr) (codeOf Try.f12) (retQ Try.f12.results.toList R) (argE 0 [vI aN_0]) w
theorem E_eq (pr : Prims) (aN_0 : Int) (w : World) (R : Ending → World → Prop) : E pr aN_0 w R = (
  pr.call1 (.int .i64) PP F.spec_CountTwoPasses #[vI aN_0] w fun (ρ0 : Int) ω1 =>
  pr.call1 (.int .i64) PP F.impl_CountTwoPasses #[vI aN_0] ω1 fun (ρ2 : Int) ω3 =>
  bif ρ2 != ρ0 then (
  R (.returned (.bool false)) ω3)
  else (
  R (.returned (.bool true)) ω3)) := by kernel_rfl
theorem E_s (aN_0 : Int) (w : World) (R : Ending → World → Prop) : E std aN_0 w R = (
  call1 (.int .i64) PP F.spec_CountTwoPasses #[vI aN_0] w fun (ρ0 : Int) ω1 =>
  call1 (.int .i64) PP F.impl_CountTwoPasses #[vI aN_0] ω1 fun (ρ2 : Int) ω3 =>
  bif ρ2 != ρ0 then (
  R (.returned (.bool false)) ω3)
  else (
  R (.returned (.bool true)) ω3)) := E_eq std aN_0 w R
theorem drawsOk : drawsOk PP cfg okD (codeOf Try.f12) = true := by kernel_rfl
theorem calls (aN_0 : Int) {w : World} {R : Ending → World → Prop} (h : E std aN_0 w R) : Calls PP F.laws_FnExactCountTwoPasses #[vI aN_0] w R :=
  calls_of noCount mixed drawOk Try.func12 rfl (c := cfg) (args := [vI aN_0]) rfl (Nat.le_of_ble_eq_true (by kernel_rfl)) drawsOk h
end laws_FnExactCountTwoPasses

namespace laws_FnExactStackSources
@[reducible] def cfg : Cfg := ⟨66, [], [], [], [2], [], [73, 46, 18, 22, 43, 45, 72, 88, 85, 80, 81, 70], [56, 63, 74, 86, 89, 64]⟩
def E (pr : Prims) (aQ_0 : Sl) (w : World) (R : Ending → World → Prop) : Prop :=
  wpC pr PP cfg (DD pr) (codeOf Try.f14) (retQ Try.f14.results.toList R) (argE 0 [Sl.v aQ_0]) w
theorem E_eq (pr : Prims) (aQ_0 : Sl) (w : World) (R : Ending → World → Prop) : E pr aQ_0 w R = (
  bif decide ((aQ_0.n : Int) > 1048576) then (
  R (.returned (.bool true)) w)
  else (
  pr.call1 .sl PP F.laws_toIntS #[Sl.v aQ_0] w fun (ρ0 : Sl) ω1 =>
  pr.call1 .sl PP F.spec_StackSources #[Sl.v ρ0] ω1 fun (ρ2 : Sl) ω3 =>
  pr.call1 .sl PP F.laws_toIntS #[Sl.v aQ_0] ω3 fun (ρ4 : Sl) ω5 =>
  pr.call1 .sl PP F.impl_StackSources #[Sl.v ρ4] ω5 fun (ρ6 : Sl) ω7 =>
  pr.call1 .bool PP F.laws_eqIntSS #[Sl.v ρ6, Sl.v ρ2] ω7 fun (ρ8 : Bool) ω9 =>
  bif !ρ8 then (
  R (.returned (.bool false)) ω9)
  else (
  pr.call1 .sl PP F.laws_toIntS #[Sl.v aQ_0] ω9 fun (ρ10 : Sl) ω11 =>
  pr.call1 .bool PP F.laws_eqIntS #[Sl.v ρ4, Sl.v ρ10] ω11 fun (ρ12 : Bool) ω13 =>
  bif !ρ12 then (
  R (.returned (.bool false)) ω13)
  else (
  pr.call1 (.int .i64) PP F.laws_markIntS #[Sl.v ρ4, vI 1] ω13 fun (ρ14 : Int) ω15 =>
  bif decide (ρ14 < 0) then (
  R (.returned (.bool false)) ω15)
  else (
  pr.call1 .bool PP F.laws_eqIntSS #[Sl.v ρ6, Sl.v ρ2] ω15 fun (ρ16 : Bool) ω17 =>
  bif !ρ16 then (
  R (.returned (.bool false)) ω17)
  else (
  pr.call1 (.int .i64) PP F.laws_markIntSS #[Sl.v ρ6, vI 1] ω17 fun (ρ18 : Int) ω19 =>
  pr.call1 (.int .i64) PP F.laws_heldIntSS #[Sl.v ρ6, vI 1] ω19 fun (ρ20 : Int) ω21 =>
  bif decide (ρ20 < 0) then (
  R (.returned (.bool false)) ω21)
  else (
  bif ρ20 != ρ18 then (
  R (.returned (.bool false)) ω21)
  else (
  pr.call1 .sl PP F.laws_toIntS #[Sl.v aQ_0] ω21 fun (ρ22 : Sl) ω23 =>
  pr.call1 .sl PP F.impl_StackSources #[Sl.v ρ22] ω23 fun (ρ24 : Sl) ω25 =>
  pr.call1 .bool PP F.laws_eqIntSS #[Sl.v ρ24, Sl.v ρ2] ω25 fun (ρ26 : Bool) ω27 =>
  bif !ρ26 then (
  R (.returned (.bool false)) ω27)
  else (
  pr.call1 (.int .i64) PP F.laws_heldIntSS #[Sl.v ρ6, vI 1] ω27 fun (ρ28 : Int) ω29 =>
  bif decide (ρ28 < 0) then (
  R (.returned (.bool false)) ω29)
  else (
  bif ρ28 != ρ18 then (
  R (.returned (.bool false)) ω29)
  else (
  R (.returned (.bool true)) ω29))))))))))) := by kernel_rfl
theorem E_s (aQ_0 : Sl) (w : World) (R : Ending → World → Prop) : E std aQ_0 w R = (
  bif decide ((aQ_0.n : Int) > 1048576) then (
  R (.returned (.bool true)) w)
  else (
  call1 .sl PP F.laws_toIntS #[Sl.v aQ_0] w fun (ρ0 : Sl) ω1 =>
  call1 .sl PP F.spec_StackSources #[Sl.v ρ0] ω1 fun (ρ2 : Sl) ω3 =>
  call1 .sl PP F.laws_toIntS #[Sl.v aQ_0] ω3 fun (ρ4 : Sl) ω5 =>
  call1 .sl PP F.impl_StackSources #[Sl.v ρ4] ω5 fun (ρ6 : Sl) ω7 =>
  call1 .bool PP F.laws_eqIntSS #[Sl.v ρ6, Sl.v ρ2] ω7 fun (ρ8 : Bool) ω9 =>
  bif !ρ8 then (
  R (.returned (.bool false)) ω9)
  else (
  call1 .sl PP F.laws_toIntS #[Sl.v aQ_0] ω9 fun (ρ10 : Sl) ω11 =>
  call1 .bool PP F.laws_eqIntS #[Sl.v ρ4, Sl.v ρ10] ω11 fun (ρ12 : Bool) ω13 =>
  bif !ρ12 then (
  R (.returned (.bool false)) ω13)
  else (
  call1 (.int .i64) PP F.laws_markIntS #[Sl.v ρ4, vI 1] ω13 fun (ρ14 : Int) ω15 =>
  bif decide (ρ14 < 0) then (
  R (.returned (.bool false)) ω15)
  else (
  call1 .bool PP F.laws_eqIntSS #[Sl.v ρ6, Sl.v ρ2] ω15 fun (ρ16 : Bool) ω17 =>
  bif !ρ16 then (
  R (.returned (.bool false)) ω17)
  else (
  call1 (.int .i64) PP F.laws_markIntSS #[Sl.v ρ6, vI 1] ω17 fun (ρ18 : Int) ω19 =>
  call1 (.int .i64) PP F.laws_heldIntSS #[Sl.v ρ6, vI 1] ω19 fun (ρ20 : Int) ω21 =>
  bif decide (ρ20 < 0) then (
  R (.returned (.bool false)) ω21)
  else (
  bif ρ20 != ρ18 then (
  R (.returned (.bool false)) ω21)
  else (
  call1 .sl PP F.laws_toIntS #[Sl.v aQ_0] ω21 fun (ρ22 : Sl) ω23 =>
  call1 .sl PP F.impl_StackSources #[Sl.v ρ22] ω23 fun (ρ24 : Sl) ω25 =>
  call1 .bool PP F.laws_eqIntSS #[Sl.v ρ24, Sl.v ρ2] ω25 fun (ρ26 : Bool) ω27 =>
  bif !ρ26 then (
  R (.returned (.bool false)) ω27)
  else (
  call1 (.int .i64) PP F.laws_heldIntSS #[Sl.v ρ6, vI 1] ω27 fun (ρ28 : Int) ω29 =>
  bif decide (ρ28 < 0) then (
  R (.returned (.bool false)) ω29)
  else (
  bif ρ28 != ρ18 then (
  R (.returned (.bool false)) ω29)
  else (
  R (.returned (.bool true)) ω29))))))))))) := E_eq std aQ_0 w R
theorem drawsOk : drawsOk PP cfg okD (codeOf Try.f14) = true := by kernel_rfl
theorem calls (aQ_0 : Sl) {w : World} {R : Ending → World → Prop} (h : E std aQ_0 w R) : Calls PP F.laws_FnExactStackSources #[Sl.v aQ_0] w R :=
  calls_of noCount mixed drawOk Try.func14 rfl (c := cfg) (args := [Sl.v aQ_0]) rfl (Nat.le_of_ble_eq_true (by kernel_rfl)) drawsOk h
end laws_FnExactStackSources

namespace spec_CountTwoPasses
@[reducible] def cfg : Cfg := ⟨28, [(6, [3, 4, 5])], [(1, [3, 4, 5]), (0, [3])], [], [2], [], [73, 46, 18, 22, 43, 45, 72, 88, 85, 80, 81, 70], [56, 63, 74, 86, 89, 64]⟩
def q3 (pr : Prims) (R : Ending → World → Prop) : Exit → Env → World → Prop := fun ex e w => normQ ex (fun e w => contE pr cfg (sub (codeOf Try.f37) [1, 1, 1, 1, 1]) (fun e w => wpC pr PP cfg (DD pr) (sub (codeOf Try.f37) [1, 1, 1, 1, 1]) (retQ Try.f37.results.toList R) e w) e w) (retQ Try.f37.results.toList R) e w
def q4 (pr : Prims) (R : Ending → World → Prop) : Exit → Env → World → Prop := fun ex e w => blockQ ex 0 (q3 pr R) e w
def emb6 (sum_3 : Int) (all_4 : Sl) (k_5 : Int) : Env := [(3, vI sum_3), (4, Sl.v all_4), (5, vI k_5)]
def x0 (sum_3 : Int) : Env := [(3, vI sum_3)]
def S6 (pr : Prims) (Q : Exit → Env → World → Prop) : (Env → World → Prop) → Env → World → Prop := fun k e w => wpC pr PP cfg (DD pr) (sub (codeOf Try.f37) [1, 1, 1, 1, 0, 1, 0, 0]) (fun ex e w => normQ ex (fun e' w' => k (Env.restr e' (lookN cfg.loops (keyOf (sub (codeOf Try.f37) [1, 1, 1, 1, 0, 1, 0, 0])))) w') Q e w) e w
def B6 (pr : Prims) (sum_3 : Int) (all_4 : Sl) (k_5 : Int) (w : World) (k : Env → World → Prop) (Q : Exit → Env → World → Prop) : Prop :=
  S6 pr Q k (emb6 sum_3 all_4 k_5) w
def L6 (pr : Prims) (sum_3 : Int) (all_4 : Sl) (k_5 : Int) (w : World) (Q : Exit → Env → World → Prop) : Prop :=
  pr.loop (S6 pr Q) (emb6 sum_3 all_4 k_5) w
def E (pr : Prims) (n_0 : Int) (w : World) (R : Ending → World → Prop) : Prop :=
  wpC pr PP cfg (DD pr) (codeOf Try.f37) (retQ Try.f37.results.toList R) (argE 0 [vI n_0]) w
theorem B6_eq (pr : Prims) (sum_3 : Int) (all_4 : Sl) (k_5 : Int) (w : World) (k : Env → World → Prop) (Q : Exit → Env → World → Prop) : B6 pr sum_3 all_4 k_5 w k Q = (
  bif decide (k_5 < (all_4.n : Int)) then (
  pr.idxK 1 all_4 k_5 fun (a5 : Addr) =>
  pr.load1 .sl a5 w fun (ξ6 : Sl) =>
  pr.call1 .sl PP F.spec_l21Pass #[Sl.v ξ6] w fun (ρ7 : Sl) ω8 =>
  pr.call1 .sl PP F.spec_l21Pass #[Sl.v ρ7] ω8 fun (ρ9 : Sl) ω10 =>
  pr.call1 .bool PP F.spec_l13Straight #[Sl.v ρ9] ω10 fun (ρ11 : Bool) ω12 =>
  pr.pcall1 (.int .i64) PP F.spec_l1Bit #[.bool ρ11] fun (ρ13 : Int) =>
  k (emb6 (w64 (sum_3 + ρ13)) all_4 (w64 (k_5 + 1))) ω12)
  else (
  Q (.exit 0) (x0 sum_3) w)) := by kernel_rfl
theorem B6_s (sum_3 : Int) (all_4 : Sl) (k_5 : Int) (w : World) (k : Env → World → Prop) (Q : Exit → Env → World → Prop) : B6 std sum_3 all_4 k_5 w k Q = (
  bif decide (k_5 < (all_4.n : Int)) then (
  idxK 1 all_4 k_5 fun (a5 : Addr) =>
  load1 .sl a5 w fun (ξ6 : Sl) =>
  call1 .sl PP F.spec_l21Pass #[Sl.v ξ6] w fun (ρ7 : Sl) ω8 =>
  call1 .sl PP F.spec_l21Pass #[Sl.v ρ7] ω8 fun (ρ9 : Sl) ω10 =>
  call1 .bool PP F.spec_l13Straight #[Sl.v ρ9] ω10 fun (ρ11 : Bool) ω12 =>
  pcall1 (.int .i64) PP F.spec_l1Bit #[.bool ρ11] fun (ρ13 : Int) =>
  k (emb6 (w64 (sum_3 + ρ13)) all_4 (w64 (k_5 + 1))) ω12)
  else (
  Q (.exit 0) (x0 sum_3) w)) := B6_eq std sum_3 all_4 k_5 w k Q
theorem L6_rule (sum_3 : Int) (all_4 : Sl) (k_5 : Int) (w : World) (Q : Exit → Env → World → Prop) (I : Int → Int → World → Prop) (μ : Int → Int → World → Nat) (h0 : I sum_3 k_5 w)
    (h : ∀ (sum_3 : Int) (k_5 : Int) (w' : World), I sum_3 k_5 w' → B6 std sum_3 all_4 k_5 w' (fun e2 w2 => ∃ sum_3_n k_5_n, e2 = emb6 sum_3_n all_4 k_5_n ∧ I sum_3_n k_5_n w2 ∧ μ sum_3_n k_5_n w2 < μ sum_3 k_5 w') Q) :
    L6 std sum_3 all_4 k_5 w Q := by
  unfold L6
  refine LoopE.intro (σ := Int × Int) (step := S6 std Q) (fun s => emb6 s.1 all_4 s.2) (fun s w => I s.1 s.2 w) (fun s w => μ s.1 s.2 w) (sum_3, k_5) rfl h0 ?_
  intro s w' hI
  have h1 := h s.1 s.2 w' hI
  unfold B6 at h1
  simp only [Prod.exists]
  exact h1
theorem A6_0_eq (pr : Prims) (sum_3 : Int) (w : World) (R : Ending → World → Prop) : (q4 pr R) (.exit 0) (x0 sum_3) w = (
  R (.returned (vI sum_3)) w) := by kernel_rfl
theorem A6_0_s (sum_3 : Int) (w : World) (R : Ending → World → Prop) : (q4 std R) (.exit 0) (x0 sum_3) w = (
  R (.returned (vI sum_3)) w) := A6_0_eq std sum_3 w R
theorem E_eq (pr : Prims) (n_0 : Int) (w : World) (R : Ending → World → Prop) : E pr n_0 w R = (
  pr.pcall1 .bool PP F.spec_l1In #[vI n_0, vI 0, vI 6] fun (ρ0 : Bool) =>
  bif !ρ0 then (
  R (.returned (vI (-1))) w)
  else (
  pr.call1 .sl PP F.spec_PermsOf #[vI n_0] w fun (ρ1 : Sl) ω2 =>
  L6 pr 0 ρ1 0 ω2 (q4 pr R))) := by kernel_rfl
theorem E_s (n_0 : Int) (w : World) (R : Ending → World → Prop) : E std n_0 w R = (
  pcall1 .bool PP F.spec_l1In #[vI n_0, vI 0, vI 6] fun (ρ0 : Bool) =>
  bif !ρ0 then (
  R (.returned (vI (-1))) w)
  else (
  call1 .sl PP F.spec_PermsOf #[vI n_0] w fun (ρ1 : Sl) ω2 =>
  L6 std 0 ρ1 0 ω2 (q4 std R))) := E_eq std n_0 w R
theorem drawsOk : drawsOk PP cfg okD (codeOf Try.f37) = true := by kernel_rfl
theorem calls (n_0 : Int) {w : World} {R : Ending → World → Prop} (h : E std n_0 w R) : Calls PP F.spec_CountTwoPasses #[vI n_0] w R :=
  calls_of noCount mixed drawOk Try.func37 rfl (c := cfg) (args := [vI n_0]) rfl (Nat.le_of_ble_eq_true (by kernel_rfl)) drawsOk h
end spec_CountTwoPasses

namespace impl_CountTwoPasses
@[reducible] def cfg : Cfg := ⟨8, [], [], [], [2], [], [73, 46, 18, 22, 43, 45, 72, 88, 85, 80, 81, 70], [56, 63, 74, 86, 89, 64]⟩
def E (pr : Prims) (n_0 : Int) (w : World) (R : Ending → World → Prop) : Prop :=
  wpC pr PP cfg (DD pr) (codeOf Try.f38) (retQ Try.f38.results.toList R) (argE 0 [vI n_0]) w
theorem E_eq (pr : Prims) (n_0 : Int) (w : World) (R : Ending → World → Prop) : E pr n_0 w R = (
  pr.pcall1 .bool PP F.impl_isSix #[vI n_0] fun (ρ0 : Bool) =>
  bif !ρ0 then (
  R (.returned (vI (-1))) w)
  else (
  pr.call1 (.int .i64) PP F.impl_counted #[vI n_0, .func (.func F.impl_CountTwoPassesL1) #[] #[]] w fun (ρ1 : Int) ω2 =>
  R (.returned (vI ρ1)) ω2)) := by kernel_rfl
theorem E_s (n_0 : Int) (w : World) (R : Ending → World → Prop) : E std n_0 w R = (
  pcall1 .bool PP F.impl_isSix #[vI n_0] fun (ρ0 : Bool) =>
  bif !ρ0 then (
  R (.returned (vI (-1))) w)
  else (
  call1 (.int .i64) PP F.impl_counted #[vI n_0, .func (.func F.impl_CountTwoPassesL1) #[] #[]] w fun (ρ1 : Int) ω2 =>
  R (.returned (vI ρ1)) ω2)) := E_eq std n_0 w R
theorem drawsOk : drawsOk PP cfg okD (codeOf Try.f38) = true := by kernel_rfl
theorem calls (n_0 : Int) {w : World} {R : Ending → World → Prop} (h : E std n_0 w R) : Calls PP F.impl_CountTwoPasses #[vI n_0] w R :=
  calls_of noCount mixed drawOk Try.func38 rfl (c := cfg) (args := [vI n_0]) rfl (Nat.le_of_ble_eq_true (by kernel_rfl)) drawsOk h
end impl_CountTwoPasses

namespace impl_CountTwoPassesL1
@[reducible] def cfg : Cfg := ⟨6, [], [], [], [2], [], [73, 46, 18, 22, 43, 45, 72, 88, 85, 80, 81, 70], [56, 63, 74, 86, 89, 64]⟩
def E (pr : Prims) (p_0 : Sl) (w : World) (R : Ending → World → Prop) : Prop :=
  wpC pr PP cfg (DD pr) (codeOf Try.f66) (retQ Try.f66.results.toList R) (argE 0 [Sl.v p_0]) w
theorem E_eq (pr : Prims) (p_0 : Sl) (w : World) (R : Ending → World → Prop) : E pr p_0 w R = (
  pr.call1 (.int .i64) PP F.impl_timesOf #[Sl.v p_0, .func (.func F.impl_stackPass) #[] #[]] w fun (ρ0 : Int) ω1 =>
  R (.returned (.bool (decide (ρ0 ≤ 2)))) ω1) := by kernel_rfl
theorem E_s (p_0 : Sl) (w : World) (R : Ending → World → Prop) : E std p_0 w R = (
  call1 (.int .i64) PP F.impl_timesOf #[Sl.v p_0, .func (.func F.impl_stackPass) #[] #[]] w fun (ρ0 : Int) ω1 =>
  R (.returned (.bool (decide (ρ0 ≤ 2)))) ω1) := E_eq std p_0 w R
theorem drawsOk : drawsOk PP cfg okD (codeOf Try.f66) = true := by kernel_rfl
theorem calls (p_0 : Sl) {w : World} {R : Ending → World → Prop} (h : E std p_0 w R) : Calls PP F.impl_CountTwoPassesL1 #[Sl.v p_0] w R :=
  calls_of noCount mixed drawOk Try.func66 rfl (c := cfg) (args := [Sl.v p_0]) rfl (Nat.le_of_ble_eq_true (by kernel_rfl)) drawsOk h
end impl_CountTwoPassesL1

namespace spec_StackSources
@[reducible] def cfg : Cfg := ⟨40, [(6, [0, 3, 4, 5])], [(1, [0, 3, 4, 5]), (0, [3])], [], [2], [], [73, 46, 18, 22, 43, 45, 72, 88, 85, 80, 81, 70], [56, 63, 74, 86, 89, 64]⟩
def q6 (pr : Prims) (R : Ending → World → Prop) : Exit → Env → World → Prop := fun ex e w => normQ ex (fun e w => contE pr cfg (sub (codeOf Try.f41) [1, 1, 1, 1, 1]) (fun e w => wpC pr PP cfg (DD pr) (sub (codeOf Try.f41) [1, 1, 1, 1, 1]) (retQ Try.f41.results.toList R) e w) e w) (retQ Try.f41.results.toList R) e w
def q7 (pr : Prims) (R : Ending → World → Prop) : Exit → Env → World → Prop := fun ex e w => blockQ ex 0 (q6 pr R) e w
def emb6 (q_0 : Sl) (out_3 : Sl) (all_4 : Sl) (k_5 : Int) : Env := [(0, Sl.v q_0), (3, Sl.v out_3), (4, Sl.v all_4), (5, vI k_5)]
def x0 (out_3 : Sl) : Env := [(3, Sl.v out_3)]
def S6 (pr : Prims) (Q : Exit → Env → World → Prop) : (Env → World → Prop) → Env → World → Prop := fun k e w => wpC pr PP cfg (DD pr) (sub (codeOf Try.f41) [1, 1, 1, 1, 0, 1, 0, 0]) (fun ex e w => normQ ex (fun e' w' => k (Env.restr e' (lookN cfg.loops (keyOf (sub (codeOf Try.f41) [1, 1, 1, 1, 0, 1, 0, 0])))) w') Q e w) e w
def B6 (pr : Prims) (q_0 : Sl) (out_3 : Sl) (all_4 : Sl) (k_5 : Int) (w : World) (k : Env → World → Prop) (Q : Exit → Env → World → Prop) : Prop :=
  S6 pr Q k (emb6 q_0 out_3 all_4 k_5) w
def L6 (pr : Prims) (q_0 : Sl) (out_3 : Sl) (all_4 : Sl) (k_5 : Int) (w : World) (Q : Exit → Env → World → Prop) : Prop :=
  pr.loop (S6 pr Q) (emb6 q_0 out_3 all_4 k_5) w
def E (pr : Prims) (q_0 : Sl) (w : World) (R : Ending → World → Prop) : Prop :=
  wpC pr PP cfg (DD pr) (codeOf Try.f41) (retQ Try.f41.results.toList R) (argE 0 [Sl.v q_0]) w
theorem B6_eq (pr : Prims) (q_0 : Sl) (out_3 : Sl) (all_4 : Sl) (k_5 : Int) (w : World) (k : Env → World → Prop) (Q : Exit → Env → World → Prop) : B6 pr q_0 out_3 all_4 k_5 w k Q = (
  bif decide (k_5 < (all_4.n : Int)) then (
  pr.idxK 1 all_4 k_5 fun (a8 : Addr) =>
  pr.load1 .sl a8 w fun (ξ9 : Sl) =>
  pr.call1 .sl PP F.spec_l21Pass #[Sl.v ξ9] w fun (ρ10 : Sl) ω11 =>
  pr.call1 .bool PP F.spec_l2Same #[Sl.v ρ10, Sl.v q_0] ω11 fun (ρ12 : Bool) ω13 =>
  bif ρ12 then (
  pr.idxK 1 all_4 k_5 fun (a14 : Addr) =>
  pr.load1 .sl a14 ω13 fun (ξ15 : Sl) =>
  pr.sem1 .sl PP (Instr.buildSlice T_SSint 1 #[(0, Sl.v ξ15)]) ω13 fun (ρ16 : Sl) ω17 =>
  pr.sem1 .sl PP (Builtin.append_ #[T_SSint, T_SSint] T_SSint #[Sl.v out_3, Sl.v ρ16]) ω17 fun (ρ18 : Sl) ω19 =>
  k (emb6 q_0 ρ18 all_4 (w64 (k_5 + 1))) ω19)
  else (
  k (emb6 q_0 out_3 all_4 (w64 (k_5 + 1))) ω13))
  else (
  Q (.exit 0) (x0 out_3) w)) := by kernel_rfl
theorem B6_s (q_0 : Sl) (out_3 : Sl) (all_4 : Sl) (k_5 : Int) (w : World) (k : Env → World → Prop) (Q : Exit → Env → World → Prop) : B6 std q_0 out_3 all_4 k_5 w k Q = (
  bif decide (k_5 < (all_4.n : Int)) then (
  idxK 1 all_4 k_5 fun (a8 : Addr) =>
  load1 .sl a8 w fun (ξ9 : Sl) =>
  call1 .sl PP F.spec_l21Pass #[Sl.v ξ9] w fun (ρ10 : Sl) ω11 =>
  call1 .bool PP F.spec_l2Same #[Sl.v ρ10, Sl.v q_0] ω11 fun (ρ12 : Bool) ω13 =>
  bif ρ12 then (
  idxK 1 all_4 k_5 fun (a14 : Addr) =>
  load1 .sl a14 ω13 fun (ξ15 : Sl) =>
  sem1 .sl PP (Instr.buildSlice T_SSint 1 #[(0, Sl.v ξ15)]) ω13 fun (ρ16 : Sl) ω17 =>
  sem1 .sl PP (Builtin.append_ #[T_SSint, T_SSint] T_SSint #[Sl.v out_3, Sl.v ρ16]) ω17 fun (ρ18 : Sl) ω19 =>
  k (emb6 q_0 ρ18 all_4 (w64 (k_5 + 1))) ω19)
  else (
  k (emb6 q_0 out_3 all_4 (w64 (k_5 + 1))) ω13))
  else (
  Q (.exit 0) (x0 out_3) w)) := B6_eq std q_0 out_3 all_4 k_5 w k Q
theorem L6_rule (q_0 : Sl) (out_3 : Sl) (all_4 : Sl) (k_5 : Int) (w : World) (Q : Exit → Env → World → Prop) (I : Sl → Int → World → Prop) (μ : Sl → Int → World → Nat) (h0 : I out_3 k_5 w)
    (h : ∀ (out_3 : Sl) (k_5 : Int) (w' : World), I out_3 k_5 w' → B6 std q_0 out_3 all_4 k_5 w' (fun e2 w2 => ∃ out_3_n k_5_n, e2 = emb6 q_0 out_3_n all_4 k_5_n ∧ I out_3_n k_5_n w2 ∧ μ out_3_n k_5_n w2 < μ out_3 k_5 w') Q) :
    L6 std q_0 out_3 all_4 k_5 w Q := by
  unfold L6
  refine LoopE.intro (σ := Sl × Int) (step := S6 std Q) (fun s => emb6 q_0 s.1 all_4 s.2) (fun s w => I s.1 s.2 w) (fun s w => μ s.1 s.2 w) (out_3, k_5) rfl h0 ?_
  intro s w' hI
  have h1 := h s.1 s.2 w' hI
  unfold B6 at h1
  simp only [Prod.exists]
  exact h1
theorem A6_0_eq (pr : Prims) (out_3 : Sl) (w : World) (R : Ending → World → Prop) : (q7 pr R) (.exit 0) (x0 out_3) w = (
  R (.returned (Sl.v out_3)) w) := by kernel_rfl
theorem A6_0_s (out_3 : Sl) (w : World) (R : Ending → World → Prop) : (q7 std R) (.exit 0) (x0 out_3) w = (
  R (.returned (Sl.v out_3)) w) := A6_0_eq std out_3 w R
theorem E_eq (pr : Prims) (q_0 : Sl) (w : World) (R : Ending → World → Prop) : E pr q_0 w R = (
  pr.sem1 .sl PP (Instr.buildSlice T_SSint 0 #[]) w fun (ρ0 : Sl) ω1 =>
  pr.call1 .bool PP F.spec_IsPerm #[Sl.v q_0] ω1 fun (ρ2 : Bool) ω3 =>
  bif !ρ2 then (
  R (.returned (Sl.v ρ0)) ω3)
  else (
  bif decide ((q_0.n : Int) > 6) then (
  R (.returned (Sl.v ρ0)) ω3)
  else (
  pr.call1 .sl PP F.spec_PermsOf #[vI (q_0.n : Int)] ω3 fun (ρ4 : Sl) ω5 =>
  L6 pr q_0 ρ0 ρ4 0 ω5 (q7 pr R)))) := by kernel_rfl
theorem E_s (q_0 : Sl) (w : World) (R : Ending → World → Prop) : E std q_0 w R = (
  sem1 .sl PP (Instr.buildSlice T_SSint 0 #[]) w fun (ρ0 : Sl) ω1 =>
  call1 .bool PP F.spec_IsPerm #[Sl.v q_0] ω1 fun (ρ2 : Bool) ω3 =>
  bif !ρ2 then (
  R (.returned (Sl.v ρ0)) ω3)
  else (
  bif decide ((q_0.n : Int) > 6) then (
  R (.returned (Sl.v ρ0)) ω3)
  else (
  call1 .sl PP F.spec_PermsOf #[vI (q_0.n : Int)] ω3 fun (ρ4 : Sl) ω5 =>
  L6 std q_0 ρ0 ρ4 0 ω5 (q7 std R)))) := E_eq std q_0 w R
theorem drawsOk : drawsOk PP cfg okD (codeOf Try.f41) = true := by kernel_rfl
theorem calls (q_0 : Sl) {w : World} {R : Ending → World → Prop} (h : E std q_0 w R) : Calls PP F.spec_StackSources #[Sl.v q_0] w R :=
  calls_of noCount mixed drawOk Try.func41 rfl (c := cfg) (args := [Sl.v q_0]) rfl (Nat.le_of_ble_eq_true (by kernel_rfl)) drawsOk h
end spec_StackSources

namespace impl_StackSources
@[reducible] def cfg : Cfg := ⟨33, [(5, [0, 3, 17, 18, 19])], [(1, [0, 3, 17, 18, 19]), (0, [3])], [], [2], [], [73, 46, 18, 22, 43, 45, 72, 88, 85, 80, 81, 70], [56, 63, 74, 86, 89, 64]⟩
def q4 (pr : Prims) (R : Ending → World → Prop) : Exit → Env → World → Prop := fun ex e w => normQ ex (fun e w => contE pr cfg (sub (codeOf Try.f42) [1, 1, 1, 1]) (fun e w => wpC pr PP cfg (DD pr) (sub (codeOf Try.f42) [1, 1, 1, 1]) (retQ Try.f42.results.toList R) e w) e w) (retQ Try.f42.results.toList R) e w
def q7 (pr : Prims) (R : Ending → World → Prop) : Exit → Env → World → Prop := fun ex e w => blockQ ex 0 (q4 pr R) e w
def emb5 (q_0 : Sl) (out_3 : Sl) (t17 : Sl) (t18 : Int) (t19 : Int) : Env := [(0, Sl.v q_0), (3, Sl.v out_3), (17, Sl.v t17), (18, vI t18), (19, vI t19)]
def x0 (out_3 : Sl) : Env := [(3, Sl.v out_3)]
def S5 (pr : Prims) (Q : Exit → Env → World → Prop) : (Env → World → Prop) → Env → World → Prop := fun k e w => wpC pr PP cfg (DD pr) (sub (codeOf Try.f42) [1, 1, 1, 0, 1, 0, 0]) (fun ex e w => normQ ex (fun e' w' => k (Env.restr e' (lookN cfg.loops (keyOf (sub (codeOf Try.f42) [1, 1, 1, 0, 1, 0, 0])))) w') Q e w) e w
def B5 (pr : Prims) (q_0 : Sl) (out_3 : Sl) (t17 : Sl) (t18 : Int) (t19 : Int) (w : World) (k : Env → World → Prop) (Q : Exit → Env → World → Prop) : Prop :=
  S5 pr Q k (emb5 q_0 out_3 t17 t18 t19) w
def L5 (pr : Prims) (q_0 : Sl) (out_3 : Sl) (t17 : Sl) (t18 : Int) (t19 : Int) (w : World) (Q : Exit → Env → World → Prop) : Prop :=
  pr.loop (S5 pr Q) (emb5 q_0 out_3 t17 t18 t19) w
def E (pr : Prims) (q_0 : Sl) (w : World) (R : Ending → World → Prop) : Prop :=
  wpC pr PP cfg (DD pr) (codeOf Try.f42) (retQ Try.f42.results.toList R) (argE 0 [Sl.v q_0]) w
theorem B5_eq (pr : Prims) (q_0 : Sl) (out_3 : Sl) (t17 : Sl) (t18 : Int) (t19 : Int) (w : World) (k : Env → World → Prop) (Q : Exit → Env → World → Prop) : B5 pr q_0 out_3 t17 t18 t19 w k Q = (
  bif decide (t19 < t18) then (
  pr.idxK 1 t17 t19 fun (a8 : Addr) =>
  pr.load1 .sl a8 w fun (ξ9 : Sl) =>
  pr.call1 .sl PP F.impl_stackPass #[Sl.v ξ9] w fun (ρ10 : Sl) ω11 =>
  pr.call1 .bool PP F.slices_Equal___int_int_ #[Sl.v ρ10, Sl.v q_0] ω11 fun (ρ12 : Bool) ω13 =>
  bif ρ12 then (
  pr.sem1 .sl PP (Instr.buildSlice T_SSint 1 #[(0, Sl.v ξ9)]) ω13 fun (ρ14 : Sl) ω15 =>
  pr.sem1 .sl PP (Builtin.append_ #[T_SSint, T_SSint] T_SSint #[Sl.v out_3, Sl.v ρ14]) ω15 fun (ρ16 : Sl) ω17 =>
  k (emb5 q_0 ρ16 t17 t18 (w64 (t19 + 1))) ω17)
  else (
  k (emb5 q_0 out_3 t17 t18 (w64 (t19 + 1))) ω13))
  else (
  Q (.exit 0) (x0 out_3) w)) := by kernel_rfl
theorem B5_s (q_0 : Sl) (out_3 : Sl) (t17 : Sl) (t18 : Int) (t19 : Int) (w : World) (k : Env → World → Prop) (Q : Exit → Env → World → Prop) : B5 std q_0 out_3 t17 t18 t19 w k Q = (
  bif decide (t19 < t18) then (
  idxK 1 t17 t19 fun (a8 : Addr) =>
  load1 .sl a8 w fun (ξ9 : Sl) =>
  call1 .sl PP F.impl_stackPass #[Sl.v ξ9] w fun (ρ10 : Sl) ω11 =>
  call1 .bool PP F.slices_Equal___int_int_ #[Sl.v ρ10, Sl.v q_0] ω11 fun (ρ12 : Bool) ω13 =>
  bif ρ12 then (
  sem1 .sl PP (Instr.buildSlice T_SSint 1 #[(0, Sl.v ξ9)]) ω13 fun (ρ14 : Sl) ω15 =>
  sem1 .sl PP (Builtin.append_ #[T_SSint, T_SSint] T_SSint #[Sl.v out_3, Sl.v ρ14]) ω15 fun (ρ16 : Sl) ω17 =>
  k (emb5 q_0 ρ16 t17 t18 (w64 (t19 + 1))) ω17)
  else (
  k (emb5 q_0 out_3 t17 t18 (w64 (t19 + 1))) ω13))
  else (
  Q (.exit 0) (x0 out_3) w)) := B5_eq std q_0 out_3 t17 t18 t19 w k Q
theorem L5_rule (q_0 : Sl) (out_3 : Sl) (t17 : Sl) (t18 : Int) (t19 : Int) (w : World) (Q : Exit → Env → World → Prop) (I : Sl → Int → World → Prop) (μ : Sl → Int → World → Nat) (h0 : I out_3 t19 w)
    (h : ∀ (out_3 : Sl) (t19 : Int) (w' : World), I out_3 t19 w' → B5 std q_0 out_3 t17 t18 t19 w' (fun e2 w2 => ∃ out_3_n t19_n, e2 = emb5 q_0 out_3_n t17 t18 t19_n ∧ I out_3_n t19_n w2 ∧ μ out_3_n t19_n w2 < μ out_3 t19 w') Q) :
    L5 std q_0 out_3 t17 t18 t19 w Q := by
  unfold L5
  refine LoopE.intro (σ := Sl × Int) (step := S5 std Q) (fun s => emb5 q_0 s.1 t17 t18 s.2) (fun s w => I s.1 s.2 w) (fun s w => μ s.1 s.2 w) (out_3, t19) rfl h0 ?_
  intro s w' hI
  have h1 := h s.1 s.2 w' hI
  unfold B5 at h1
  simp only [Prod.exists]
  exact h1
theorem A5_0_eq (pr : Prims) (out_3 : Sl) (w : World) (R : Ending → World → Prop) : (q7 pr R) (.exit 0) (x0 out_3) w = (
  R (.returned (Sl.v out_3)) w) := by kernel_rfl
theorem A5_0_s (out_3 : Sl) (w : World) (R : Ending → World → Prop) : (q7 std R) (.exit 0) (x0 out_3) w = (
  R (.returned (Sl.v out_3)) w) := A5_0_eq std out_3 w R
theorem E_eq (pr : Prims) (q_0 : Sl) (w : World) (R : Ending → World → Prop) : E pr q_0 w R = (
  pr.call1 .bool PP F.impl_IsPerm #[Sl.v q_0] w fun (ρ0 : Bool) ω1 =>
  bif !ρ0 then (
  R (.returned (Sl.v Sl.nil)) ω1)
  else (
  bif decide ((q_0.n : Int) > 6) then (
  R (.returned (Sl.v Sl.nil)) ω1)
  else (
  pr.sem1 .sl PP (Instr.buildSlice T_SSint 0 #[]) ω1 fun (ρ2 : Sl) ω3 =>
  pr.call1 .sl PP F.impl_perms #[vI (q_0.n : Int)] ω3 fun (ρ5 : Sl) ω6 =>
  L5 pr q_0 ρ2 ρ5 (ρ5.n : Int) 0 ω6 (q7 pr R)))) := by kernel_rfl
theorem E_s (q_0 : Sl) (w : World) (R : Ending → World → Prop) : E std q_0 w R = (
  call1 .bool PP F.impl_IsPerm #[Sl.v q_0] w fun (ρ0 : Bool) ω1 =>
  bif !ρ0 then (
  R (.returned (Sl.v Sl.nil)) ω1)
  else (
  bif decide ((q_0.n : Int) > 6) then (
  R (.returned (Sl.v Sl.nil)) ω1)
  else (
  sem1 .sl PP (Instr.buildSlice T_SSint 0 #[]) ω1 fun (ρ2 : Sl) ω3 =>
  call1 .sl PP F.impl_perms #[vI (q_0.n : Int)] ω3 fun (ρ5 : Sl) ω6 =>
  L5 std q_0 ρ2 ρ5 (ρ5.n : Int) 0 ω6 (q7 std R)))) := E_eq std q_0 w R
theorem drawsOk : drawsOk PP cfg okD (codeOf Try.f42) = true := by kernel_rfl
theorem calls (q_0 : Sl) {w : World} {R : Ending → World → Prop} (h : E std q_0 w R) : Calls PP F.impl_StackSources #[Sl.v q_0] w R :=
  calls_of noCount mixed drawOk Try.func42 rfl (c := cfg) (args := [Sl.v q_0]) rfl (Nat.le_of_ble_eq_true (by kernel_rfl)) drawsOk h
end impl_StackSources

namespace impl_isSix
@[reducible] def cfg : Cfg := ⟨9, [], [], [], [2], [], [73, 46, 18, 22, 43, 45, 72, 88, 85, 80, 81, 70], [56, 63, 74, 86, 89, 64]⟩
def E (pr : Prims) (n_0 : Int) (w : World) (R : Ending → World → Prop) : Prop :=
  wpC pr PP cfg (DD pr) (codeOf Try.f64) (retQ Try.f64.results.toList R) (argE 0 [vI n_0]) w
theorem E_eq (pr : Prims) (n_0 : Int) (w : World) (R : Ending → World → Prop) : E pr n_0 w R = (
  bif decide (n_0 ≥ 0) then (
  R (.returned (.bool (decide (n_0 ≤ 6)))) w)
  else (
  R (.returned (.bool false)) w)) := by kernel_rfl
theorem E_s (n_0 : Int) (w : World) (R : Ending → World → Prop) : E std n_0 w R = (
  bif decide (n_0 ≥ 0) then (
  R (.returned (.bool (decide (n_0 ≤ 6)))) w)
  else (
  R (.returned (.bool false)) w)) := E_eq std n_0 w R
theorem drawsOk : drawsOk PP cfg okD (codeOf Try.f64) = true := by kernel_rfl
theorem calls (n_0 : Int) {w : World} {R : Ending → World → Prop} (h : E std n_0 w R) : Calls PP F.impl_isSix #[vI n_0] w R :=
  calls_of noCount mixed drawOk Try.func64 rfl (c := cfg) (args := [vI n_0]) rfl (Nat.le_of_ble_eq_true (by kernel_rfl)) drawsOk h
end impl_isSix

namespace impl_counted
@[reducible] def cfg : Cfg := ⟨22, [(3, [1, 5, 9, 10, 11])], [(1, [1, 5, 9, 10, 11]), (0, [5])], [], [4], [], [73, 46, 18, 22, 43, 45, 72, 88, 85, 80, 81, 70], [56, 63, 74, 86, 89, 64]⟩
def q0 (pr : Prims) (R : Ending → World → Prop) : Exit → Env → World → Prop := fun ex e w => normQ ex (fun e w => contE pr cfg (sub (codeOf Try.f65) [1, 1, 1]) (fun e w => wpC pr PP cfg (DD pr) (sub (codeOf Try.f65) [1, 1, 1]) (retQ Try.f65.results.toList R) e w) e w) (retQ Try.f65.results.toList R) e w
def q3 (pr : Prims) (R : Ending → World → Prop) : Exit → Env → World → Prop := fun ex e w => blockQ ex 0 (q0 pr R) e w
def emb3 (holds_1 : Value) (many_5 : Int) (t9 : Sl) (t10 : Int) (t11 : Int) : Env := [(1, holds_1), (5, vI many_5), (9, Sl.v t9), (10, vI t10), (11, vI t11)]
def x0 (many_5 : Int) : Env := [(5, vI many_5)]
def S3 (pr : Prims) (Q : Exit → Env → World → Prop) : (Env → World → Prop) → Env → World → Prop := fun k e w => wpC pr PP cfg (DD pr) (sub (codeOf Try.f65) [1, 1, 0, 1, 0, 0]) (fun ex e w => normQ ex (fun e' w' => k (Env.restr e' (lookN cfg.loops (keyOf (sub (codeOf Try.f65) [1, 1, 0, 1, 0, 0])))) w') Q e w) e w
def B3 (pr : Prims) (holds_1 : Value) (many_5 : Int) (t9 : Sl) (t10 : Int) (t11 : Int) (w : World) (k : Env → World → Prop) (Q : Exit → Env → World → Prop) : Prop :=
  S3 pr Q k (emb3 holds_1 many_5 t9 t10 t11) w
def L3 (pr : Prims) (holds_1 : Value) (many_5 : Int) (t9 : Sl) (t10 : Int) (t11 : Int) (w : World) (Q : Exit → Env → World → Prop) : Prop :=
  pr.loop (S3 pr Q) (emb3 holds_1 many_5 t9 t10 t11) w
def E (pr : Prims) (n_0 : Int) (holds_1 : Value) (w : World) (R : Ending → World → Prop) : Prop :=
  wpC pr PP cfg (DD pr) (codeOf Try.f65) (retQ Try.f65.results.toList R) (argE 0 [vI n_0, holds_1]) w
theorem B3_eq (pr : Prims) (holds_1 : Value) (many_5 : Int) (t9 : Sl) (t10 : Int) (t11 : Int) (w : World) (k : Env → World → Prop) (Q : Exit → Env → World → Prop) : B3 pr holds_1 many_5 t9 t10 t11 w k Q = (
  bif decide (t11 < t10) then (
  pr.idxK 1 t9 t11 fun (a4 : Addr) =>
  pr.load1 .sl a4 w fun (ξ5 : Sl) =>
  pr.callV1 .bool PP (holds_1) [Sl.v ξ5] w fun (ρ6 : Bool) ω7 =>
  bif ρ6 then (
  k (emb3 holds_1 (w64 (many_5 + 1)) t9 t10 (w64 (t11 + 1))) ω7)
  else (
  k (emb3 holds_1 many_5 t9 t10 (w64 (t11 + 1))) ω7))
  else (
  Q (.exit 0) (x0 many_5) w)) := by kernel_rfl
theorem B3_s (holds_1 : Value) (many_5 : Int) (t9 : Sl) (t10 : Int) (t11 : Int) (w : World) (k : Env → World → Prop) (Q : Exit → Env → World → Prop) : B3 std holds_1 many_5 t9 t10 t11 w k Q = (
  bif decide (t11 < t10) then (
  idxK 1 t9 t11 fun (a4 : Addr) =>
  load1 .sl a4 w fun (ξ5 : Sl) =>
  callV1 .bool PP (holds_1) [Sl.v ξ5] w fun (ρ6 : Bool) ω7 =>
  bif ρ6 then (
  k (emb3 holds_1 (w64 (many_5 + 1)) t9 t10 (w64 (t11 + 1))) ω7)
  else (
  k (emb3 holds_1 many_5 t9 t10 (w64 (t11 + 1))) ω7))
  else (
  Q (.exit 0) (x0 many_5) w)) := B3_eq std holds_1 many_5 t9 t10 t11 w k Q
theorem L3_rule (holds_1 : Value) (many_5 : Int) (t9 : Sl) (t10 : Int) (t11 : Int) (w : World) (Q : Exit → Env → World → Prop) (I : Int → Int → World → Prop) (μ : Int → Int → World → Nat) (h0 : I many_5 t11 w)
    (h : ∀ (many_5 : Int) (t11 : Int) (w' : World), I many_5 t11 w' → B3 std holds_1 many_5 t9 t10 t11 w' (fun e2 w2 => ∃ many_5_n t11_n, e2 = emb3 holds_1 many_5_n t9 t10 t11_n ∧ I many_5_n t11_n w2 ∧ μ many_5_n t11_n w2 < μ many_5 t11 w') Q) :
    L3 std holds_1 many_5 t9 t10 t11 w Q := by
  unfold L3
  refine LoopE.intro (σ := Int × Int) (step := S3 std Q) (fun s => emb3 holds_1 s.1 t9 t10 s.2) (fun s w => I s.1 s.2 w) (fun s w => μ s.1 s.2 w) (many_5, t11) rfl h0 ?_
  intro s w' hI
  have h1 := h s.1 s.2 w' hI
  unfold B3 at h1
  simp only [Prod.exists]
  exact h1
theorem A3_0_eq (pr : Prims) (many_5 : Int) (w : World) (R : Ending → World → Prop) : (q3 pr R) (.exit 0) (x0 many_5) w = (
  R (.returned (vI many_5)) w) := by kernel_rfl
theorem A3_0_s (many_5 : Int) (w : World) (R : Ending → World → Prop) : (q3 std R) (.exit 0) (x0 many_5) w = (
  R (.returned (vI many_5)) w) := A3_0_eq std many_5 w R
theorem E_eq (pr : Prims) (n_0 : Int) (holds_1 : Value) (w : World) (R : Ending → World → Prop) : E pr n_0 holds_1 w R = (
  pr.call1 .sl PP F.impl_perms #[vI n_0] w fun (ρ1 : Sl) ω2 =>
  L3 pr holds_1 0 ρ1 (ρ1.n : Int) 0 ω2 (q3 pr R)) := by kernel_rfl
theorem E_s (n_0 : Int) (holds_1 : Value) (w : World) (R : Ending → World → Prop) : E std n_0 holds_1 w R = (
  call1 .sl PP F.impl_perms #[vI n_0] w fun (ρ1 : Sl) ω2 =>
  L3 std holds_1 0 ρ1 (ρ1.n : Int) 0 ω2 (q3 std R)) := E_eq std n_0 holds_1 w R
theorem drawsOk : drawsOk PP cfg okD (codeOf Try.f65) = true := by kernel_rfl
theorem calls (n_0 : Int) (holds_1 : Value) {w : World} {R : Ending → World → Prop} (h : E std n_0 holds_1 w R) : Calls PP F.impl_counted #[vI n_0, holds_1] w R :=
  calls_of noCount mixed drawOk Try.func65 rfl (c := cfg) (args := [vI n_0, holds_1]) rfl (Nat.le_of_ble_eq_true (by kernel_rfl)) drawsOk h
end impl_counted

namespace slices_Equal___int_int_
@[reducible] def cfg : Cfg := ⟨26, [(4, [0, 1, 12, 13])], [(1, [0, 1, 12, 13]), (0, [])], [], [4], [6], [73, 46, 18, 22, 43, 45, 72, 88, 85, 80, 81, 70], [56, 63, 74, 86, 89, 64]⟩
def q0 (pr : Prims) (R : Ending → World → Prop) : Exit → Env → World → Prop := fun ex e w => normQ ex (fun e w => contE pr cfg (sub (codeOf Try.f72) [1, 1, 1]) (fun e w => wpC pr PP cfg (DD pr) (sub (codeOf Try.f72) [1, 1, 1]) (retQ Try.f72.results.toList R) e w) e w) (retQ Try.f72.results.toList R) e w
def q1 (pr : Prims) (R : Ending → World → Prop) : Exit → Env → World → Prop := fun ex e w => blockQ ex 0 (q0 pr R) e w
def emb4 (s1_0 : Sl) (s2_1 : Sl) (t12 : Int) (t13 : Int) : Env := [(0, Sl.v s1_0), (1, Sl.v s2_1), (12, vI t12), (13, vI t13)]
def x0 : Env := []
def S4 (pr : Prims) (Q : Exit → Env → World → Prop) : (Env → World → Prop) → Env → World → Prop := fun k e w => wpC pr PP cfg (DD pr) (sub (codeOf Try.f72) [1, 1, 0, 1, 0, 0]) (fun ex e w => normQ ex (fun e' w' => k (Env.restr e' (lookN cfg.loops (keyOf (sub (codeOf Try.f72) [1, 1, 0, 1, 0, 0])))) w') Q e w) e w
def B4 (pr : Prims) (s1_0 : Sl) (s2_1 : Sl) (t12 : Int) (t13 : Int) (w : World) (k : Env → World → Prop) (Q : Exit → Env → World → Prop) : Prop :=
  S4 pr Q k (emb4 s1_0 s2_1 t12 t13) w
def L4 (pr : Prims) (s1_0 : Sl) (s2_1 : Sl) (t12 : Int) (t13 : Int) (w : World) (Q : Exit → Env → World → Prop) : Prop :=
  pr.loop (S4 pr Q) (emb4 s1_0 s2_1 t12 t13) w
def E (pr : Prims) (s1_0 : Sl) (s2_1 : Sl) (w : World) (R : Ending → World → Prop) : Prop :=
  wpC pr PP cfg (DD pr) (codeOf Try.f72) (retQ Try.f72.results.toList R) (argE 0 [Sl.v s1_0, Sl.v s2_1]) w
theorem B4_eq (pr : Prims) (s1_0 : Sl) (s2_1 : Sl) (t12 : Int) (t13 : Int) (w : World) (k : Env → World → Prop) (Q : Exit → Env → World → Prop) : B4 pr s1_0 s2_1 t12 t13 w k Q = (
  bif decide (t13 < t12) then (
  pr.idxK 1 s1_0 t13 fun (a2 : Addr) =>
  pr.load1 (.int .i64) a2 w fun (ξ3 : Int) =>
  pr.idxK 1 s2_1 t13 fun (a4 : Addr) =>
  pr.load1 (.int .i64) a4 w fun (ξ5 : Int) =>
  pr.drewAll w fun ω6 =>
  bif ξ3 != ξ5 then (
  Q .ret [(4, .bool false)] ω6)
  else (
  k (emb4 s1_0 s2_1 t12 (w64 (t13 + 1))) ω6))
  else (
  Q (.exit 0) (x0) w)) := by kernel_rfl
theorem B4_s (s1_0 : Sl) (s2_1 : Sl) (t12 : Int) (t13 : Int) (w : World) (k : Env → World → Prop) (Q : Exit → Env → World → Prop) : B4 std s1_0 s2_1 t12 t13 w k Q = (
  bif decide (t13 < t12) then (
  idxK 1 s1_0 t13 fun (a2 : Addr) =>
  load1 (.int .i64) a2 w fun (ξ3 : Int) =>
  idxK 1 s2_1 t13 fun (a4 : Addr) =>
  load1 (.int .i64) a4 w fun (ξ5 : Int) =>
  drewAll w fun ω6 =>
  bif ξ3 != ξ5 then (
  Q .ret [(4, .bool false)] ω6)
  else (
  k (emb4 s1_0 s2_1 t12 (w64 (t13 + 1))) ω6))
  else (
  Q (.exit 0) (x0) w)) := B4_eq std s1_0 s2_1 t12 t13 w k Q
theorem L4_rule (s1_0 : Sl) (s2_1 : Sl) (t12 : Int) (t13 : Int) (w : World) (Q : Exit → Env → World → Prop) (I : Int → World → Prop) (μ : Int → World → Nat) (h0 : I t13 w)
    (h : ∀ (t13 : Int) (w' : World), I t13 w' → B4 std s1_0 s2_1 t12 t13 w' (fun e2 w2 => ∃ t13_n, e2 = emb4 s1_0 s2_1 t12 t13_n ∧ I t13_n w2 ∧ μ t13_n w2 < μ t13 w') Q) :
    L4 std s1_0 s2_1 t12 t13 w Q := by
  unfold L4
  refine LoopE.intro (σ := Int) (step := S4 std Q) (fun s => emb4 s1_0 s2_1 t12 s) (fun s w => I s w) (fun s w => μ s w) t13 rfl h0 ?_
  intro s w' hI
  have h1 := h s w' hI
  unfold B4 at h1
  exact h1
theorem A4_0_eq (pr : Prims) (w : World) (R : Ending → World → Prop) : (q1 pr R) (.exit 0) (x0) w = (
  R (.returned (.bool true)) w) := by kernel_rfl
theorem A4_0_s (w : World) (R : Ending → World → Prop) : (q1 std R) (.exit 0) (x0) w = (
  R (.returned (.bool true)) w) := A4_0_eq std w R
theorem R4_eq (pr : Prims) (v4 : Value) (w : World) (R : Ending → World → Prop) : (q1 pr R) .ret [(4, v4)] w = (
  R (.returned (v4)) w) := by kernel_rfl
theorem R4_s (v4 : Value) (w : World) (R : Ending → World → Prop) : (q1 std R) .ret [(4, v4)] w = (
  R (.returned (v4)) w) := R4_eq std v4 w R
theorem E_eq (pr : Prims) (s1_0 : Sl) (s2_1 : Sl) (w : World) (R : Ending → World → Prop) : E pr s1_0 s2_1 w R = (
  bif (s1_0.n : Int) != (s2_1.n : Int) then (
  R (.returned (.bool false)) w)
  else (
  L4 pr s1_0 s2_1 (s1_0.n : Int) 0 w (q1 pr R))) := by kernel_rfl
theorem E_s (s1_0 : Sl) (s2_1 : Sl) (w : World) (R : Ending → World → Prop) : E std s1_0 s2_1 w R = (
  bif (s1_0.n : Int) != (s2_1.n : Int) then (
  R (.returned (.bool false)) w)
  else (
  L4 std s1_0 s2_1 (s1_0.n : Int) 0 w (q1 std R))) := E_eq std s1_0 s2_1 w R
theorem drawsOk : drawsOk PP cfg okD (codeOf Try.f72) = true := by kernel_rfl
theorem calls (s1_0 : Sl) (s2_1 : Sl) {w : World} {R : Ending → World → Prop} (h : E std s1_0 s2_1 w R) : Calls PP F.slices_Equal___int_int_ #[Sl.v s1_0, Sl.v s2_1] w R :=
  calls_of noCount mixed drawOk Try.func72 rfl (c := cfg) (args := [Sl.v s1_0, Sl.v s2_1]) rfl (Nat.le_of_ble_eq_true (by kernel_rfl)) drawsOk h
end slices_Equal___int_int_

end Go.Proofs.Ytliabbhfagfagaa
