/- What each function does, step by step, written by a program (Gen.lean); each equation is checked by the kernel. -/
import Derived.Test.YtliabbhfagfagaaHead
namespace Go.Proofs.Ytliabbhfagfagaa
open Go
set_option linter.unusedVariables false
set_option maxRecDepth 100000
namespace laws_FnExactCountLongestUp
@[reducible] def cfg : Cfg := ⟨24, [], [], [], [2], [], [73, 46, 18, 22, 43, 45, 72, 88, 85, 80, 81, 70], [56, 63, 74, 86, 89, 64]⟩
def E (pr : Prims) (aP_0 : Sl) (w : World) (R : Ending → World → Prop) : Prop :=
  wpC pr PP cfg (DD pr) (codeOf Try.f10) (retQ Try.f10.results.toList R) (argE 0 [Sl.v aP_0]) w
theorem E_eq (pr : Prims) (aP_0 : Sl) (w : World) (R : Ending → World → Prop) : E pr aP_0 w R = (
  bif decide ((aP_0.n : Int) > 1048576) then (
  R (.returned (.bool true)) w)
  else (
  pr.call1 .sl PP F.laws_toIntS #[Sl.v aP_0] w fun (ρ0 : Sl) ω1 =>
  pr.call1 (.int .i64) PP F.spec_CountLongestUp #[Sl.v ρ0] ω1 fun (ρ2 : Int) ω3 =>
  pr.call1 .sl PP F.laws_toIntS #[Sl.v aP_0] ω3 fun (ρ4 : Sl) ω5 =>
  pr.call1 (.int .i64) PP F.impl_CountLongestUp #[Sl.v ρ4] ω5 fun (ρ6 : Int) ω7 =>
  bif ρ6 != ρ2 then (
  R (.returned (.bool false)) ω7)
  else (
  pr.call1 .sl PP F.laws_toIntS #[Sl.v aP_0] ω7 fun (ρ8 : Sl) ω9 =>
  pr.call1 .bool PP F.laws_eqIntS #[Sl.v ρ4, Sl.v ρ8] ω9 fun (ρ10 : Bool) ω11 =>
  bif !ρ10 then (
  R (.returned (.bool false)) ω11)
  else (
  R (.returned (.bool true)) ω11)))) := by kernel_rfl
theorem E_s (aP_0 : Sl) (w : World) (R : Ending → World → Prop) : E std aP_0 w R = (
  bif decide ((aP_0.n : Int) > 1048576) then (
  R (.returned (.bool true)) w)
  else (
  call1 .sl PP F.laws_toIntS #[Sl.v aP_0] w fun (ρ0 : Sl) ω1 =>
  call1 (.int .i64) PP F.spec_CountLongestUp #[Sl.v ρ0] ω1 fun (ρ2 : Int) ω3 =>
  call1 .sl PP F.laws_toIntS #[Sl.v aP_0] ω3 fun (ρ4 : Sl) ω5 =>
  call1 (.int .i64) PP F.impl_CountLongestUp #[Sl.v ρ4] ω5 fun (ρ6 : Int) ω7 =>
  bif ρ6 != ρ2 then (
  R (.returned (.bool false)) ω7)
  else (
  call1 .sl PP F.laws_toIntS #[Sl.v aP_0] ω7 fun (ρ8 : Sl) ω9 =>
  call1 .bool PP F.laws_eqIntS #[Sl.v ρ4, Sl.v ρ8] ω9 fun (ρ10 : Bool) ω11 =>
  bif !ρ10 then (
  R (.returned (.bool false)) ω11)
  else (
  R (.returned (.bool true)) ω11)))) := E_eq std aP_0 w R
theorem drawsOk : drawsOk PP cfg okD (codeOf Try.f10) = true := by kernel_rfl
theorem calls (aP_0 : Sl) {w : World} {R : Ending → World → Prop} (h : E std aP_0 w R) : Calls PP F.laws_FnExactCountLongestUp #[Sl.v aP_0] w R :=
  calls_of noCount mixed drawOk Try.func10 rfl (c := cfg) (args := [Sl.v aP_0]) rfl (Nat.le_of_ble_eq_true (by kernel_rfl)) drawsOk h
end laws_FnExactCountLongestUp

namespace laws_FnExactFirstLongestUp
@[reducible] def cfg : Cfg := ⟨66, [], [], [], [2], [], [73, 46, 18, 22, 43, 45, 72, 88, 85, 80, 81, 70], [56, 63, 74, 86, 89, 64]⟩
def E (pr : Prims) (aP_0 : Sl) (w : World) (R : Ending → World → Prop) : Prop :=
  wpC pr PP cfg (DD pr) (codeOf Try.f11) (retQ Try.f11.results.toList R) (argE 0 [Sl.v aP_0]) w
theorem E_eq (pr : Prims) (aP_0 : Sl) (w : World) (R : Ending → World → Prop) : E pr aP_0 w R = (
  bif decide ((aP_0.n : Int) > 1048576) then (
  R (.returned (.bool true)) w)
  else (
  pr.call1 .sl PP F.laws_toIntS #[Sl.v aP_0] w fun (ρ0 : Sl) ω1 =>
  pr.call1 .sl PP F.spec_FirstLongestUp #[Sl.v ρ0] ω1 fun (ρ2 : Sl) ω3 =>
  pr.call1 .sl PP F.laws_toIntS #[Sl.v aP_0] ω3 fun (ρ4 : Sl) ω5 =>
  pr.call1 .sl PP F.impl_FirstLongestUp #[Sl.v ρ4] ω5 fun (ρ6 : Sl) ω7 =>
  pr.call1 .bool PP F.laws_eqIntS #[Sl.v ρ6, Sl.v ρ2] ω7 fun (ρ8 : Bool) ω9 =>
  bif !ρ8 then (
  R (.returned (.bool false)) ω9)
  else (
  pr.call1 .sl PP F.laws_toIntS #[Sl.v aP_0] ω9 fun (ρ10 : Sl) ω11 =>
  pr.call1 .bool PP F.laws_eqIntS #[Sl.v ρ4, Sl.v ρ10] ω11 fun (ρ12 : Bool) ω13 =>
  bif !ρ12 then (
  R (.returned (.bool false)) ω13)
  else (
  pr.call1 (.int .i64) PP F.laws_markIntS #[Sl.v ρ4, vI 1] ω13 fun (ρ14 : Int) ω15 =>
  bif decide (ρ14 < 0) then (
  R (.returned (.bool false)) ω15)
  else (
  pr.call1 .bool PP F.laws_eqIntS #[Sl.v ρ6, Sl.v ρ2] ω15 fun (ρ16 : Bool) ω17 =>
  bif !ρ16 then (
  R (.returned (.bool false)) ω17)
  else (
  pr.call1 (.int .i64) PP F.laws_markIntS #[Sl.v ρ6, vI 1] ω17 fun (ρ18 : Int) ω19 =>
  pr.call1 (.int .i64) PP F.laws_heldIntS #[Sl.v ρ6, vI 1] ω19 fun (ρ20 : Int) ω21 =>
  bif decide (ρ20 < 0) then (
  R (.returned (.bool false)) ω21)
  else (
  bif ρ20 != ρ18 then (
  R (.returned (.bool false)) ω21)
  else (
  pr.call1 .sl PP F.laws_toIntS #[Sl.v aP_0] ω21 fun (ρ22 : Sl) ω23 =>
  pr.call1 .sl PP F.impl_FirstLongestUp #[Sl.v ρ22] ω23 fun (ρ24 : Sl) ω25 =>
  pr.call1 .bool PP F.laws_eqIntS #[Sl.v ρ24, Sl.v ρ2] ω25 fun (ρ26 : Bool) ω27 =>
  bif !ρ26 then (
  R (.returned (.bool false)) ω27)
  else (
  pr.call1 (.int .i64) PP F.laws_heldIntS #[Sl.v ρ6, vI 1] ω27 fun (ρ28 : Int) ω29 =>
  bif decide (ρ28 < 0) then (
  R (.returned (.bool false)) ω29)
  else (
  bif ρ28 != ρ18 then (
  R (.returned (.bool false)) ω29)
  else (
  R (.returned (.bool true)) ω29))))))))))) := by kernel_rfl
theorem E_s (aP_0 : Sl) (w : World) (R : Ending → World → Prop) : E std aP_0 w R = (
  bif decide ((aP_0.n : Int) > 1048576) then (
  R (.returned (.bool true)) w)
  else (
  call1 .sl PP F.laws_toIntS #[Sl.v aP_0] w fun (ρ0 : Sl) ω1 =>
  call1 .sl PP F.spec_FirstLongestUp #[Sl.v ρ0] ω1 fun (ρ2 : Sl) ω3 =>
  call1 .sl PP F.laws_toIntS #[Sl.v aP_0] ω3 fun (ρ4 : Sl) ω5 =>
  call1 .sl PP F.impl_FirstLongestUp #[Sl.v ρ4] ω5 fun (ρ6 : Sl) ω7 =>
  call1 .bool PP F.laws_eqIntS #[Sl.v ρ6, Sl.v ρ2] ω7 fun (ρ8 : Bool) ω9 =>
  bif !ρ8 then (
  R (.returned (.bool false)) ω9)
  else (
  call1 .sl PP F.laws_toIntS #[Sl.v aP_0] ω9 fun (ρ10 : Sl) ω11 =>
  call1 .bool PP F.laws_eqIntS #[Sl.v ρ4, Sl.v ρ10] ω11 fun (ρ12 : Bool) ω13 =>
  bif !ρ12 then (
  R (.returned (.bool false)) ω13)
  else (
  call1 (.int .i64) PP F.laws_markIntS #[Sl.v ρ4, vI 1] ω13 fun (ρ14 : Int) ω15 =>
  bif decide (ρ14 < 0) then (
  R (.returned (.bool false)) ω15)
  else (
  call1 .bool PP F.laws_eqIntS #[Sl.v ρ6, Sl.v ρ2] ω15 fun (ρ16 : Bool) ω17 =>
  bif !ρ16 then (
  R (.returned (.bool false)) ω17)
  else (
  call1 (.int .i64) PP F.laws_markIntS #[Sl.v ρ6, vI 1] ω17 fun (ρ18 : Int) ω19 =>
  call1 (.int .i64) PP F.laws_heldIntS #[Sl.v ρ6, vI 1] ω19 fun (ρ20 : Int) ω21 =>
  bif decide (ρ20 < 0) then (
  R (.returned (.bool false)) ω21)
  else (
  bif ρ20 != ρ18 then (
  R (.returned (.bool false)) ω21)
  else (
  call1 .sl PP F.laws_toIntS #[Sl.v aP_0] ω21 fun (ρ22 : Sl) ω23 =>
  call1 .sl PP F.impl_FirstLongestUp #[Sl.v ρ22] ω23 fun (ρ24 : Sl) ω25 =>
  call1 .bool PP F.laws_eqIntS #[Sl.v ρ24, Sl.v ρ2] ω25 fun (ρ26 : Bool) ω27 =>
  bif !ρ26 then (
  R (.returned (.bool false)) ω27)
  else (
  call1 (.int .i64) PP F.laws_heldIntS #[Sl.v ρ6, vI 1] ω27 fun (ρ28 : Int) ω29 =>
  bif decide (ρ28 < 0) then (
  R (.returned (.bool false)) ω29)
  else (
  bif ρ28 != ρ18 then (
  R (.returned (.bool false)) ω29)
  else (
  R (.returned (.bool true)) ω29))))))))))) := E_eq std aP_0 w R
theorem drawsOk : drawsOk PP cfg okD (codeOf Try.f11) = true := by kernel_rfl
theorem calls (aP_0 : Sl) {w : World} {R : Ending → World → Prop} (h : E std aP_0 w R) : Calls PP F.laws_FnExactFirstLongestUp #[Sl.v aP_0] w R :=
  calls_of noCount mixed drawOk Try.func11 rfl (c := cfg) (args := [Sl.v aP_0]) rfl (Nat.le_of_ble_eq_true (by kernel_rfl)) drawsOk h
end laws_FnExactFirstLongestUp

namespace spec_CountLongestUp
@[reducible] def cfg : Cfg := ⟨14, [], [], [], [2], [], [73, 46, 18, 22, 43, 45, 72, 88, 85, 80, 81, 70], [56, 63, 74, 86, 89, 64]⟩
def E (pr : Prims) (p_0 : Sl) (w : World) (R : Ending → World → Prop) : Prop :=
  wpC pr PP cfg (DD pr) (codeOf Try.f33) (retQ Try.f33.results.toList R) (argE 0 [Sl.v p_0]) w
theorem E_eq (pr : Prims) (p_0 : Sl) (w : World) (R : Ending → World → Prop) : E pr p_0 w R = (
  pr.call1 .bool PP F.spec_IsPerm #[Sl.v p_0] w fun (ρ0 : Bool) ω1 =>
  bif !ρ0 then (
  R (.returned (vI (-1))) ω1)
  else (
  pr.call1 (.int .i64) PP F.spec_l20Up #[Sl.v p_0] ω1 fun (ρ2 : Int) ω3 =>
  pr.call1 .sl PP F.spec_IdentityPerm #[vI ρ2] ω3 fun (ρ4 : Sl) ω5 =>
  pr.sem1 .sl PP (Instr.buildSlice T_Sint 0 #[]) ω5 fun (ρ6 : Sl) ω7 =>
  pr.sem1 .sl PP (Instr.buildSlice T_SSint 0 #[]) ω7 fun (ρ8 : Sl) ω9 =>
  pr.call1 .sl PP F.spec_l7Find #[Sl.v p_0, Sl.v ρ4, Sl.v ρ6, Sl.v ρ8] ω9 fun (ρ10 : Sl) ω11 =>
  R (.returned (vI (ρ10.n : Int))) ω11)) := by kernel_rfl
theorem E_s (p_0 : Sl) (w : World) (R : Ending → World → Prop) : E std p_0 w R = (
  call1 .bool PP F.spec_IsPerm #[Sl.v p_0] w fun (ρ0 : Bool) ω1 =>
  bif !ρ0 then (
  R (.returned (vI (-1))) ω1)
  else (
  call1 (.int .i64) PP F.spec_l20Up #[Sl.v p_0] ω1 fun (ρ2 : Int) ω3 =>
  call1 .sl PP F.spec_IdentityPerm #[vI ρ2] ω3 fun (ρ4 : Sl) ω5 =>
  sem1 .sl PP (Instr.buildSlice T_Sint 0 #[]) ω5 fun (ρ6 : Sl) ω7 =>
  sem1 .sl PP (Instr.buildSlice T_SSint 0 #[]) ω7 fun (ρ8 : Sl) ω9 =>
  call1 .sl PP F.spec_l7Find #[Sl.v p_0, Sl.v ρ4, Sl.v ρ6, Sl.v ρ8] ω9 fun (ρ10 : Sl) ω11 =>
  R (.returned (vI (ρ10.n : Int))) ω11)) := E_eq std p_0 w R
theorem drawsOk : drawsOk PP cfg okD (codeOf Try.f33) = true := by kernel_rfl
theorem calls (p_0 : Sl) {w : World} {R : Ending → World → Prop} (h : E std p_0 w R) : Calls PP F.spec_CountLongestUp #[Sl.v p_0] w R :=
  calls_of noCount mixed drawOk Try.func33 rfl (c := cfg) (args := [Sl.v p_0]) rfl (Nat.le_of_ble_eq_true (by kernel_rfl)) drawsOk h
end spec_CountLongestUp

namespace impl_CountLongestUp
@[reducible] def cfg : Cfg := ⟨38, [(8, [0, 4, 5, 19, 20, 21])], [(1, [0, 4, 5, 19, 20, 21]), (0, [5])], [], [2], [], [73, 46, 18, 22, 43, 45, 72, 88, 85, 80, 81, 70], [56, 63, 74, 86, 89, 64]⟩
def q5 (pr : Prims) (R : Ending → World → Prop) : Exit → Env → World → Prop := fun ex e w => normQ ex (fun e w => contE pr cfg (sub (codeOf Try.f34) [1, 1, 1, 1, 1, 1]) (fun e w => wpC pr PP cfg (DD pr) (sub (codeOf Try.f34) [1, 1, 1, 1, 1, 1]) (retQ Try.f34.results.toList R) e w) e w) (retQ Try.f34.results.toList R) e w
def q6 (pr : Prims) (R : Ending → World → Prop) : Exit → Env → World → Prop := fun ex e w => blockQ ex 0 (q5 pr R) e w
def emb8 (p_0 : Sl) (many_4 : Sl) (sum_5 : Int) (t19 : Sl) (t20 : Int) (t21 : Int) : Env := [(0, Sl.v p_0), (4, Sl.v many_4), (5, vI sum_5), (19, Sl.v t19), (20, vI t20), (21, vI t21)]
def x0 (sum_5 : Int) : Env := [(5, vI sum_5)]
def S8 (pr : Prims) (Q : Exit → Env → World → Prop) : (Env → World → Prop) → Env → World → Prop := fun k e w => wpC pr PP cfg (DD pr) (sub (codeOf Try.f34) [1, 1, 1, 1, 1, 0, 1, 0, 0]) (fun ex e w => normQ ex (fun e' w' => k (Env.restr e' (lookN cfg.loops (keyOf (sub (codeOf Try.f34) [1, 1, 1, 1, 1, 0, 1, 0, 0])))) w') Q e w) e w
def B8 (pr : Prims) (p_0 : Sl) (many_4 : Sl) (sum_5 : Int) (t19 : Sl) (t20 : Int) (t21 : Int) (w : World) (k : Env → World → Prop) (Q : Exit → Env → World → Prop) : Prop :=
  S8 pr Q k (emb8 p_0 many_4 sum_5 t19 t20 t21) w
def L8 (pr : Prims) (p_0 : Sl) (many_4 : Sl) (sum_5 : Int) (t19 : Sl) (t20 : Int) (t21 : Int) (w : World) (Q : Exit → Env → World → Prop) : Prop :=
  pr.loop (S8 pr Q) (emb8 p_0 many_4 sum_5 t19 t20 t21) w
def E (pr : Prims) (p_0 : Sl) (w : World) (R : Ending → World → Prop) : Prop :=
  wpC pr PP cfg (DD pr) (codeOf Try.f34) (retQ Try.f34.results.toList R) (argE 0 [Sl.v p_0]) w
theorem B8_eq (pr : Prims) (p_0 : Sl) (many_4 : Sl) (sum_5 : Int) (t19 : Sl) (t20 : Int) (t21 : Int) (w : World) (k : Env → World → Prop) (Q : Exit → Env → World → Prop) : B8 pr p_0 many_4 sum_5 t19 t20 t21 w k Q = (
  bif decide (t21 < t20) then (
  pr.idxK 1 t19 t21 fun (a7 : Addr) =>
  pr.load1 (.int .i64) a7 w fun (ξ8 : Int) =>
  pr.call1 (.int .i64) PP F.impl_longestUp #[Sl.v p_0] w fun (ρ9 : Int) ω10 =>
  bif ξ8 == ρ9 then (
  pr.idxK 1 many_4 t21 fun (a11 : Addr) =>
  pr.load1 (.int .i64) a11 ω10 fun (ξ12 : Int) =>
  k (emb8 p_0 many_4 (w64 (sum_5 + ξ12)) t19 t20 (w64 (t21 + 1))) ω10)
  else (
  k (emb8 p_0 many_4 sum_5 t19 t20 (w64 (t21 + 1))) ω10))
  else (
  Q (.exit 0) (x0 sum_5) w)) := by kernel_rfl
theorem B8_s (p_0 : Sl) (many_4 : Sl) (sum_5 : Int) (t19 : Sl) (t20 : Int) (t21 : Int) (w : World) (k : Env → World → Prop) (Q : Exit → Env → World → Prop) : B8 std p_0 many_4 sum_5 t19 t20 t21 w k Q = (
  bif decide (t21 < t20) then (
  idxK 1 t19 t21 fun (a7 : Addr) =>
  load1 (.int .i64) a7 w fun (ξ8 : Int) =>
  call1 (.int .i64) PP F.impl_longestUp #[Sl.v p_0] w fun (ρ9 : Int) ω10 =>
  bif ξ8 == ρ9 then (
  idxK 1 many_4 t21 fun (a11 : Addr) =>
  load1 (.int .i64) a11 ω10 fun (ξ12 : Int) =>
  k (emb8 p_0 many_4 (w64 (sum_5 + ξ12)) t19 t20 (w64 (t21 + 1))) ω10)
  else (
  k (emb8 p_0 many_4 sum_5 t19 t20 (w64 (t21 + 1))) ω10))
  else (
  Q (.exit 0) (x0 sum_5) w)) := B8_eq std p_0 many_4 sum_5 t19 t20 t21 w k Q
theorem L8_rule (p_0 : Sl) (many_4 : Sl) (sum_5 : Int) (t19 : Sl) (t20 : Int) (t21 : Int) (w : World) (Q : Exit → Env → World → Prop) (I : Int → Int → World → Prop) (μ : Int → Int → World → Nat) (h0 : I sum_5 t21 w)
    (h : ∀ (sum_5 : Int) (t21 : Int) (w' : World), I sum_5 t21 w' → B8 std p_0 many_4 sum_5 t19 t20 t21 w' (fun e2 w2 => ∃ sum_5_n t21_n, e2 = emb8 p_0 many_4 sum_5_n t19 t20 t21_n ∧ I sum_5_n t21_n w2 ∧ μ sum_5_n t21_n w2 < μ sum_5 t21 w') Q) :
    L8 std p_0 many_4 sum_5 t19 t20 t21 w Q := by
  unfold L8
  refine LoopE.intro (σ := Int × Int) (step := S8 std Q) (fun s => emb8 p_0 many_4 s.1 t19 t20 s.2) (fun s w => I s.1 s.2 w) (fun s w => μ s.1 s.2 w) (sum_5, t21) rfl h0 ?_
  intro s w' hI
  have h1 := h s.1 s.2 w' hI
  unfold B8 at h1
  simp only [Prod.exists]
  exact h1
theorem A8_0_eq (pr : Prims) (sum_5 : Int) (w : World) (R : Ending → World → Prop) : (q6 pr R) (.exit 0) (x0 sum_5) w = (
  R (.returned (vI sum_5)) w) := by kernel_rfl
theorem A8_0_s (sum_5 : Int) (w : World) (R : Ending → World → Prop) : (q6 std R) (.exit 0) (x0 sum_5) w = (
  R (.returned (vI sum_5)) w) := A8_0_eq std sum_5 w R
theorem E_eq (pr : Prims) (p_0 : Sl) (w : World) (R : Ending → World → Prop) : E pr p_0 w R = (
  pr.call1 .bool PP F.impl_IsPerm #[Sl.v p_0] w fun (ρ0 : Bool) ω1 =>
  bif !ρ0 then (
  R (.returned (vI (-1))) ω1)
  else (
  bif (p_0.n : Int) == 0 then (
  R (.returned (vI 1)) ω1)
  else (
  pr.call2 .sl .sl PP F.impl_lengths #[Sl.v p_0] ω1 fun (ρ2 : Sl) (ρ3 : Sl) ω4 =>
  L8 pr p_0 ρ3 0 ρ2 (ρ2.n : Int) 0 ω4 (q6 pr R)))) := by kernel_rfl
theorem E_s (p_0 : Sl) (w : World) (R : Ending → World → Prop) : E std p_0 w R = (
  call1 .bool PP F.impl_IsPerm #[Sl.v p_0] w fun (ρ0 : Bool) ω1 =>
  bif !ρ0 then (
  R (.returned (vI (-1))) ω1)
  else (
  bif (p_0.n : Int) == 0 then (
  R (.returned (vI 1)) ω1)
  else (
  call2 .sl .sl PP F.impl_lengths #[Sl.v p_0] ω1 fun (ρ2 : Sl) (ρ3 : Sl) ω4 =>
  L8 std p_0 ρ3 0 ρ2 (ρ2.n : Int) 0 ω4 (q6 std R)))) := E_eq std p_0 w R
theorem drawsOk : drawsOk PP cfg okD (codeOf Try.f34) = true := by kernel_rfl
theorem calls (p_0 : Sl) {w : World} {R : Ending → World → Prop} (h : E std p_0 w R) : Calls PP F.impl_CountLongestUp #[Sl.v p_0] w R :=
  calls_of noCount mixed drawOk Try.func34 rfl (c := cfg) (args := [Sl.v p_0]) rfl (Nat.le_of_ble_eq_true (by kernel_rfl)) drawsOk h
end impl_CountLongestUp

namespace spec_FirstLongestUp
@[reducible] def cfg : Cfg := ⟨18, [], [], [], [2], [], [73, 46, 18, 22, 43, 45, 72, 88, 85, 80, 81, 70], [56, 63, 74, 86, 89, 64]⟩
def E (pr : Prims) (p_0 : Sl) (w : World) (R : Ending → World → Prop) : Prop :=
  wpC pr PP cfg (DD pr) (codeOf Try.f35) (retQ Try.f35.results.toList R) (argE 0 [Sl.v p_0]) w
theorem E_eq (pr : Prims) (p_0 : Sl) (w : World) (R : Ending → World → Prop) : E pr p_0 w R = (
  pr.call1 .bool PP F.spec_IsPerm #[Sl.v p_0] w fun (ρ0 : Bool) ω1 =>
  bif !ρ0 then (
  pr.sem1 .sl PP (Instr.buildSlice T_Sint 0 #[]) ω1 fun (ρ2 : Sl) ω3 =>
  R (.returned (Sl.v ρ2)) ω3)
  else (
  pr.call1 (.int .i64) PP F.spec_l20Up #[Sl.v p_0] ω1 fun (ρ4 : Int) ω5 =>
  pr.call1 .sl PP F.spec_IdentityPerm #[vI ρ4] ω5 fun (ρ6 : Sl) ω7 =>
  pr.sem1 .sl PP (Instr.buildSlice T_Sint 0 #[]) ω7 fun (ρ8 : Sl) ω9 =>
  pr.sem1 .sl PP (Instr.buildSlice T_SSint 0 #[]) ω9 fun (ρ10 : Sl) ω11 =>
  pr.call1 .sl PP F.spec_l7Find #[Sl.v p_0, Sl.v ρ6, Sl.v ρ8, Sl.v ρ10] ω11 fun (ρ12 : Sl) ω13 =>
  pr.idxK 1 ρ12 0 fun (a14 : Addr) =>
  pr.load1 .sl a14 ω13 fun (ξ15 : Sl) =>
  R (.returned (Sl.v ξ15)) ω13)) := by kernel_rfl
theorem E_s (p_0 : Sl) (w : World) (R : Ending → World → Prop) : E std p_0 w R = (
  call1 .bool PP F.spec_IsPerm #[Sl.v p_0] w fun (ρ0 : Bool) ω1 =>
  bif !ρ0 then (
  sem1 .sl PP (Instr.buildSlice T_Sint 0 #[]) ω1 fun (ρ2 : Sl) ω3 =>
  R (.returned (Sl.v ρ2)) ω3)
  else (
  call1 (.int .i64) PP F.spec_l20Up #[Sl.v p_0] ω1 fun (ρ4 : Int) ω5 =>
  call1 .sl PP F.spec_IdentityPerm #[vI ρ4] ω5 fun (ρ6 : Sl) ω7 =>
  sem1 .sl PP (Instr.buildSlice T_Sint 0 #[]) ω7 fun (ρ8 : Sl) ω9 =>
  sem1 .sl PP (Instr.buildSlice T_SSint 0 #[]) ω9 fun (ρ10 : Sl) ω11 =>
  call1 .sl PP F.spec_l7Find #[Sl.v p_0, Sl.v ρ6, Sl.v ρ8, Sl.v ρ10] ω11 fun (ρ12 : Sl) ω13 =>
  idxK 1 ρ12 0 fun (a14 : Addr) =>
  load1 .sl a14 ω13 fun (ξ15 : Sl) =>
  R (.returned (Sl.v ξ15)) ω13)) := E_eq std p_0 w R
theorem drawsOk : drawsOk PP cfg okD (codeOf Try.f35) = true := by kernel_rfl
theorem calls (p_0 : Sl) {w : World} {R : Ending → World → Prop} (h : E std p_0 w R) : Calls PP F.spec_FirstLongestUp #[Sl.v p_0] w R :=
  calls_of noCount mixed drawOk Try.func35 rfl (c := cfg) (args := [Sl.v p_0]) rfl (Nat.le_of_ble_eq_true (by kernel_rfl)) drawsOk h
end spec_FirstLongestUp

namespace impl_FirstLongestUp
@[reducible] def cfg : Cfg := ⟨53, [(7, [3, 5, 6, 7, 21, 22, 23])], [(1, [3, 5, 6, 7, 21, 22, 23]), (0, [5])], [], [2], [], [73, 46, 18, 22, 43, 45, 72, 88, 85, 80, 81, 70], [56, 63, 74, 86, 89, 64]⟩
def q9 (pr : Prims) (R : Ending → World → Prop) : Exit → Env → World → Prop := fun ex e w => normQ ex (fun e w => contE pr cfg (sub (codeOf Try.f36) [1, 1, 1, 1, 1, 1]) (fun e w => wpC pr PP cfg (DD pr) (sub (codeOf Try.f36) [1, 1, 1, 1, 1, 1]) (retQ Try.f36.results.toList R) e w) e w) (retQ Try.f36.results.toList R) e w
def q10 (pr : Prims) (R : Ending → World → Prop) : Exit → Env → World → Prop := fun ex e w => blockQ ex 0 (q9 pr R) e w
def emb7 (long_3 : Sl) (out_5 : Sl) (want_6 : Int) (last_7 : Int) (t21 : Sl) (t22 : Int) (t23 : Int) : Env := [(3, Sl.v long_3), (5, Sl.v out_5), (6, vI want_6), (7, vI last_7), (21, Sl.v t21), (22, vI t22), (23, vI t23)]
def x0 (out_5 : Sl) : Env := [(5, Sl.v out_5)]
def S7 (pr : Prims) (Q : Exit → Env → World → Prop) : (Env → World → Prop) → Env → World → Prop := fun k e w => wpC pr PP cfg (DD pr) (sub (codeOf Try.f36) [1, 1, 1, 1, 1, 0, 1, 0, 0]) (fun ex e w => normQ ex (fun e' w' => k (Env.restr e' (lookN cfg.loops (keyOf (sub (codeOf Try.f36) [1, 1, 1, 1, 1, 0, 1, 0, 0])))) w') Q e w) e w
def B7 (pr : Prims) (long_3 : Sl) (out_5 : Sl) (want_6 : Int) (last_7 : Int) (t21 : Sl) (t22 : Int) (t23 : Int) (w : World) (k : Env → World → Prop) (Q : Exit → Env → World → Prop) : Prop :=
  S7 pr Q k (emb7 long_3 out_5 want_6 last_7 t21 t22 t23) w
def L7 (pr : Prims) (long_3 : Sl) (out_5 : Sl) (want_6 : Int) (last_7 : Int) (t21 : Sl) (t22 : Int) (t23 : Int) (w : World) (Q : Exit → Env → World → Prop) : Prop :=
  pr.loop (S7 pr Q) (emb7 long_3 out_5 want_6 last_7 t21 t22 t23) w
def E (pr : Prims) (p_0 : Sl) (w : World) (R : Ending → World → Prop) : Prop :=
  wpC pr PP cfg (DD pr) (codeOf Try.f36) (retQ Try.f36.results.toList R) (argE 0 [Sl.v p_0]) w
theorem B7_eq (pr : Prims) (long_3 : Sl) (out_5 : Sl) (want_6 : Int) (last_7 : Int) (t21 : Sl) (t22 : Int) (t23 : Int) (w : World) (k : Env → World → Prop) (Q : Exit → Env → World → Prop) : B7 pr long_3 out_5 want_6 last_7 t21 t22 t23 w k Q = (
  bif decide (t23 < t22) then (
  pr.idxK 1 t21 t23 fun (a11 : Addr) =>
  pr.load1 (.int .i64) a11 w fun (ξ12 : Int) =>
  bif decide (want_6 > 0) then (
  pr.idxK 1 long_3 t23 fun (a13 : Addr) =>
  pr.load1 (.int .i64) a13 w fun (ξ14 : Int) =>
  bif ξ14 == want_6 then (
  bif decide (ξ12 > last_7) then (
  pr.sem1 .sl PP (Instr.buildSlice T_Sint 1 #[(0, vI (w64 (t23 + 1)))]) w fun (ρ15 : Sl) ω16 =>
  pr.sem1 .sl PP (Builtin.append_ #[T_Sint, T_Sint] T_Sint #[Sl.v out_5, Sl.v ρ15]) ω16 fun (ρ17 : Sl) ω18 =>
  k (emb7 long_3 ρ17 (w64 (want_6 - 1)) ξ12 t21 t22 (w64 (t23 + 1))) ω18)
  else (
  k (emb7 long_3 out_5 want_6 last_7 t21 t22 (w64 (t23 + 1))) w))
  else (
  k (emb7 long_3 out_5 want_6 last_7 t21 t22 (w64 (t23 + 1))) w))
  else (
  k (emb7 long_3 out_5 want_6 last_7 t21 t22 (w64 (t23 + 1))) w))
  else (
  Q (.exit 0) (x0 out_5) w)) := by kernel_rfl
theorem B7_s (long_3 : Sl) (out_5 : Sl) (want_6 : Int) (last_7 : Int) (t21 : Sl) (t22 : Int) (t23 : Int) (w : World) (k : Env → World → Prop) (Q : Exit → Env → World → Prop) : B7 std long_3 out_5 want_6 last_7 t21 t22 t23 w k Q = (
  bif decide (t23 < t22) then (
  idxK 1 t21 t23 fun (a11 : Addr) =>
  load1 (.int .i64) a11 w fun (ξ12 : Int) =>
  bif decide (want_6 > 0) then (
  idxK 1 long_3 t23 fun (a13 : Addr) =>
  load1 (.int .i64) a13 w fun (ξ14 : Int) =>
  bif ξ14 == want_6 then (
  bif decide (ξ12 > last_7) then (
  sem1 .sl PP (Instr.buildSlice T_Sint 1 #[(0, vI (w64 (t23 + 1)))]) w fun (ρ15 : Sl) ω16 =>
  sem1 .sl PP (Builtin.append_ #[T_Sint, T_Sint] T_Sint #[Sl.v out_5, Sl.v ρ15]) ω16 fun (ρ17 : Sl) ω18 =>
  k (emb7 long_3 ρ17 (w64 (want_6 - 1)) ξ12 t21 t22 (w64 (t23 + 1))) ω18)
  else (
  k (emb7 long_3 out_5 want_6 last_7 t21 t22 (w64 (t23 + 1))) w))
  else (
  k (emb7 long_3 out_5 want_6 last_7 t21 t22 (w64 (t23 + 1))) w))
  else (
  k (emb7 long_3 out_5 want_6 last_7 t21 t22 (w64 (t23 + 1))) w))
  else (
  Q (.exit 0) (x0 out_5) w)) := B7_eq std long_3 out_5 want_6 last_7 t21 t22 t23 w k Q
theorem L7_rule (long_3 : Sl) (out_5 : Sl) (want_6 : Int) (last_7 : Int) (t21 : Sl) (t22 : Int) (t23 : Int) (w : World) (Q : Exit → Env → World → Prop) (I : Sl → Int → Int → Int → World → Prop) (μ : Sl → Int → Int → Int → World → Nat) (h0 : I out_5 want_6 last_7 t23 w)
    (h : ∀ (out_5 : Sl) (want_6 : Int) (last_7 : Int) (t23 : Int) (w' : World), I out_5 want_6 last_7 t23 w' → B7 std long_3 out_5 want_6 last_7 t21 t22 t23 w' (fun e2 w2 => ∃ out_5_n want_6_n last_7_n t23_n, e2 = emb7 long_3 out_5_n want_6_n last_7_n t21 t22 t23_n ∧ I out_5_n want_6_n last_7_n t23_n w2 ∧ μ out_5_n want_6_n last_7_n t23_n w2 < μ out_5 want_6 last_7 t23 w') Q) :
    L7 std long_3 out_5 want_6 last_7 t21 t22 t23 w Q := by
  unfold L7
  refine LoopE.intro (σ := Sl × Int × Int × Int) (step := S7 std Q) (fun s => emb7 long_3 s.1 s.2.1 s.2.2.1 t21 t22 s.2.2.2) (fun s w => I s.1 s.2.1 s.2.2.1 s.2.2.2 w) (fun s w => μ s.1 s.2.1 s.2.2.1 s.2.2.2 w) (out_5, want_6, last_7, t23) rfl h0 ?_
  intro s w' hI
  have h1 := h s.1 s.2.1 s.2.2.1 s.2.2.2 w' hI
  unfold B7 at h1
  simp only [Prod.exists]
  exact h1
theorem A7_0_eq (pr : Prims) (out_5 : Sl) (w : World) (R : Ending → World → Prop) : (q10 pr R) (.exit 0) (x0 out_5) w = (
  R (.returned (Sl.v out_5)) w) := by kernel_rfl
theorem A7_0_s (out_5 : Sl) (w : World) (R : Ending → World → Prop) : (q10 std R) (.exit 0) (x0 out_5) w = (
  R (.returned (Sl.v out_5)) w) := A7_0_eq std out_5 w R
theorem E_eq (pr : Prims) (p_0 : Sl) (w : World) (R : Ending → World → Prop) : E pr p_0 w R = (
  pr.call1 .bool PP F.impl_IsPerm #[Sl.v p_0] w fun (ρ0 : Bool) ω1 =>
  bif !ρ0 then (
  R (.returned (Sl.v Sl.nil)) ω1)
  else (
  pr.call2 .sl .sl PP F.impl_lengths #[Sl.v p_0] ω1 fun (ρ2 : Sl) (ρ3 : Sl) ω4 =>
  pr.sem1 .sl PP (Instr.buildSlice T_Sint 0 #[]) ω4 fun (ρ5 : Sl) ω6 =>
  pr.call1 (.int .i64) PP F.impl_longestUp #[Sl.v p_0] ω6 fun (ρ7 : Int) ω8 =>
  L7 pr ρ2 ρ5 ρ7 0 p_0 (p_0.n : Int) 0 ω8 (q10 pr R))) := by kernel_rfl
theorem E_s (p_0 : Sl) (w : World) (R : Ending → World → Prop) : E std p_0 w R = (
  call1 .bool PP F.impl_IsPerm #[Sl.v p_0] w fun (ρ0 : Bool) ω1 =>
  bif !ρ0 then (
  R (.returned (Sl.v Sl.nil)) ω1)
  else (
  call2 .sl .sl PP F.impl_lengths #[Sl.v p_0] ω1 fun (ρ2 : Sl) (ρ3 : Sl) ω4 =>
  sem1 .sl PP (Instr.buildSlice T_Sint 0 #[]) ω4 fun (ρ5 : Sl) ω6 =>
  call1 (.int .i64) PP F.impl_longestUp #[Sl.v p_0] ω6 fun (ρ7 : Int) ω8 =>
  L7 std ρ2 ρ5 ρ7 0 p_0 (p_0.n : Int) 0 ω8 (q10 std R))) := E_eq std p_0 w R
theorem drawsOk : drawsOk PP cfg okD (codeOf Try.f36) = true := by kernel_rfl
theorem calls (p_0 : Sl) {w : World} {R : Ending → World → Prop} (h : E std p_0 w R) : Calls PP F.impl_FirstLongestUp #[Sl.v p_0] w R :=
  calls_of noCount mixed drawOk Try.func36 rfl (c := cfg) (args := [Sl.v p_0]) rfl (Nat.le_of_ble_eq_true (by kernel_rfl)) drawsOk h
end impl_FirstLongestUp

end Go.Proofs.Ytliabbhfagfagaa
