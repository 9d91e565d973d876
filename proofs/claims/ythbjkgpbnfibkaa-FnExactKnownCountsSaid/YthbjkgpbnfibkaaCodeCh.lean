/- What each function does, step by step, written by a program (Gen.lean); each equation is checked by the kernel. -/
import Derived.Test.YthbjkgpbnfibkaaHead
namespace Go.Proofs.Ythbjkgpbnfibkaa
open Go
set_option linter.unusedVariables false
set_option maxRecDepth 100000
namespace impl_child
@[reducible] def cfg : Cfg := ⟨13, [], [], [], [4], [], [93, 51, 18, 26, 23, 44, 60, 19, 57, 123, 109, 126, 53, 100], [61, 85, 110, 74, 127, 120]⟩
def E (pr : Prims) (p_0 : Sl) (site_1 : Int) (w : World) (R : Ending → World → Prop) : Prop :=
  wpC pr PP cfg (DD pr) (codeOf Try.f68) (retQ Try.f68.results.toList R) (argE 0 [Sl.v p_0, vI site_1]) w
theorem E_eq (pr : Prims) (p_0 : Sl) (site_1 : Int) (w : World) (R : Ending → World → Prop) : E pr p_0 site_1 w R = (
  pr.call1 .sl PP F.slices_Clone___int_int_ #[Sl.v p_0] w fun (ρ0 : Sl) ω1 =>
  pr.sem1 .sl PP (Instr.buildSlice T_Sint 1 #[(0, vI (w64 ((p_0.n : Int) + 1)))]) ω1 fun (ρ2 : Sl) ω3 =>
  pr.call1 .sl PP F.slices_Insert___int_int_ #[Sl.v ρ0, vI site_1, Sl.v ρ2] ω3 fun (ρ4 : Sl) ω5 =>
  R (.returned (Sl.v ρ4)) ω5) := by kernel_rfl
theorem E_s (p_0 : Sl) (site_1 : Int) (w : World) (R : Ending → World → Prop) : E std p_0 site_1 w R = (
  call1 .sl PP F.slices_Clone___int_int_ #[Sl.v p_0] w fun (ρ0 : Sl) ω1 =>
  sem1 .sl PP (Instr.buildSlice T_Sint 1 #[(0, vI (w64 ((p_0.n : Int) + 1)))]) ω1 fun (ρ2 : Sl) ω3 =>
  call1 .sl PP F.slices_Insert___int_int_ #[Sl.v ρ0, vI site_1, Sl.v ρ2] ω3 fun (ρ4 : Sl) ω5 =>
  R (.returned (Sl.v ρ4)) ω5) := E_eq std p_0 site_1 w R
theorem drawsOk : drawsOk PP cfg okD (codeOf Try.f68) = true := by kernel_rfl
theorem calls (p_0 : Sl) (site_1 : Int) {w : World} {R : Ending → World → Prop} (h : E std p_0 site_1 w R) : Calls PP F.impl_child #[Sl.v p_0, vI site_1] w R :=
  calls_of noCount mixed drawOk Try.func68 rfl (c := cfg) (args := [Sl.v p_0, vI site_1]) rfl (Nat.le_of_ble_eq_true (by kernel_rfl)) drawsOk h
end impl_child

namespace spec_l14Child
@[reducible] def cfg : Cfg := ⟨19, [], [], [], [4], [], [93, 51, 18, 26, 23, 44, 60, 19, 57, 123, 109, 126, 53, 100], [61, 85, 110, 74, 127, 120]⟩
def E (pr : Prims) (p_0 : Sl) (site_1 : Int) (w : World) (R : Ending → World → Prop) : Prop :=
  wpC pr PP cfg (DD pr) (codeOf Try.f67) (retQ Try.f67.results.toList R) (argE 0 [Sl.v p_0, vI site_1]) w
theorem E_eq (pr : Prims) (p_0 : Sl) (site_1 : Int) (w : World) (R : Ending → World → Prop) : E pr p_0 site_1 w R = (
  pr.drewAll w fun ω0 =>
  pr.cutK 1 p_0 none (some site_1) fun (s1 : Sl) =>
  pr.cutK 1 p_0 (some site_1) none fun (s2 : Sl) =>
  (pr.sem1 .sl PP (Instr.buildSlice T_Sint 0 #[]) ω0 fun (ρ3 : Sl) ω4 =>
  (pr.sem1 .sl PP (Builtin.append_ #[T_Sint, T_Sint] T_Sint #[Sl.v ρ3, Sl.v s1]) ω4 fun (ρ5 : Sl) ω6 =>
  pr.sem1 .sl PP (Instr.buildSlice T_Sint 1 #[(0, vI (w64 ((p_0.n : Int) + 1)))]) ω6 fun (ρ7 : Sl) ω8 =>
  pr.sem1 .sl PP (Builtin.append_ #[T_Sint, T_Sint] T_Sint #[Sl.v ρ5, Sl.v ρ7]) ω8 fun (ρ9 : Sl) ω10 =>
  pr.sem1 .sl PP (Builtin.append_ #[T_Sint, T_Sint] T_Sint #[Sl.v ρ9, Sl.v s2]) ω10 fun (ρ11 : Sl) ω12 =>
  R (.returned (Sl.v ρ11)) ω12) ∧
  (pr.sem1 .sl PP (Instr.buildSlice T_Sint 1 #[(0, vI (w64 ((p_0.n : Int) + 1)))]) ω4 fun (ρ13 : Sl) ω14 =>
  pr.sem1 .sl PP (Builtin.append_ #[T_Sint, T_Sint] T_Sint #[Sl.v ρ3, Sl.v s1]) ω14 fun (ρ15 : Sl) ω16 =>
  pr.sem1 .sl PP (Builtin.append_ #[T_Sint, T_Sint] T_Sint #[Sl.v ρ15, Sl.v ρ13]) ω16 fun (ρ17 : Sl) ω18 =>
  pr.sem1 .sl PP (Builtin.append_ #[T_Sint, T_Sint] T_Sint #[Sl.v ρ17, Sl.v s2]) ω18 fun (ρ19 : Sl) ω20 =>
  R (.returned (Sl.v ρ19)) ω20)) ∧
  (pr.sem1 .sl PP (Instr.buildSlice T_Sint 1 #[(0, vI (w64 ((p_0.n : Int) + 1)))]) ω0 fun (ρ21 : Sl) ω22 =>
  pr.sem1 .sl PP (Instr.buildSlice T_Sint 0 #[]) ω22 fun (ρ23 : Sl) ω24 =>
  pr.sem1 .sl PP (Builtin.append_ #[T_Sint, T_Sint] T_Sint #[Sl.v ρ23, Sl.v s1]) ω24 fun (ρ25 : Sl) ω26 =>
  pr.sem1 .sl PP (Builtin.append_ #[T_Sint, T_Sint] T_Sint #[Sl.v ρ25, Sl.v ρ21]) ω26 fun (ρ27 : Sl) ω28 =>
  pr.sem1 .sl PP (Builtin.append_ #[T_Sint, T_Sint] T_Sint #[Sl.v ρ27, Sl.v s2]) ω28 fun (ρ29 : Sl) ω30 =>
  R (.returned (Sl.v ρ29)) ω30)) := by kernel_rfl
theorem E_s (p_0 : Sl) (site_1 : Int) (w : World) (R : Ending → World → Prop) : E std p_0 site_1 w R = (
  drewAll w fun ω0 =>
  cutK 1 p_0 none (some site_1) fun (s1 : Sl) =>
  cutK 1 p_0 (some site_1) none fun (s2 : Sl) =>
  (sem1 .sl PP (Instr.buildSlice T_Sint 0 #[]) ω0 fun (ρ3 : Sl) ω4 =>
  (sem1 .sl PP (Builtin.append_ #[T_Sint, T_Sint] T_Sint #[Sl.v ρ3, Sl.v s1]) ω4 fun (ρ5 : Sl) ω6 =>
  sem1 .sl PP (Instr.buildSlice T_Sint 1 #[(0, vI (w64 ((p_0.n : Int) + 1)))]) ω6 fun (ρ7 : Sl) ω8 =>
  sem1 .sl PP (Builtin.append_ #[T_Sint, T_Sint] T_Sint #[Sl.v ρ5, Sl.v ρ7]) ω8 fun (ρ9 : Sl) ω10 =>
  sem1 .sl PP (Builtin.append_ #[T_Sint, T_Sint] T_Sint #[Sl.v ρ9, Sl.v s2]) ω10 fun (ρ11 : Sl) ω12 =>
  R (.returned (Sl.v ρ11)) ω12) ∧
  (sem1 .sl PP (Instr.buildSlice T_Sint 1 #[(0, vI (w64 ((p_0.n : Int) + 1)))]) ω4 fun (ρ13 : Sl) ω14 =>
  sem1 .sl PP (Builtin.append_ #[T_Sint, T_Sint] T_Sint #[Sl.v ρ3, Sl.v s1]) ω14 fun (ρ15 : Sl) ω16 =>
  sem1 .sl PP (Builtin.append_ #[T_Sint, T_Sint] T_Sint #[Sl.v ρ15, Sl.v ρ13]) ω16 fun (ρ17 : Sl) ω18 =>
  sem1 .sl PP (Builtin.append_ #[T_Sint, T_Sint] T_Sint #[Sl.v ρ17, Sl.v s2]) ω18 fun (ρ19 : Sl) ω20 =>
  R (.returned (Sl.v ρ19)) ω20)) ∧
  (sem1 .sl PP (Instr.buildSlice T_Sint 1 #[(0, vI (w64 ((p_0.n : Int) + 1)))]) ω0 fun (ρ21 : Sl) ω22 =>
  sem1 .sl PP (Instr.buildSlice T_Sint 0 #[]) ω22 fun (ρ23 : Sl) ω24 =>
  sem1 .sl PP (Builtin.append_ #[T_Sint, T_Sint] T_Sint #[Sl.v ρ23, Sl.v s1]) ω24 fun (ρ25 : Sl) ω26 =>
  sem1 .sl PP (Builtin.append_ #[T_Sint, T_Sint] T_Sint #[Sl.v ρ25, Sl.v ρ21]) ω26 fun (ρ27 : Sl) ω28 =>
  sem1 .sl PP (Builtin.append_ #[T_Sint, T_Sint] T_Sint #[Sl.v ρ27, Sl.v s2]) ω28 fun (ρ29 : Sl) ω30 =>
  R (.returned (Sl.v ρ29)) ω30)) := E_eq std p_0 site_1 w R
theorem drawsOk : drawsOk PP cfg okD (codeOf Try.f67) = true := by kernel_rfl
theorem calls (p_0 : Sl) (site_1 : Int) {w : World} {R : Ending → World → Prop} (h : E std p_0 site_1 w R) : Calls PP F.spec_l14Child #[Sl.v p_0, vI site_1] w R :=
  calls_of noCount mixed drawOk Try.func67 rfl (c := cfg) (args := [Sl.v p_0, vI site_1]) rfl (Nat.le_of_ble_eq_true (by kernel_rfl)) drawsOk h
end spec_l14Child

namespace impl_ChildAt
@[reducible] def cfg : Cfg := ⟨27, [], [], [], [4, 5], [], [93, 51, 18, 26, 23, 44, 60, 19, 57, 123, 109, 126, 53, 100], [61, 85, 110, 74, 127, 120]⟩
def E (pr : Prims) (p_0 : Sl) (site_1 : Int) (w : World) (R : Ending → World → Prop) : Prop :=
  wpC pr PP cfg (DD pr) (codeOf Try.f28) (retQ Try.f28.results.toList R) (argE 0 [Sl.v p_0, vI site_1]) w
theorem E_eq (pr : Prims) (p_0 : Sl) (site_1 : Int) (w : World) (R : Ending → World → Prop) : E pr p_0 site_1 w R = (
  pr.call1 .bool PP F.impl_IsPerm #[Sl.v p_0] w fun (ρ0 : Bool) ω1 =>
  bif !ρ0 then (
  R (.returned (.tuple #[Sl.v Sl.nil, .bool false])) ω1)
  else (
  bif (p_0.n : Int) == 8 then (
  R (.returned (.tuple #[Sl.v Sl.nil, .bool false])) ω1)
  else (
  bif decide (site_1 < 0) then (
  R (.returned (.tuple #[Sl.v Sl.nil, .bool false])) ω1)
  else (
  bif decide (site_1 > (p_0.n : Int)) then (
  R (.returned (.tuple #[Sl.v Sl.nil, .bool false])) ω1)
  else (
  pr.call1 .sl PP F.impl_child #[Sl.v p_0, vI site_1] ω1 fun (ρ2 : Sl) ω3 =>
  R (.returned (.tuple #[Sl.v ρ2, .bool true])) ω3))))) := by kernel_rfl
theorem E_s (p_0 : Sl) (site_1 : Int) (w : World) (R : Ending → World → Prop) : E std p_0 site_1 w R = (
  call1 .bool PP F.impl_IsPerm #[Sl.v p_0] w fun (ρ0 : Bool) ω1 =>
  bif !ρ0 then (
  R (.returned (.tuple #[Sl.v Sl.nil, .bool false])) ω1)
  else (
  bif (p_0.n : Int) == 8 then (
  R (.returned (.tuple #[Sl.v Sl.nil, .bool false])) ω1)
  else (
  bif decide (site_1 < 0) then (
  R (.returned (.tuple #[Sl.v Sl.nil, .bool false])) ω1)
  else (
  bif decide (site_1 > (p_0.n : Int)) then (
  R (.returned (.tuple #[Sl.v Sl.nil, .bool false])) ω1)
  else (
  call1 .sl PP F.impl_child #[Sl.v p_0, vI site_1] ω1 fun (ρ2 : Sl) ω3 =>
  R (.returned (.tuple #[Sl.v ρ2, .bool true])) ω3))))) := E_eq std p_0 site_1 w R
theorem drawsOk : drawsOk PP cfg okD (codeOf Try.f28) = true := by kernel_rfl
theorem calls (p_0 : Sl) (site_1 : Int) {w : World} {R : Ending → World → Prop} (h : E std p_0 site_1 w R) : Calls PP F.impl_ChildAt #[Sl.v p_0, vI site_1] w R :=
  calls_of noCount mixed drawOk Try.func28 rfl (c := cfg) (args := [Sl.v p_0, vI site_1]) rfl (Nat.le_of_ble_eq_true (by kernel_rfl)) drawsOk h
end impl_ChildAt

namespace spec_ChildAt
@[reducible] def cfg : Cfg := ⟨25, [], [], [], [4, 5], [], [93, 51, 18, 26, 23, 44, 60, 19, 57, 123, 109, 126, 53, 100], [61, 85, 110, 74, 127, 120]⟩
def E (pr : Prims) (p_0 : Sl) (site_1 : Int) (w : World) (R : Ending → World → Prop) : Prop :=
  wpC pr PP cfg (DD pr) (codeOf Try.f27) (retQ Try.f27.results.toList R) (argE 0 [Sl.v p_0, vI site_1]) w
theorem E_eq (pr : Prims) (p_0 : Sl) (site_1 : Int) (w : World) (R : Ending → World → Prop) : E pr p_0 site_1 w R = (
  pr.call1 .bool PP F.spec_IsPerm #[Sl.v p_0] w fun (ρ0 : Bool) ω1 =>
  bif !ρ0 then (
  pr.sem1 .sl PP (Instr.buildSlice T_Sint 0 #[]) ω1 fun (ρ2 : Sl) ω3 =>
  R (.returned (.tuple #[Sl.v ρ2, .bool false])) ω3)
  else (
  bif (p_0.n : Int) == 8 then (
  pr.sem1 .sl PP (Instr.buildSlice T_Sint 0 #[]) ω1 fun (ρ4 : Sl) ω5 =>
  R (.returned (.tuple #[Sl.v ρ4, .bool false])) ω5)
  else (
  pr.pcall1 .bool PP F.spec_l1In #[vI site_1, vI 0, vI (p_0.n : Int)] fun (ρ6 : Bool) =>
  bif !ρ6 then (
  pr.sem1 .sl PP (Instr.buildSlice T_Sint 0 #[]) ω1 fun (ρ7 : Sl) ω8 =>
  R (.returned (.tuple #[Sl.v ρ7, .bool false])) ω8)
  else (
  pr.call1 .sl PP F.spec_l14Child #[Sl.v p_0, vI site_1] ω1 fun (ρ9 : Sl) ω10 =>
  R (.returned (.tuple #[Sl.v ρ9, .bool true])) ω10)))) := by kernel_rfl
theorem E_s (p_0 : Sl) (site_1 : Int) (w : World) (R : Ending → World → Prop) : E std p_0 site_1 w R = (
  call1 .bool PP F.spec_IsPerm #[Sl.v p_0] w fun (ρ0 : Bool) ω1 =>
  bif !ρ0 then (
  sem1 .sl PP (Instr.buildSlice T_Sint 0 #[]) ω1 fun (ρ2 : Sl) ω3 =>
  R (.returned (.tuple #[Sl.v ρ2, .bool false])) ω3)
  else (
  bif (p_0.n : Int) == 8 then (
  sem1 .sl PP (Instr.buildSlice T_Sint 0 #[]) ω1 fun (ρ4 : Sl) ω5 =>
  R (.returned (.tuple #[Sl.v ρ4, .bool false])) ω5)
  else (
  pcall1 .bool PP F.spec_l1In #[vI site_1, vI 0, vI (p_0.n : Int)] fun (ρ6 : Bool) =>
  bif !ρ6 then (
  sem1 .sl PP (Instr.buildSlice T_Sint 0 #[]) ω1 fun (ρ7 : Sl) ω8 =>
  R (.returned (.tuple #[Sl.v ρ7, .bool false])) ω8)
  else (
  call1 .sl PP F.spec_l14Child #[Sl.v p_0, vI site_1] ω1 fun (ρ9 : Sl) ω10 =>
  R (.returned (.tuple #[Sl.v ρ9, .bool true])) ω10)))) := E_eq std p_0 site_1 w R
theorem drawsOk : drawsOk PP cfg okD (codeOf Try.f27) = true := by kernel_rfl
theorem calls (p_0 : Sl) (site_1 : Int) {w : World} {R : Ending → World → Prop} (h : E std p_0 site_1 w R) : Calls PP F.spec_ChildAt #[Sl.v p_0, vI site_1] w R :=
  calls_of noCount mixed drawOk Try.func27 rfl (c := cfg) (args := [Sl.v p_0, vI site_1]) rfl (Nat.le_of_ble_eq_true (by kernel_rfl)) drawsOk h
end spec_ChildAt

namespace laws_FnExactChildAt
@[reducible] def cfg : Cfg := ⟨98, [], [], [], [4], [], [93, 51, 18, 26, 23, 44, 60, 19, 57, 123, 109, 126, 53, 100], [61, 85, 110, 74, 127, 120]⟩
def E (pr : Prims) (aP_0 : Sl) (aSite_1 : Int) (w : World) (R : Ending → World → Prop) : Prop :=
  wpC pr PP cfg (DD pr) (codeOf Try.f5) (retQ Try.f5.results.toList R) (argE 0 [Sl.v aP_0, vI aSite_1]) w
theorem E_eq (pr : Prims) (aP_0 : Sl) (aSite_1 : Int) (w : World) (R : Ending → World → Prop) : E pr aP_0 aSite_1 w R = (
  bif decide ((aP_0.n : Int) > 1048576) then (
  R (.returned (.bool true)) w)
  else (
  pr.call1 .sl PP F.laws_toIntS #[Sl.v aP_0] w fun (ρ0 : Sl) ω1 =>
  pr.call2 .sl .bool PP F.spec_ChildAt #[Sl.v ρ0, vI aSite_1] ω1 fun (ρ2 : Sl) (ρ3 : Bool) ω4 =>
  pr.call1 .sl PP F.laws_toIntS #[Sl.v aP_0] ω4 fun (ρ5 : Sl) ω6 =>
  pr.call2 .sl .bool PP F.impl_ChildAt #[Sl.v ρ5, vI aSite_1] ω6 fun (ρ7 : Sl) (ρ8 : Bool) ω9 =>
  pr.call1 .bool PP F.laws_eqIntS #[Sl.v ρ7, Sl.v ρ2] ω9 fun (ρ10 : Bool) ω11 =>
  bif !ρ10 then (
  R (.returned (.bool false)) ω11)
  else (
  bif !(ρ8 == ρ3) then (
  R (.returned (.bool false)) ω11)
  else (
  pr.call1 .sl PP F.laws_toIntS #[Sl.v aP_0] ω11 fun (ρ12 : Sl) ω13 =>
  pr.call1 .bool PP F.laws_eqIntS #[Sl.v ρ5, Sl.v ρ12] ω13 fun (ρ14 : Bool) ω15 =>
  bif !ρ14 then (
  R (.returned (.bool false)) ω15)
  else (
  pr.call1 (.int .i64) PP F.laws_markIntS #[Sl.v ρ5, vI 1] ω15 fun (ρ16 : Int) ω17 =>
  bif decide (ρ16 < 0) then (
  R (.returned (.bool false)) ω17)
  else (
  pr.call1 .bool PP F.laws_eqIntS #[Sl.v ρ7, Sl.v ρ2] ω17 fun (ρ18 : Bool) ω19 =>
  bif !ρ18 then (
  R (.returned (.bool false)) ω19)
  else (
  bif !(ρ8 == ρ3) then (
  R (.returned (.bool false)) ω19)
  else (
  pr.call1 (.int .i64) PP F.laws_markIntS #[Sl.v ρ7, vI 1] ω19 fun (ρ20 : Int) ω21 =>
  pr.call1 (.int .i64) PP F.laws_heldIntS #[Sl.v ρ7, vI 1] ω21 fun (ρ22 : Int) ω23 =>
  bif decide (ρ22 < 0) then (
  R (.returned (.bool false)) ω23)
  else (
  bif ρ22 != ρ20 then (
  R (.returned (.bool false)) ω23)
  else (
  pr.call1 .sl PP F.laws_toIntS #[Sl.v aP_0] ω23 fun (ρ24 : Sl) ω25 =>
  pr.call2 .sl .bool PP F.impl_ChildAt #[Sl.v ρ24, vI aSite_1] ω25 fun (ρ26 : Sl) (ρ27 : Bool) ω28 =>
  pr.call1 .bool PP F.laws_eqIntS #[Sl.v ρ26, Sl.v ρ2] ω28 fun (ρ29 : Bool) ω30 =>
  bif !ρ29 then (
  R (.returned (.bool false)) ω30)
  else (
  bif !(ρ27 == ρ3) then (
  R (.returned (.bool false)) ω30)
  else (
  pr.call1 (.int .i64) PP F.laws_heldIntS #[Sl.v ρ7, vI 1] ω30 fun (ρ31 : Int) ω32 =>
  bif decide (ρ31 < 0) then (
  R (.returned (.bool false)) ω32)
  else (
  bif ρ31 != ρ20 then (
  R (.returned (.bool false)) ω32)
  else (
  R (.returned (.bool true)) ω32)))))))))))))) := by kernel_rfl
theorem E_s (aP_0 : Sl) (aSite_1 : Int) (w : World) (R : Ending → World → Prop) : E std aP_0 aSite_1 w R = (
  bif decide ((aP_0.n : Int) > 1048576) then (
  R (.returned (.bool true)) w)
  else (
  call1 .sl PP F.laws_toIntS #[Sl.v aP_0] w fun (ρ0 : Sl) ω1 =>
  call2 .sl .bool PP F.spec_ChildAt #[Sl.v ρ0, vI aSite_1] ω1 fun (ρ2 : Sl) (ρ3 : Bool) ω4 =>
  call1 .sl PP F.laws_toIntS #[Sl.v aP_0] ω4 fun (ρ5 : Sl) ω6 =>
  call2 .sl .bool PP F.impl_ChildAt #[Sl.v ρ5, vI aSite_1] ω6 fun (ρ7 : Sl) (ρ8 : Bool) ω9 =>
  call1 .bool PP F.laws_eqIntS #[Sl.v ρ7, Sl.v ρ2] ω9 fun (ρ10 : Bool) ω11 =>
  bif !ρ10 then (
  R (.returned (.bool false)) ω11)
  else (
  bif !(ρ8 == ρ3) then (
  R (.returned (.bool false)) ω11)
  else (
  call1 .sl PP F.laws_toIntS #[Sl.v aP_0] ω11 fun (ρ12 : Sl) ω13 =>
  call1 .bool PP F.laws_eqIntS #[Sl.v ρ5, Sl.v ρ12] ω13 fun (ρ14 : Bool) ω15 =>
  bif !ρ14 then (
  R (.returned (.bool false)) ω15)
  else (
  call1 (.int .i64) PP F.laws_markIntS #[Sl.v ρ5, vI 1] ω15 fun (ρ16 : Int) ω17 =>
  bif decide (ρ16 < 0) then (
  R (.returned (.bool false)) ω17)
  else (
  call1 .bool PP F.laws_eqIntS #[Sl.v ρ7, Sl.v ρ2] ω17 fun (ρ18 : Bool) ω19 =>
  bif !ρ18 then (
  R (.returned (.bool false)) ω19)
  else (
  bif !(ρ8 == ρ3) then (
  R (.returned (.bool false)) ω19)
  else (
  call1 (.int .i64) PP F.laws_markIntS #[Sl.v ρ7, vI 1] ω19 fun (ρ20 : Int) ω21 =>
  call1 (.int .i64) PP F.laws_heldIntS #[Sl.v ρ7, vI 1] ω21 fun (ρ22 : Int) ω23 =>
  bif decide (ρ22 < 0) then (
  R (.returned (.bool false)) ω23)
  else (
  bif ρ22 != ρ20 then (
  R (.returned (.bool false)) ω23)
  else (
  call1 .sl PP F.laws_toIntS #[Sl.v aP_0] ω23 fun (ρ24 : Sl) ω25 =>
  call2 .sl .bool PP F.impl_ChildAt #[Sl.v ρ24, vI aSite_1] ω25 fun (ρ26 : Sl) (ρ27 : Bool) ω28 =>
  call1 .bool PP F.laws_eqIntS #[Sl.v ρ26, Sl.v ρ2] ω28 fun (ρ29 : Bool) ω30 =>
  bif !ρ29 then (
  R (.returned (.bool false)) ω30)
  else (
  bif !(ρ27 == ρ3) then (
  R (.returned (.bool false)) ω30)
  else (
  call1 (.int .i64) PP F.laws_heldIntS #[Sl.v ρ7, vI 1] ω30 fun (ρ31 : Int) ω32 =>
  bif decide (ρ31 < 0) then (
  R (.returned (.bool false)) ω32)
  else (
  bif ρ31 != ρ20 then (
  R (.returned (.bool false)) ω32)
  else (
  R (.returned (.bool true)) ω32)))))))))))))) := E_eq std aP_0 aSite_1 w R
theorem drawsOk : drawsOk PP cfg okD (codeOf Try.f5) = true := by kernel_rfl
theorem calls (aP_0 : Sl) (aSite_1 : Int) {w : World} {R : Ending → World → Prop} (h : E std aP_0 aSite_1 w R) : Calls PP F.laws_FnExactChildAt #[Sl.v aP_0, vI aSite_1] w R :=
  calls_of noCount mixed drawOk Try.func5 rfl (c := cfg) (args := [Sl.v aP_0, vI aSite_1]) rfl (Nat.le_of_ble_eq_true (by kernel_rfl)) drawsOk h
end laws_FnExactChildAt

end Go.Proofs.Ythbjkgpbnfibkaa
