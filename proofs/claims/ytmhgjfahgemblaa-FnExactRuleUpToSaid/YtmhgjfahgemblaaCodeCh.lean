/- What each function does, step by step, written by a program (Gen.lean); each equation is checked by the kernel. -/
import Derived.Test.YtmhgjfahgemblaaHead
namespace Go.Proofs.Ytmhgjfahgemblaa
open Go
set_option linter.unusedVariables false
set_option maxRecDepth 100000
namespace impl_child
@[reducible] def cfg : Cfg := ⟨13, [], [], [], [4], [], [62, 10, 22, 58, 24, 44, 18, 70, 43, 85, 25, 71, 59, 37, 63], [82, 113, 102, 38, 103, 26, 60]⟩
def E (pr : Prims) (p_0 : Sl) (site_1 : Int) (w : World) (R : Ending → World → Prop) : Prop :=
  wpC pr PP cfg (DD pr) (codeOf Try.f78) (retQ Try.f78.results.toList R) (argE 0 [Sl.v p_0, vI site_1]) w
theorem E_eq (pr : Prims) (p_0 : Sl) (site_1 : Int) (w : World) (R : Ending → World → Prop) : E pr p_0 site_1 w R = (
  pr.call1 .sl PP F.slices_Clone___int_int_ #[Sl.v p_0] w fun (ρ0 : Sl) ω1 =>
  pr.sem1 .sl PP (Instr.buildSlice T_Sint 1 #[(0, vI (w64 ((p_0.n : Int) + 1)))]) ω1 fun (ρ2 : Sl) ω3 =>
  pr.call1 .sl PP F.slices_Insert___int_int_ #[Sl.v ρ0, vI site_1, Sl.v ρ2] ω3 fun (ρ4 : Sl) ω5 =>
  R (.returned (Sl.v ρ4)) ω5) := by kernel_rfl
theorem E_s (p_0 : Sl) (site_1 : Int) (w : World) (R : Ending → World → Prop) : E std p_0 site_1 w R = (
  call1 .sl PP F.slices_Clone___int_int_ #[Sl.v p_0] w fun (ρ0 : Sl) ω1 =>
  sem1 .sl PP (Instr.buildSlice T_Sint 1 #[(0, vI (w64 ((p_0.n : Int) + 1)))]) ω1 fun (ρ2 : Sl) ω3 =>
  call1 .sl PP F.slices_Insert___int_int_ #[Sl.v ρ0, vI site_1, Sl.v ρ2] ω3 fun (ρ4 : Sl) ω5 =>
  R (.returned (Sl.v ρ4)) ω5) := E_eq std p_0 site_1 w R
theorem drawsOk : drawsOk PP cfg okD (codeOf Try.f78) = true := by kernel_rfl
theorem calls (p_0 : Sl) (site_1 : Int) {w : World} {R : Ending → World → Prop} (h : E std p_0 site_1 w R) : Calls PP F.impl_child #[Sl.v p_0, vI site_1] w R :=
  calls_of noCount mixed drawOk Try.func78 rfl (c := cfg) (args := [Sl.v p_0, vI site_1]) rfl (Nat.le_of_ble_eq_true (by kernel_rfl)) drawsOk h
end impl_child

namespace spec_l14Child
@[reducible] def cfg : Cfg := ⟨19, [], [], [], [4], [], [62, 10, 22, 58, 24, 44, 18, 70, 43, 85, 25, 71, 59, 37, 63], [82, 113, 102, 38, 103, 26, 60]⟩
def E (pr : Prims) (p_0 : Sl) (site_1 : Int) (w : World) (R : Ending → World → Prop) : Prop :=
  wpC pr PP cfg (DD pr) (codeOf Try.f73) (retQ Try.f73.results.toList R) (argE 0 [Sl.v p_0, vI site_1]) w
theorem E_eq (pr : Prims) (p_0 : Sl) (site_1 : Int) (w : World) (R : Ending → World → Prop) : E pr p_0 site_1 w R = (
  pr.drewAll w fun ω0 =>
  pr.cutK 1 p_0 none (some site_1) fun (s1 : Sl) =>
  pr.cutK 1 p_0 (some site_1) none fun (s2 : Sl) =>
  (pr.sem1 .sl PP (Instr.buildSlice T_Sint 0 #[]) ω0 fun (ρ3 : Sl) ω4 =>
  (pr.sem1 .sl PP (Builtin.append_ #[T_Sint, T_Sint] T_Sint #[Sl.v ρ3, Sl.v s1]) ω4 fun (ρ5 : Sl) ω6 =>
  pr.sem1 .sl PP (Instr.buildSlice T_Sint 1 #[(0, vI (w64 ((p_0.n : Int) + 1)))]) ω6 fun (ρ7 : Sl) ω8 =>
  pr.sem1 .sl PP (Builtin.append_ #[T_Sint, T_Sint] T_Sint #[Sl.v ρ5, Sl.v ρ7]) ω8 fun (ρ9 : Sl) ω10 =>
  pr.sem1 .sl PP (Builtin.append_ #[T_Sint, T_Sint] T_Sint #[Sl.v ρ9, Sl.v s2]) ω10 fun (ρ11 : Sl) ω12 =>
  R (.returned (Sl.v ρ11)) ω12) ∧
  (pr.sem1 .sl PP (Instr.buildSlice T_Sint 1 #[(0, vI (w64 ((p_0.n : Int) + 1)))]) ω4 fun (ρ13 : Sl) ω14 =>
  pr.sem1 .sl PP (Builtin.append_ #[T_Sint, T_Sint] T_Sint #[Sl.v ρ3, Sl.v s1]) ω14 fun (ρ15 : Sl) ω16 =>
  pr.sem1 .sl PP (Builtin.append_ #[T_Sint, T_Sint] T_Sint #[Sl.v ρ15, Sl.v ρ13]) ω16 fun (ρ17 : Sl) ω18 =>
  pr.sem1 .sl PP (Builtin.append_ #[T_Sint, T_Sint] T_Sint #[Sl.v ρ17, Sl.v s2]) ω18 fun (ρ19 : Sl) ω20 =>
  R (.returned (Sl.v ρ19)) ω20)) ∧
  (pr.sem1 .sl PP (Instr.buildSlice T_Sint 1 #[(0, vI (w64 ((p_0.n : Int) + 1)))]) ω0 fun (ρ21 : Sl) ω22 =>
  pr.sem1 .sl PP (Instr.buildSlice T_Sint 0 #[]) ω22 fun (ρ23 : Sl) ω24 =>
  pr.sem1 .sl PP (Builtin.append_ #[T_Sint, T_Sint] T_Sint #[Sl.v ρ23, Sl.v s1]) ω24 fun (ρ25 : Sl) ω26 =>
  pr.sem1 .sl PP (Builtin.append_ #[T_Sint, T_Sint] T_Sint #[Sl.v ρ25, Sl.v ρ21]) ω26 fun (ρ27 : Sl) ω28 =>
  pr.sem1 .sl PP (Builtin.append_ #[T_Sint, T_Sint] T_Sint #[Sl.v ρ27, Sl.v s2]) ω28 fun (ρ29 : Sl) ω30 =>
  R (.returned (Sl.v ρ29)) ω30)) := by kernel_rfl
theorem E_s (p_0 : Sl) (site_1 : Int) (w : World) (R : Ending → World → Prop) : E std p_0 site_1 w R = (
  drewAll w fun ω0 =>
  cutK 1 p_0 none (some site_1) fun (s1 : Sl) =>
  cutK 1 p_0 (some site_1) none fun (s2 : Sl) =>
  (sem1 .sl PP (Instr.buildSlice T_Sint 0 #[]) ω0 fun (ρ3 : Sl) ω4 =>
  (sem1 .sl PP (Builtin.append_ #[T_Sint, T_Sint] T_Sint #[Sl.v ρ3, Sl.v s1]) ω4 fun (ρ5 : Sl) ω6 =>
  sem1 .sl PP (Instr.buildSlice T_Sint 1 #[(0, vI (w64 ((p_0.n : Int) + 1)))]) ω6 fun (ρ7 : Sl) ω8 =>
  sem1 .sl PP (Builtin.append_ #[T_Sint, T_Sint] T_Sint #[Sl.v ρ5, Sl.v ρ7]) ω8 fun (ρ9 : Sl) ω10 =>
  sem1 .sl PP (Builtin.append_ #[T_Sint, T_Sint] T_Sint #[Sl.v ρ9, Sl.v s2]) ω10 fun (ρ11 : Sl) ω12 =>
  R (.returned (Sl.v ρ11)) ω12) ∧
  (sem1 .sl PP (Instr.buildSlice T_Sint 1 #[(0, vI (w64 ((p_0.n : Int) + 1)))]) ω4 fun (ρ13 : Sl) ω14 =>
  sem1 .sl PP (Builtin.append_ #[T_Sint, T_Sint] T_Sint #[Sl.v ρ3, Sl.v s1]) ω14 fun (ρ15 : Sl) ω16 =>
  sem1 .sl PP (Builtin.append_ #[T_Sint, T_Sint] T_Sint #[Sl.v ρ15, Sl.v ρ13]) ω16 fun (ρ17 : Sl) ω18 =>
  sem1 .sl PP (Builtin.append_ #[T_Sint, T_Sint] T_Sint #[Sl.v ρ17, Sl.v s2]) ω18 fun (ρ19 : Sl) ω20 =>
  R (.returned (Sl.v ρ19)) ω20)) ∧
  (sem1 .sl PP (Instr.buildSlice T_Sint 1 #[(0, vI (w64 ((p_0.n : Int) + 1)))]) ω0 fun (ρ21 : Sl) ω22 =>
  sem1 .sl PP (Instr.buildSlice T_Sint 0 #[]) ω22 fun (ρ23 : Sl) ω24 =>
  sem1 .sl PP (Builtin.append_ #[T_Sint, T_Sint] T_Sint #[Sl.v ρ23, Sl.v s1]) ω24 fun (ρ25 : Sl) ω26 =>
  sem1 .sl PP (Builtin.append_ #[T_Sint, T_Sint] T_Sint #[Sl.v ρ25, Sl.v ρ21]) ω26 fun (ρ27 : Sl) ω28 =>
  sem1 .sl PP (Builtin.append_ #[T_Sint, T_Sint] T_Sint #[Sl.v ρ27, Sl.v s2]) ω28 fun (ρ29 : Sl) ω30 =>
  R (.returned (Sl.v ρ29)) ω30)) := E_eq std p_0 site_1 w R
theorem drawsOk : drawsOk PP cfg okD (codeOf Try.f73) = true := by kernel_rfl
theorem calls (p_0 : Sl) (site_1 : Int) {w : World} {R : Ending → World → Prop} (h : E std p_0 site_1 w R) : Calls PP F.spec_l14Child #[Sl.v p_0, vI site_1] w R :=
  calls_of noCount mixed drawOk Try.func73 rfl (c := cfg) (args := [Sl.v p_0, vI site_1]) rfl (Nat.le_of_ble_eq_true (by kernel_rfl)) drawsOk h
end spec_l14Child

end Go.Proofs.Ytmhgjfahgemblaa
