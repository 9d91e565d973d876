/- What each function does, step by step, written by a program (Gen.lean); each equation is checked by the kernel. -/
import Derived.Test.YtmhgjfahgemblaaHead
namespace Go.Proofs.Ytmhgjfahgemblaa
open Go
set_option linter.unusedVariables false
set_option maxRecDepth 100000
namespace slices_Clone___int_int_
@[reducible] def cfg : Cfg := ⟨8, [], [], [], [2], [], [62, 10, 22, 58, 24, 44, 18, 70, 43, 85, 25, 71, 59, 37, 63], [82, 113, 102, 38, 103, 26, 60]⟩
def E (pr : Prims) (s_0 : Sl) (w : World) (R : Ending → World → Prop) : Prop :=
  wpC pr PP cfg (DD pr) (codeOf Try.f65) (retQ Try.f65.results.toList R) (argE 0 [Sl.v s_0]) w
theorem E_eq (pr : Prims) (s_0 : Sl) (w : World) (R : Ending → World → Prop) : E pr s_0 w R = (
  bif s_0.a.isNone then (
  R (.returned (Sl.v Sl.nil)) w)
  else (
  pr.sem1 .sl PP (Instr.buildSlice T_Sint 0 #[]) w fun (ρ0 : Sl) ω1 =>
  pr.sem1 .sl PP (Builtin.append_ #[T_Sint, T_Sint] T_Sint #[Sl.v ρ0, Sl.v s_0]) ω1 fun (ρ2 : Sl) ω3 =>
  R (.returned (Sl.v ρ2)) ω3)) := by kernel_rfl
theorem E_s (s_0 : Sl) (w : World) (R : Ending → World → Prop) : E std s_0 w R = (
  bif s_0.a.isNone then (
  R (.returned (Sl.v Sl.nil)) w)
  else (
  sem1 .sl PP (Instr.buildSlice T_Sint 0 #[]) w fun (ρ0 : Sl) ω1 =>
  sem1 .sl PP (Builtin.append_ #[T_Sint, T_Sint] T_Sint #[Sl.v ρ0, Sl.v s_0]) ω1 fun (ρ2 : Sl) ω3 =>
  R (.returned (Sl.v ρ2)) ω3)) := E_eq std s_0 w R
theorem drawsOk : drawsOk PP cfg okD (codeOf Try.f65) = true := by kernel_rfl
theorem calls (s_0 : Sl) {w : World} {R : Ending → World → Prop} (h : E std s_0 w R) : Calls PP F.slices_Clone___int_int_ #[Sl.v s_0] w R :=
  calls_of noCount mixed drawOk Try.func65 rfl (c := cfg) (args := [Sl.v s_0]) rfl (Nat.le_of_ble_eq_true (by kernel_rfl)) drawsOk h
end slices_Clone___int_int_

end Go.Proofs.Ytmhgjfahgemblaa
