/- What each function does, step by step, written by a program (Gen.lean); each equation is checked by the kernel. -/
import Derived.Test.YtjojajnkofgfpaaHead
namespace Go.Proofs.Ytjojajnkofgfpaa
open Go
set_option linter.unusedVariables false
set_option maxRecDepth 100000
namespace slices_Delete___int_int_
@[reducible] def cfg : Cfg := ⟨33, [], [], [], [6], [], [30, 27, 11, 13, 20, 26, 37, 16, 52, 109, 83, 111, 72, 70, 36], [49, 46, 97, 75, 33, 104]⟩
def E (pr : Prims) (s_0 : Sl) (i_1 : Int) (j_2 : Int) (w : World) (R : Ending → World → Prop) : Prop :=
  wpC pr PP cfg (DD pr) (codeOf Try.f59) (retQ Try.f59.results.toList R) (argE 0 [Sl.v s_0, vI i_1, vI j_2]) w
theorem E_eq (pr : Prims) (s_0 : Sl) (i_1 : Int) (j_2 : Int) (w : World) (R : Ending → World → Prop) : E pr s_0 i_1 j_2 w R = (
  pr.cut3K 1 s_0 (some i_1) j_2 (s_0.n : Int) fun (s0 : Sl) =>
  bif i_1 == j_2 then (
  R (.returned (Sl.v s_0)) w)
  else (
  pr.drewAll w fun ω1 =>
  pr.cutK 1 s_0 none (some i_1) fun (s2 : Sl) =>
  pr.cutK 1 s_0 (some j_2) none fun (s3 : Sl) =>
  pr.sem1 .sl PP (Builtin.append_ #[T_Sint, T_Sint] T_Sint #[Sl.v s2, Sl.v s3]) ω1 fun (ρ4 : Sl) ω5 =>
  pr.cutK 1 ρ4 (some (ρ4.n : Int)) (some (s_0.n : Int)) fun (s6 : Sl) =>
  pr.sem1 .any PP (Builtin.clear_ #[T_Sint] T___ #[Sl.v s6]) ω5 fun (ρ7 : Value) ω8 =>
  R (.returned (Sl.v ρ4)) ω8)) := by kernel_rfl
theorem E_s (s_0 : Sl) (i_1 : Int) (j_2 : Int) (w : World) (R : Ending → World → Prop) : E std s_0 i_1 j_2 w R = (
  cut3K 1 s_0 (some i_1) j_2 (s_0.n : Int) fun (s0 : Sl) =>
  bif i_1 == j_2 then (
  R (.returned (Sl.v s_0)) w)
  else (
  drewAll w fun ω1 =>
  cutK 1 s_0 none (some i_1) fun (s2 : Sl) =>
  cutK 1 s_0 (some j_2) none fun (s3 : Sl) =>
  sem1 .sl PP (Builtin.append_ #[T_Sint, T_Sint] T_Sint #[Sl.v s2, Sl.v s3]) ω1 fun (ρ4 : Sl) ω5 =>
  cutK 1 ρ4 (some (ρ4.n : Int)) (some (s_0.n : Int)) fun (s6 : Sl) =>
  sem1 .any PP (Builtin.clear_ #[T_Sint] T___ #[Sl.v s6]) ω5 fun (ρ7 : Value) ω8 =>
  R (.returned (Sl.v ρ4)) ω8)) := E_eq std s_0 i_1 j_2 w R
theorem drawsOk : drawsOk PP cfg okD (codeOf Try.f59) = true := by kernel_rfl
theorem calls (s_0 : Sl) (i_1 : Int) (j_2 : Int) {w : World} {R : Ending → World → Prop} (h : E std s_0 i_1 j_2 w R) : Calls PP F.slices_Delete___int_int_ #[Sl.v s_0, vI i_1, vI j_2] w R :=
  calls_of noCount mixed drawOk Try.func59 rfl (c := cfg) (args := [Sl.v s_0, vI i_1, vI j_2]) rfl (Nat.le_of_ble_eq_true (by kernel_rfl)) drawsOk h
end slices_Delete___int_int_

end Go.Proofs.Ytjojajnkofgfpaa
