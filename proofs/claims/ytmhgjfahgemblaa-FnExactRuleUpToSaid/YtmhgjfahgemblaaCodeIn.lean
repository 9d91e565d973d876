/- What each function does, step by step, written by a program (Gen.lean); each equation is checked by the kernel. -/
import Derived.Test.YtmhgjfahgemblaaHead
namespace Go.Proofs.Ytmhgjfahgemblaa
open Go
set_option linter.unusedVariables false
set_option maxRecDepth 100000
namespace slices_Insert___int_int_
@[reducible] def cfg : Cfg := ⟨95, [], [], [], [6], [], [62, 10, 22, 58, 24, 44, 18, 70, 43, 85, 25, 71, 59, 37, 63], [82, 113, 102, 38, 103, 26, 60]⟩
def E (pr : Prims) (s_0 : Sl) (i_1 : Int) (v_2 : Sl) (w : World) (R : Ending → World → Prop) : Prop :=
  wpC pr PP cfg (DD pr) (codeOf Try.f90) (retQ Try.f90.results.toList R) (argE 0 [Sl.v s_0, vI i_1, Sl.v v_2]) w
theorem E_eq (pr : Prims) (s_0 : Sl) (i_1 : Int) (v_2 : Sl) (w : World) (R : Ending → World → Prop) : E pr s_0 i_1 v_2 w R = (
  pr.cutK 1 s_0 (some i_1) none fun (s0 : Sl) =>
  bif (v_2.n : Int) == 0 then (
  R (.returned (Sl.v s_0)) w)
  else (
  bif i_1 == (s_0.n : Int) then (
  pr.sem1 .sl PP (Builtin.append_ #[T_Sint, T_Sint] T_Sint #[Sl.v s_0, Sl.v v_2]) w fun (ρ1 : Sl) ω2 =>
  R (.returned (Sl.v ρ1)) ω2)
  else (
  bif decide ((w64 ((s_0.n : Int) + (v_2.n : Int))) > (s_0.c : Int)) then (
  pr.cutK 1 s_0 none (some i_1) fun (s3 : Sl) =>
  pr.sem1 .sl PP (Builtin.append_ #[T_Sint, T_int] T_Sint #[Sl.v s3, vI (w64 ((w64 ((s_0.n : Int) + (v_2.n : Int))) - i_1))]) w fun (ρ4 : Sl) ω5 =>
  pr.cutK 1 ρ4 (some i_1) none fun (s6 : Sl) =>
  pr.sem1 (.int .i64) PP (Builtin.copy_ #[T_Sint, T_Sint] T_int #[Sl.v s6, Sl.v v_2]) ω5 fun (ρ7 : Int) ω8 =>
  pr.drewAll ω8 fun ω9 =>
  pr.cutK 1 ρ4 (some (w64 (i_1 + (v_2.n : Int)))) none fun (s10 : Sl) =>
  pr.cutK 1 s_0 (some i_1) none fun (s11 : Sl) =>
  pr.sem1 (.int .i64) PP (Builtin.copy_ #[T_Sint, T_Sint] T_int #[Sl.v s10, Sl.v s11]) ω9 fun (ρ12 : Int) ω13 =>
  R (.returned (Sl.v ρ4)) ω13)
  else (
  pr.cutK 1 s_0 none (some (w64 ((s_0.n : Int) + (v_2.n : Int)))) fun (s14 : Sl) =>
  pr.cutK 1 s14 (some (w64 (i_1 + (v_2.n : Int)))) none fun (s15 : Sl) =>
  pr.ext1 .bool PP F.slices_overlaps_int_ #[Sl.v v_2, Sl.v s15] w fun (ρ16 : Bool) ω17 =>
  bif !ρ16 then (
  pr.drewAll ω17 fun ω18 =>
  pr.cutK 1 s14 (some (w64 (i_1 + (v_2.n : Int)))) none fun (s19 : Sl) =>
  pr.cutK 1 s14 (some i_1) none fun (s20 : Sl) =>
  pr.sem1 (.int .i64) PP (Builtin.copy_ #[T_Sint, T_Sint] T_int #[Sl.v s19, Sl.v s20]) ω18 fun (ρ21 : Int) ω22 =>
  pr.cutK 1 s14 (some i_1) none fun (s23 : Sl) =>
  pr.sem1 (.int .i64) PP (Builtin.copy_ #[T_Sint, T_Sint] T_int #[Sl.v s23, Sl.v v_2]) ω22 fun (ρ24 : Int) ω25 =>
  R (.returned (Sl.v s14)) ω25)
  else (
  pr.cutK 1 s14 (some (s_0.n : Int)) none fun (s26 : Sl) =>
  pr.sem1 (.int .i64) PP (Builtin.copy_ #[T_Sint, T_Sint] T_int #[Sl.v s26, Sl.v v_2]) ω17 fun (ρ27 : Int) ω28 =>
  pr.cutK 1 s14 (some i_1) none fun (s29 : Sl) =>
  pr.call0  PP F.slices_rotateRight_int_ #[Sl.v s29, vI (v_2.n : Int)] ω28 fun ω30 =>
  R (.returned (Sl.v s14)) ω30))))) := by kernel_rfl
theorem E_s (s_0 : Sl) (i_1 : Int) (v_2 : Sl) (w : World) (R : Ending → World → Prop) : E std s_0 i_1 v_2 w R = (
  cutK 1 s_0 (some i_1) none fun (s0 : Sl) =>
  bif (v_2.n : Int) == 0 then (
  R (.returned (Sl.v s_0)) w)
  else (
  bif i_1 == (s_0.n : Int) then (
  sem1 .sl PP (Builtin.append_ #[T_Sint, T_Sint] T_Sint #[Sl.v s_0, Sl.v v_2]) w fun (ρ1 : Sl) ω2 =>
  R (.returned (Sl.v ρ1)) ω2)
  else (
  bif decide ((w64 ((s_0.n : Int) + (v_2.n : Int))) > (s_0.c : Int)) then (
  cutK 1 s_0 none (some i_1) fun (s3 : Sl) =>
  sem1 .sl PP (Builtin.append_ #[T_Sint, T_int] T_Sint #[Sl.v s3, vI (w64 ((w64 ((s_0.n : Int) + (v_2.n : Int))) - i_1))]) w fun (ρ4 : Sl) ω5 =>
  cutK 1 ρ4 (some i_1) none fun (s6 : Sl) =>
  sem1 (.int .i64) PP (Builtin.copy_ #[T_Sint, T_Sint] T_int #[Sl.v s6, Sl.v v_2]) ω5 fun (ρ7 : Int) ω8 =>
  drewAll ω8 fun ω9 =>
  cutK 1 ρ4 (some (w64 (i_1 + (v_2.n : Int)))) none fun (s10 : Sl) =>
  cutK 1 s_0 (some i_1) none fun (s11 : Sl) =>
  sem1 (.int .i64) PP (Builtin.copy_ #[T_Sint, T_Sint] T_int #[Sl.v s10, Sl.v s11]) ω9 fun (ρ12 : Int) ω13 =>
  R (.returned (Sl.v ρ4)) ω13)
  else (
  cutK 1 s_0 none (some (w64 ((s_0.n : Int) + (v_2.n : Int)))) fun (s14 : Sl) =>
  cutK 1 s14 (some (w64 (i_1 + (v_2.n : Int)))) none fun (s15 : Sl) =>
  ext1 .bool PP F.slices_overlaps_int_ #[Sl.v v_2, Sl.v s15] w fun (ρ16 : Bool) ω17 =>
  bif !ρ16 then (
  drewAll ω17 fun ω18 =>
  cutK 1 s14 (some (w64 (i_1 + (v_2.n : Int)))) none fun (s19 : Sl) =>
  cutK 1 s14 (some i_1) none fun (s20 : Sl) =>
  sem1 (.int .i64) PP (Builtin.copy_ #[T_Sint, T_Sint] T_int #[Sl.v s19, Sl.v s20]) ω18 fun (ρ21 : Int) ω22 =>
  cutK 1 s14 (some i_1) none fun (s23 : Sl) =>
  sem1 (.int .i64) PP (Builtin.copy_ #[T_Sint, T_Sint] T_int #[Sl.v s23, Sl.v v_2]) ω22 fun (ρ24 : Int) ω25 =>
  R (.returned (Sl.v s14)) ω25)
  else (
  cutK 1 s14 (some (s_0.n : Int)) none fun (s26 : Sl) =>
  sem1 (.int .i64) PP (Builtin.copy_ #[T_Sint, T_Sint] T_int #[Sl.v s26, Sl.v v_2]) ω17 fun (ρ27 : Int) ω28 =>
  cutK 1 s14 (some i_1) none fun (s29 : Sl) =>
  call0  PP F.slices_rotateRight_int_ #[Sl.v s29, vI (v_2.n : Int)] ω28 fun ω30 =>
  R (.returned (Sl.v s14)) ω30))))) := E_eq std s_0 i_1 v_2 w R
theorem drawsOk : drawsOk PP cfg okD (codeOf Try.f90) = true := by kernel_rfl
theorem calls (s_0 : Sl) (i_1 : Int) (v_2 : Sl) {w : World} {R : Ending → World → Prop} (h : E std s_0 i_1 v_2 w R) : Calls PP F.slices_Insert___int_int_ #[Sl.v s_0, vI i_1, Sl.v v_2] w R :=
  calls_of noCount mixed drawOk Try.func90 rfl (c := cfg) (args := [Sl.v s_0, vI i_1, Sl.v v_2]) rfl (Nat.le_of_ble_eq_true (by kernel_rfl)) drawsOk h
end slices_Insert___int_int_

namespace slices_rotateRight_int_
@[reducible] def cfg : Cfg := ⟨10, [], [], [], [], [], [62, 10, 22, 58, 24, 44, 18, 70, 43, 85, 25, 71, 59, 37, 63], [82, 113, 102, 38, 103, 26, 60]⟩
def E (pr : Prims) (s_0 : Sl) (r_1 : Int) (w : World) (R : Ending → World → Prop) : Prop :=
  wpC pr PP cfg (DD pr) (codeOf Try.f106) (retQ Try.f106.results.toList R) (argE 0 [Sl.v s_0, vI r_1]) w
theorem E_eq (pr : Prims) (s_0 : Sl) (r_1 : Int) (w : World) (R : Ending → World → Prop) : E pr s_0 r_1 w R = (
  pr.call0  PP F.slices_rotateLeft_int_ #[Sl.v s_0, vI (w64 ((s_0.n : Int) - r_1))] w fun ω0 =>
  R (.returned (.tuple #[])) ω0) := by kernel_rfl
theorem E_s (s_0 : Sl) (r_1 : Int) (w : World) (R : Ending → World → Prop) : E std s_0 r_1 w R = (
  call0  PP F.slices_rotateLeft_int_ #[Sl.v s_0, vI (w64 ((s_0.n : Int) - r_1))] w fun ω0 =>
  R (.returned (.tuple #[])) ω0) := E_eq std s_0 r_1 w R
theorem drawsOk : drawsOk PP cfg okD (codeOf Try.f106) = true := by kernel_rfl
theorem calls (s_0 : Sl) (r_1 : Int) {w : World} {R : Ending → World → Prop} (h : E std s_0 r_1 w R) : Calls PP F.slices_rotateRight_int_ #[Sl.v s_0, vI r_1] w R :=
  calls_of noCount mixed drawOk Try.func106 rfl (c := cfg) (args := [Sl.v s_0, vI r_1]) rfl (Nat.le_of_ble_eq_true (by kernel_rfl)) drawsOk h
end slices_rotateRight_int_

namespace slices_rotateLeft_int_
@[reducible] def cfg : Cfg := ⟨14, [], [], [], [], [], [62, 10, 22, 58, 24, 44, 18, 70, 43, 85, 25, 71, 59, 37, 63], [82, 113, 102, 38, 103, 26, 60]⟩
def E (pr : Prims) (s_0 : Sl) (r_1 : Int) (w : World) (R : Ending → World → Prop) : Prop :=
  wpC pr PP cfg (DD pr) (codeOf Try.f121) (retQ Try.f121.results.toList R) (argE 0 [Sl.v s_0, vI r_1]) w
theorem E_eq (pr : Prims) (s_0 : Sl) (r_1 : Int) (w : World) (R : Ending → World → Prop) : E pr s_0 r_1 w R = (
  pr.cutK 1 s_0 none (some r_1) fun (s0 : Sl) =>
  pr.call0  PP F.slices_Reverse___int_int_ #[Sl.v s0] w fun ω1 =>
  pr.cutK 1 s_0 (some r_1) none fun (s2 : Sl) =>
  pr.call0  PP F.slices_Reverse___int_int_ #[Sl.v s2] ω1 fun ω3 =>
  pr.call0  PP F.slices_Reverse___int_int_ #[Sl.v s_0] ω3 fun ω4 =>
  R (.returned (.tuple #[])) ω4) := by kernel_rfl
theorem E_s (s_0 : Sl) (r_1 : Int) (w : World) (R : Ending → World → Prop) : E std s_0 r_1 w R = (
  cutK 1 s_0 none (some r_1) fun (s0 : Sl) =>
  call0  PP F.slices_Reverse___int_int_ #[Sl.v s0] w fun ω1 =>
  cutK 1 s_0 (some r_1) none fun (s2 : Sl) =>
  call0  PP F.slices_Reverse___int_int_ #[Sl.v s2] ω1 fun ω3 =>
  call0  PP F.slices_Reverse___int_int_ #[Sl.v s_0] ω3 fun ω4 =>
  R (.returned (.tuple #[])) ω4) := E_eq std s_0 r_1 w R
theorem drawsOk : drawsOk PP cfg okD (codeOf Try.f121) = true := by kernel_rfl
theorem calls (s_0 : Sl) (r_1 : Int) {w : World} {R : Ending → World → Prop} (h : E std s_0 r_1 w R) : Calls PP F.slices_rotateLeft_int_ #[Sl.v s_0, vI r_1] w R :=
  calls_of noCount mixed drawOk Try.func121 rfl (c := cfg) (args := [Sl.v s_0, vI r_1]) rfl (Nat.le_of_ble_eq_true (by kernel_rfl)) drawsOk h
end slices_rotateLeft_int_

end Go.Proofs.Ytmhgjfahgemblaa
