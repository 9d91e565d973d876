/- What each function does, step by step, written by a program (Gen.lean); each equation is checked by the kernel. -/
import Derived.Test.YthbjkgpbnfibkaaHead
namespace Go.Proofs.Ythbjkgpbnfibkaa
open Go
set_option linter.unusedVariables false
set_option maxRecDepth 100000
namespace spec_AreWilfLike
@[reducible] def cfg : Cfg := ⟨26, [], [], [], [6], [], [93, 51, 18, 26, 23, 44, 60, 19, 57, 123, 109, 126, 53, 100], [61, 85, 110, 74, 127, 120]⟩
def E (pr : Prims) (a_0 : Sl) (b_1 : Sl) (n_2 : Int) (w : World) (R : Ending → World → Prop) : Prop :=
  wpC pr PP cfg (DD pr) (codeOf Try.f29) (retQ Try.f29.results.toList R) (argE 0 [Sl.v a_0, Sl.v b_1, vI n_2]) w
theorem E_eq (pr : Prims) (a_0 : Sl) (b_1 : Sl) (n_2 : Int) (w : World) (R : Ending → World → Prop) : E pr a_0 b_1 n_2 w R = (
  pr.call1 .bool PP F.spec_IsBasis #[Sl.v a_0] w fun (ρ0 : Bool) ω1 =>
  bif ρ0 then (
  pr.call1 .bool PP F.spec_IsBasis #[Sl.v b_1] ω1 fun (ρ2 : Bool) ω3 =>
  bif ρ2 then (
  pr.pcall1 .bool PP F.spec_l1In #[vI n_2, vI 0, vI 6] fun (ρ4 : Bool) =>
  bif ρ4 then (
  pr.call1 .sl PP F.spec_ClassCounts #[Sl.v a_0, vI n_2] ω3 fun (ρ5 : Sl) ω6 =>
  pr.call1 .sl PP F.spec_ClassCounts #[Sl.v b_1, vI n_2] ω6 fun (ρ7 : Sl) ω8 =>
  pr.call1 .bool PP F.spec_l2Same #[Sl.v ρ5, Sl.v ρ7] ω8 fun (ρ9 : Bool) ω10 =>
  R (.returned (.bool ρ9)) ω10)
  else (
  R (.returned (.bool false)) ω3))
  else (
  R (.returned (.bool false)) ω3))
  else (
  R (.returned (.bool false)) ω1)) := by kernel_rfl
theorem E_s (a_0 : Sl) (b_1 : Sl) (n_2 : Int) (w : World) (R : Ending → World → Prop) : E std a_0 b_1 n_2 w R = (
  call1 .bool PP F.spec_IsBasis #[Sl.v a_0] w fun (ρ0 : Bool) ω1 =>
  bif ρ0 then (
  call1 .bool PP F.spec_IsBasis #[Sl.v b_1] ω1 fun (ρ2 : Bool) ω3 =>
  bif ρ2 then (
  pcall1 .bool PP F.spec_l1In #[vI n_2, vI 0, vI 6] fun (ρ4 : Bool) =>
  bif ρ4 then (
  call1 .sl PP F.spec_ClassCounts #[Sl.v a_0, vI n_2] ω3 fun (ρ5 : Sl) ω6 =>
  call1 .sl PP F.spec_ClassCounts #[Sl.v b_1, vI n_2] ω6 fun (ρ7 : Sl) ω8 =>
  call1 .bool PP F.spec_l2Same #[Sl.v ρ5, Sl.v ρ7] ω8 fun (ρ9 : Bool) ω10 =>
  R (.returned (.bool ρ9)) ω10)
  else (
  R (.returned (.bool false)) ω3))
  else (
  R (.returned (.bool false)) ω3))
  else (
  R (.returned (.bool false)) ω1)) := E_eq std a_0 b_1 n_2 w R
theorem drawsOk : drawsOk PP cfg okD (codeOf Try.f29) = true := by kernel_rfl
theorem calls (a_0 : Sl) (b_1 : Sl) (n_2 : Int) {w : World} {R : Ending → World → Prop} (h : E std a_0 b_1 n_2 w R) : Calls PP F.spec_AreWilfLike #[Sl.v a_0, Sl.v b_1, vI n_2] w R :=
  calls_of noCount mixed drawOk Try.func29 rfl (c := cfg) (args := [Sl.v a_0, Sl.v b_1, vI n_2]) rfl (Nat.le_of_ble_eq_true (by kernel_rfl)) drawsOk h
end spec_AreWilfLike

namespace impl_AreWilfLike
@[reducible] def cfg : Cfg := ⟨26, [], [], [], [6], [], [93, 51, 18, 26, 23, 44, 60, 19, 57, 123, 109, 126, 53, 100], [61, 85, 110, 74, 127, 120]⟩
def E (pr : Prims) (a_0 : Sl) (b_1 : Sl) (n_2 : Int) (w : World) (R : Ending → World → Prop) : Prop :=
  wpC pr PP cfg (DD pr) (codeOf Try.f30) (retQ Try.f30.results.toList R) (argE 0 [Sl.v a_0, Sl.v b_1, vI n_2]) w
theorem E_eq (pr : Prims) (a_0 : Sl) (b_1 : Sl) (n_2 : Int) (w : World) (R : Ending → World → Prop) : E pr a_0 b_1 n_2 w R = (
  pr.call1 .sl PP F.impl_ClassCounts #[Sl.v a_0, vI n_2] w fun (ρ0 : Sl) ω1 =>
  pr.call1 .sl PP F.impl_ClassCounts #[Sl.v b_1, vI n_2] ω1 fun (ρ2 : Sl) ω3 =>
  bif !ρ0.a.isNone then (
  bif !ρ2.a.isNone then (
  pr.call1 .bool PP F.slices_Equal___int_int_ #[Sl.v ρ0, Sl.v ρ2] ω3 fun (ρ4 : Bool) ω5 =>
  R (.returned (.bool ρ4)) ω5)
  else (
  R (.returned (.bool false)) ω3))
  else (
  R (.returned (.bool false)) ω3)) := by kernel_rfl
theorem E_s (a_0 : Sl) (b_1 : Sl) (n_2 : Int) (w : World) (R : Ending → World → Prop) : E std a_0 b_1 n_2 w R = (
  call1 .sl PP F.impl_ClassCounts #[Sl.v a_0, vI n_2] w fun (ρ0 : Sl) ω1 =>
  call1 .sl PP F.impl_ClassCounts #[Sl.v b_1, vI n_2] ω1 fun (ρ2 : Sl) ω3 =>
  bif !ρ0.a.isNone then (
  bif !ρ2.a.isNone then (
  call1 .bool PP F.slices_Equal___int_int_ #[Sl.v ρ0, Sl.v ρ2] ω3 fun (ρ4 : Bool) ω5 =>
  R (.returned (.bool ρ4)) ω5)
  else (
  R (.returned (.bool false)) ω3))
  else (
  R (.returned (.bool false)) ω3)) := E_eq std a_0 b_1 n_2 w R
theorem drawsOk : drawsOk PP cfg okD (codeOf Try.f30) = true := by kernel_rfl
theorem calls (a_0 : Sl) (b_1 : Sl) (n_2 : Int) {w : World} {R : Ending → World → Prop} (h : E std a_0 b_1 n_2 w R) : Calls PP F.impl_AreWilfLike #[Sl.v a_0, Sl.v b_1, vI n_2] w R :=
  calls_of noCount mixed drawOk Try.func30 rfl (c := cfg) (args := [Sl.v a_0, Sl.v b_1, vI n_2]) rfl (Nat.le_of_ble_eq_true (by kernel_rfl)) drawsOk h
end impl_AreWilfLike

namespace laws_FnExactAreWilfLike
@[reducible] def cfg : Cfg := ⟨49, [], [], [], [6], [], [93, 51, 18, 26, 23, 44, 60, 19, 57, 123, 109, 126, 53, 100], [61, 85, 110, 74, 127, 120]⟩
def E (pr : Prims) (aA_0 : Sl) (aB_1 : Sl) (aN_2 : Int) (w : World) (R : Ending → World → Prop) : Prop :=
  wpC pr PP cfg (DD pr) (codeOf Try.f6) (retQ Try.f6.results.toList R) (argE 0 [Sl.v aA_0, Sl.v aB_1, vI aN_2]) w
theorem E_eq (pr : Prims) (aA_0 : Sl) (aB_1 : Sl) (aN_2 : Int) (w : World) (R : Ending → World → Prop) : E pr aA_0 aB_1 aN_2 w R = (
  pr.call1 (.int .i64) PP F.laws_szIntSS #[Sl.v aA_0, vI 1048576] w fun (ρ0 : Int) ω1 =>
  bif decide (ρ0 < 0) then (
  R (.returned (.bool true)) ω1)
  else (
  pr.call1 (.int .i64) PP F.laws_szIntSS #[Sl.v aB_1, vI ρ0] ω1 fun (ρ2 : Int) ω3 =>
  bif decide (ρ2 < 0) then (
  R (.returned (.bool true)) ω3)
  else (
  pr.call1 .sl PP F.laws_toIntSS #[Sl.v aA_0] ω3 fun (ρ4 : Sl) ω5 =>
  pr.call1 .sl PP F.laws_toIntSS #[Sl.v aB_1] ω5 fun (ρ6 : Sl) ω7 =>
  pr.call1 .bool PP F.spec_AreWilfLike #[Sl.v ρ4, Sl.v ρ6, vI aN_2] ω7 fun (ρ8 : Bool) ω9 =>
  pr.call1 .sl PP F.laws_toIntSS #[Sl.v aA_0] ω9 fun (ρ10 : Sl) ω11 =>
  pr.call1 .sl PP F.laws_toIntSS #[Sl.v aB_1] ω11 fun (ρ12 : Sl) ω13 =>
  pr.call1 .bool PP F.impl_AreWilfLike #[Sl.v ρ10, Sl.v ρ12, vI aN_2] ω13 fun (ρ14 : Bool) ω15 =>
  bif !(ρ14 == ρ8) then (
  R (.returned (.bool false)) ω15)
  else (
  pr.call1 .sl PP F.laws_toIntSS #[Sl.v aA_0] ω15 fun (ρ16 : Sl) ω17 =>
  pr.call1 .bool PP F.laws_eqIntSS #[Sl.v ρ10, Sl.v ρ16] ω17 fun (ρ18 : Bool) ω19 =>
  bif !ρ18 then (
  R (.returned (.bool false)) ω19)
  else (
  pr.call1 .sl PP F.laws_toIntSS #[Sl.v aB_1] ω19 fun (ρ20 : Sl) ω21 =>
  pr.call1 .bool PP F.laws_eqIntSS #[Sl.v ρ12, Sl.v ρ20] ω21 fun (ρ22 : Bool) ω23 =>
  bif !ρ22 then (
  R (.returned (.bool false)) ω23)
  else (
  R (.returned (.bool true)) ω23)))))) := by kernel_rfl
theorem E_s (aA_0 : Sl) (aB_1 : Sl) (aN_2 : Int) (w : World) (R : Ending → World → Prop) : E std aA_0 aB_1 aN_2 w R = (
  call1 (.int .i64) PP F.laws_szIntSS #[Sl.v aA_0, vI 1048576] w fun (ρ0 : Int) ω1 =>
  bif decide (ρ0 < 0) then (
  R (.returned (.bool true)) ω1)
  else (
  call1 (.int .i64) PP F.laws_szIntSS #[Sl.v aB_1, vI ρ0] ω1 fun (ρ2 : Int) ω3 =>
  bif decide (ρ2 < 0) then (
  R (.returned (.bool true)) ω3)
  else (
  call1 .sl PP F.laws_toIntSS #[Sl.v aA_0] ω3 fun (ρ4 : Sl) ω5 =>
  call1 .sl PP F.laws_toIntSS #[Sl.v aB_1] ω5 fun (ρ6 : Sl) ω7 =>
  call1 .bool PP F.spec_AreWilfLike #[Sl.v ρ4, Sl.v ρ6, vI aN_2] ω7 fun (ρ8 : Bool) ω9 =>
  call1 .sl PP F.laws_toIntSS #[Sl.v aA_0] ω9 fun (ρ10 : Sl) ω11 =>
  call1 .sl PP F.laws_toIntSS #[Sl.v aB_1] ω11 fun (ρ12 : Sl) ω13 =>
  call1 .bool PP F.impl_AreWilfLike #[Sl.v ρ10, Sl.v ρ12, vI aN_2] ω13 fun (ρ14 : Bool) ω15 =>
  bif !(ρ14 == ρ8) then (
  R (.returned (.bool false)) ω15)
  else (
  call1 .sl PP F.laws_toIntSS #[Sl.v aA_0] ω15 fun (ρ16 : Sl) ω17 =>
  call1 .bool PP F.laws_eqIntSS #[Sl.v ρ10, Sl.v ρ16] ω17 fun (ρ18 : Bool) ω19 =>
  bif !ρ18 then (
  R (.returned (.bool false)) ω19)
  else (
  call1 .sl PP F.laws_toIntSS #[Sl.v aB_1] ω19 fun (ρ20 : Sl) ω21 =>
  call1 .bool PP F.laws_eqIntSS #[Sl.v ρ12, Sl.v ρ20] ω21 fun (ρ22 : Bool) ω23 =>
  bif !ρ22 then (
  R (.returned (.bool false)) ω23)
  else (
  R (.returned (.bool true)) ω23)))))) := E_eq std aA_0 aB_1 aN_2 w R
theorem drawsOk : drawsOk PP cfg okD (codeOf Try.f6) = true := by kernel_rfl
theorem calls (aA_0 : Sl) (aB_1 : Sl) (aN_2 : Int) {w : World} {R : Ending → World → Prop} (h : E std aA_0 aB_1 aN_2 w R) : Calls PP F.laws_FnExactAreWilfLike #[Sl.v aA_0, Sl.v aB_1, vI aN_2] w R :=
  calls_of noCount mixed drawOk Try.func6 rfl (c := cfg) (args := [Sl.v aA_0, Sl.v aB_1, vI aN_2]) rfl (Nat.le_of_ble_eq_true (by kernel_rfl)) drawsOk h
end laws_FnExactAreWilfLike

end Go.Proofs.Ythbjkgpbnfibkaa
