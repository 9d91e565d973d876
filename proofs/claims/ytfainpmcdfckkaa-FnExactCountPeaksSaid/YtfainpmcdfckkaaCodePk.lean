/- What each function does, step by step, written by a program (Gen.lean); each equation is checked by the kernel. -/
import Derived.Test.YtfainpmcdfckkaaHead
namespace Go.Proofs.Ytfainpmcdfckkaa
open Go
set_option linter.unusedVariables false
set_option maxRecDepth 100000
namespace impl_CountPeaks
@[reducible] def cfg : Cfg := ⟨8, [], [], [], [2], [], [91, 60, 17, 21, 24, 26, 65, 27, 82, 64, 85, 108, 78, 53, 51], [86, 52, 88]⟩
def E (pr : Prims) (text_0 : ByteArray) (w : World) (R : Ending → World → Prop) : Prop :=
  wpC pr PP cfg (DD pr) (codeOf Try.f32) (retQ Try.f32.results.toList R) (argE 0 [.string text_0]) w
theorem E_eq (pr : Prims) (text_0 : ByteArray) (w : World) (R : Ending → World → Prop) : E pr text_0 w R = (
  pr.call1 .bool PP F.impl_IsPath #[.string text_0] w fun (ρ0 : Bool) ω1 =>
  bif !ρ0 then (
  R (.returned (vI (-1))) ω1)
  else (
  pr.call1 (.int .i64) PP F.strings_Count #[.string text_0, .string (⟨#[85, 68]⟩ : ByteArray)] ω1 fun (ρ2 : Int) ω3 =>
  R (.returned (vI ρ2)) ω3)) := by kernel_rfl
theorem E_s (text_0 : ByteArray) (w : World) (R : Ending → World → Prop) : E std text_0 w R = (
  call1 .bool PP F.impl_IsPath #[.string text_0] w fun (ρ0 : Bool) ω1 =>
  bif !ρ0 then (
  R (.returned (vI (-1))) ω1)
  else (
  call1 (.int .i64) PP F.strings_Count #[.string text_0, .string (⟨#[85, 68]⟩ : ByteArray)] ω1 fun (ρ2 : Int) ω3 =>
  R (.returned (vI ρ2)) ω3)) := E_eq std text_0 w R
theorem drawsOk : drawsOk PP cfg okD (codeOf Try.f32) = true := by kernel_rfl
theorem calls (text_0 : ByteArray) {w : World} {R : Ending → World → Prop} (h : E std text_0 w R) : Calls PP F.impl_CountPeaks #[.string text_0] w R :=
  calls_of noCount mixed drawOk Try.func32 rfl (c := cfg) (args := [.string text_0]) rfl (Nat.le_of_ble_eq_true (by kernel_rfl)) drawsOk h
end impl_CountPeaks

namespace spec_CountPeaks
@[reducible] def cfg : Cfg := ⟨29, [(5, [0, 3, 4])], [(1, [0, 3, 4]), (0, [3])], [], [2], [], [91, 60, 17, 21, 24, 26, 65, 27, 82, 64, 85, 108, 78, 53, 51], [86, 52, 88]⟩
def q2 (pr : Prims) (R : Ending → World → Prop) : Exit → Env → World → Prop := fun ex e w => normQ ex (fun e w => contE pr cfg (sub (codeOf Try.f31) [1, 1, 1, 1]) (fun e w => wpC pr PP cfg (DD pr) (sub (codeOf Try.f31) [1, 1, 1, 1]) (retQ Try.f31.results.toList R) e w) e w) (retQ Try.f31.results.toList R) e w
def q3 (pr : Prims) (R : Ending → World → Prop) : Exit → Env → World → Prop := fun ex e w => blockQ ex 0 (q2 pr R) e w
def emb5 (text_0 : ByteArray) (n_3 : Int) (k_4 : Int) : Env := [(0, .string text_0), (3, vI n_3), (4, vI k_4)]
def x0 (n_3 : Int) : Env := [(3, vI n_3)]
def S5 (pr : Prims) (Q : Exit → Env → World → Prop) : (Env → World → Prop) → Env → World → Prop := fun k e w => wpC pr PP cfg (DD pr) (sub (codeOf Try.f31) [1, 1, 1, 0, 1, 0, 0]) (fun ex e w => normQ ex (fun e' w' => k (Env.restr e' (lookN cfg.loops (keyOf (sub (codeOf Try.f31) [1, 1, 1, 0, 1, 0, 0])))) w') Q e w) e w
def B5 (pr : Prims) (text_0 : ByteArray) (n_3 : Int) (k_4 : Int) (w : World) (k : Env → World → Prop) (Q : Exit → Env → World → Prop) : Prop :=
  S5 pr Q k (emb5 text_0 n_3 k_4) w
def L5 (pr : Prims) (text_0 : ByteArray) (n_3 : Int) (k_4 : Int) (w : World) (Q : Exit → Env → World → Prop) : Prop :=
  pr.loop (S5 pr Q) (emb5 text_0 n_3 k_4) w
def E (pr : Prims) (text_0 : ByteArray) (w : World) (R : Ending → World → Prop) : Prop :=
  wpC pr PP cfg (DD pr) (codeOf Try.f31) (retQ Try.f31.results.toList R) (argE 0 [.string text_0]) w
theorem B5_eq (pr : Prims) (text_0 : ByteArray) (n_3 : Int) (k_4 : Int) (w : World) (k : Env → World → Prop) (Q : Exit → Env → World → Prop) : B5 pr text_0 n_3 k_4 w k Q = (
  bif decide (k_4 < (text_0.size : Int)) then (
  pr.strIdxK text_0 (w64 (k_4 - 1)) fun (b4 : Int) =>
  bif b4 == 85 then (
  pr.strIdxK text_0 k_4 fun (b5 : Int) =>
  pr.pcall1 (.int .i64) PP F.spec_l1Bit #[.bool (b5 == 68)] fun (ρ6 : Int) =>
  k (emb5 text_0 (w64 (n_3 + ρ6)) (w64 (k_4 + 1))) w)
  else (
  pr.pcall1 (.int .i64) PP F.spec_l1Bit #[.bool false] fun (ρ7 : Int) =>
  k (emb5 text_0 (w64 (n_3 + ρ7)) (w64 (k_4 + 1))) w))
  else (
  Q (.exit 0) (x0 n_3) w)) := by kernel_rfl
theorem B5_s (text_0 : ByteArray) (n_3 : Int) (k_4 : Int) (w : World) (k : Env → World → Prop) (Q : Exit → Env → World → Prop) : B5 std text_0 n_3 k_4 w k Q = (
  bif decide (k_4 < (text_0.size : Int)) then (
  strIdxK text_0 (w64 (k_4 - 1)) fun (b4 : Int) =>
  bif b4 == 85 then (
  strIdxK text_0 k_4 fun (b5 : Int) =>
  pcall1 (.int .i64) PP F.spec_l1Bit #[.bool (b5 == 68)] fun (ρ6 : Int) =>
  k (emb5 text_0 (w64 (n_3 + ρ6)) (w64 (k_4 + 1))) w)
  else (
  pcall1 (.int .i64) PP F.spec_l1Bit #[.bool false] fun (ρ7 : Int) =>
  k (emb5 text_0 (w64 (n_3 + ρ7)) (w64 (k_4 + 1))) w))
  else (
  Q (.exit 0) (x0 n_3) w)) := B5_eq std text_0 n_3 k_4 w k Q
theorem L5_rule (text_0 : ByteArray) (n_3 : Int) (k_4 : Int) (w : World) (Q : Exit → Env → World → Prop) (I : Int → Int → World → Prop) (μ : Int → Int → World → Nat) (h0 : I n_3 k_4 w)
    (h : ∀ (n_3 : Int) (k_4 : Int) (w' : World), I n_3 k_4 w' → B5 std text_0 n_3 k_4 w' (fun e2 w2 => ∃ n_3_n k_4_n, e2 = emb5 text_0 n_3_n k_4_n ∧ I n_3_n k_4_n w2 ∧ μ n_3_n k_4_n w2 < μ n_3 k_4 w') Q) :
    L5 std text_0 n_3 k_4 w Q := by
  unfold L5
  refine LoopE.intro (σ := Int × Int) (step := S5 std Q) (fun s => emb5 text_0 s.1 s.2) (fun s w => I s.1 s.2 w) (fun s w => μ s.1 s.2 w) (n_3, k_4) rfl h0 ?_
  intro s w' hI
  have h1 := h s.1 s.2 w' hI
  unfold B5 at h1
  simp only [Prod.exists]
  exact h1
theorem A5_0_eq (pr : Prims) (n_3 : Int) (w : World) (R : Ending → World → Prop) : (q3 pr R) (.exit 0) (x0 n_3) w = (
  R (.returned (vI n_3)) w) := by kernel_rfl
theorem A5_0_s (n_3 : Int) (w : World) (R : Ending → World → Prop) : (q3 std R) (.exit 0) (x0 n_3) w = (
  R (.returned (vI n_3)) w) := A5_0_eq std n_3 w R
theorem E_eq (pr : Prims) (text_0 : ByteArray) (w : World) (R : Ending → World → Prop) : E pr text_0 w R = (
  pr.call1 .bool PP F.spec_IsPath #[.string text_0] w fun (ρ0 : Bool) ω1 =>
  bif !ρ0 then (
  R (.returned (vI (-1))) ω1)
  else (
  L5 pr text_0 0 1 ω1 (q3 pr R))) := by kernel_rfl
theorem E_s (text_0 : ByteArray) (w : World) (R : Ending → World → Prop) : E std text_0 w R = (
  call1 .bool PP F.spec_IsPath #[.string text_0] w fun (ρ0 : Bool) ω1 =>
  bif !ρ0 then (
  R (.returned (vI (-1))) ω1)
  else (
  L5 std text_0 0 1 ω1 (q3 std R))) := E_eq std text_0 w R
theorem drawsOk : drawsOk PP cfg okD (codeOf Try.f31) = true := by kernel_rfl
theorem calls (text_0 : ByteArray) {w : World} {R : Ending → World → Prop} (h : E std text_0 w R) : Calls PP F.spec_CountPeaks #[.string text_0] w R :=
  calls_of noCount mixed drawOk Try.func31 rfl (c := cfg) (args := [.string text_0]) rfl (Nat.le_of_ble_eq_true (by kernel_rfl)) drawsOk h
end spec_CountPeaks

namespace laws_FnExactCountPeaks
@[reducible] def cfg : Cfg := ⟨15, [], [], [], [2], [], [91, 60, 17, 21, 24, 26, 65, 27, 82, 64, 85, 108, 78, 53, 51], [86, 52, 88]⟩
def E (pr : Prims) (aText_0 : ByteArray) (w : World) (R : Ending → World → Prop) : Prop :=
  wpC pr PP cfg (DD pr) (codeOf Try.f7) (retQ Try.f7.results.toList R) (argE 0 [.string aText_0]) w
theorem E_eq (pr : Prims) (aText_0 : ByteArray) (w : World) (R : Ending → World → Prop) : E pr aText_0 w R = (
  bif decide ((aText_0.size : Int) > 1048576) then (
  R (.returned (.bool true)) w)
  else (
  pr.call1 (.int .i64) PP F.spec_CountPeaks #[.string aText_0] w fun (ρ0 : Int) ω1 =>
  pr.call1 (.int .i64) PP F.impl_CountPeaks #[.string aText_0] ω1 fun (ρ2 : Int) ω3 =>
  bif ρ2 != ρ0 then (
  R (.returned (.bool false)) ω3)
  else (
  R (.returned (.bool true)) ω3))) := by kernel_rfl
theorem E_s (aText_0 : ByteArray) (w : World) (R : Ending → World → Prop) : E std aText_0 w R = (
  bif decide ((aText_0.size : Int) > 1048576) then (
  R (.returned (.bool true)) w)
  else (
  call1 (.int .i64) PP F.spec_CountPeaks #[.string aText_0] w fun (ρ0 : Int) ω1 =>
  call1 (.int .i64) PP F.impl_CountPeaks #[.string aText_0] ω1 fun (ρ2 : Int) ω3 =>
  bif ρ2 != ρ0 then (
  R (.returned (.bool false)) ω3)
  else (
  R (.returned (.bool true)) ω3))) := E_eq std aText_0 w R
theorem drawsOk : drawsOk PP cfg okD (codeOf Try.f7) = true := by kernel_rfl
theorem calls (aText_0 : ByteArray) {w : World} {R : Ending → World → Prop} (h : E std aText_0 w R) : Calls PP F.laws_FnExactCountPeaks #[.string aText_0] w R :=
  calls_of noCount mixed drawOk Try.func7 rfl (c := cfg) (args := [.string aText_0]) rfl (Nat.le_of_ble_eq_true (by kernel_rfl)) drawsOk h
end laws_FnExactCountPeaks

end Go.Proofs.Ytfainpmcdfckkaa
