/- What each function does, step by step, written by a program (Gen.lean); each equation is checked by the kernel. -/
import Derived.Test.YtfainpmcdfckkaaHead
namespace Go.Proofs.Ytfainpmcdfckkaa
open Go
set_option linter.unusedVariables false
set_option maxRecDepth 100000
namespace impl_heights
@[reducible] def cfg : Cfg := ⟨39, [(4, [0, 4, 5, 9, 10])], [(2, [0, 4, 5, 9, 10]), (1, [0, 4, 5, 9, 10]), (0, [0, 4, 5])], [], [2, 3], [], [91, 60, 17, 21, 24, 26, 65, 27, 82, 64, 85, 108, 78, 53, 51], [86, 52, 88]⟩
def q2 (pr : Prims) (R : Ending → World → Prop) : Exit → Env → World → Prop := fun ex e w => normQ ex (fun e w => contE pr cfg (sub (codeOf Try.f57) [1, 1, 1, 1]) (fun e w => wpC pr PP cfg (DD pr) (sub (codeOf Try.f57) [1, 1, 1, 1]) (retQ Try.f57.results.toList R) e w) e w) (retQ Try.f57.results.toList R) e w
def q3 (pr : Prims) (R : Ending → World → Prop) : Exit → Env → World → Prop := fun ex e w => blockQ ex 0 (q2 pr R) e w
def emb4 (text_0 : ByteArray) (out_4 : Sl) (h_5 : Int) (t9 : Int) (t10 : Int) : Env := [(0, .string text_0), (4, Sl.v out_4), (5, vI h_5), (9, vI t9), (10, vI t10)]
def x0 (text_0 : ByteArray) (out_4 : Sl) (h_5 : Int) : Env := [(0, .string text_0), (4, Sl.v out_4), (5, vI h_5)]
def S4 (pr : Prims) (Q : Exit → Env → World → Prop) : (Env → World → Prop) → Env → World → Prop := fun k e w => wpC pr PP cfg (DD pr) (sub (codeOf Try.f57) [1, 1, 1, 0, 1, 0, 0]) (fun ex e w => normQ ex (fun e' w' => k (Env.restr e' (lookN cfg.loops (keyOf (sub (codeOf Try.f57) [1, 1, 1, 0, 1, 0, 0])))) w') Q e w) e w
def B4 (pr : Prims) (text_0 : ByteArray) (out_4 : Sl) (h_5 : Int) (t9 : Int) (t10 : Int) (w : World) (k : Env → World → Prop) (Q : Exit → Env → World → Prop) : Prop :=
  S4 pr Q k (emb4 text_0 out_4 h_5 t9 t10) w
def L4 (pr : Prims) (text_0 : ByteArray) (out_4 : Sl) (h_5 : Int) (t9 : Int) (t10 : Int) (w : World) (Q : Exit → Env → World → Prop) : Prop :=
  pr.loop (S4 pr Q) (emb4 text_0 out_4 h_5 t9 t10) w
def E (pr : Prims) (text_0 : ByteArray) (w : World) (R : Ending → World → Prop) : Prop :=
  wpC pr PP cfg (DD pr) (codeOf Try.f57) (retQ Try.f57.results.toList R) (argE 0 [.string text_0]) w
theorem B4_eq (pr : Prims) (text_0 : ByteArray) (out_4 : Sl) (h_5 : Int) (t9 : Int) (t10 : Int) (w : World) (k : Env → World → Prop) (Q : Exit → Env → World → Prop) : B4 pr text_0 out_4 h_5 t9 t10 w k Q = (
  bif decide (t10 < t9) then (
  pr.strIdxK text_0 t10 fun (b4 : Int) =>
  bif b4 == 85 then (
  bif decide ((w64 (h_5 + 1)) < 0) then (
  Q .ret [(2, Sl.v Sl.nil), (3, .bool false)] w)
  else (
  pr.sem1 .sl PP (Instr.buildSlice T_Sint 1 #[(0, vI (w64 (h_5 + 1)))]) w fun (ρ5 : Sl) ω6 =>
  pr.sem1 .sl PP (Builtin.append_ #[T_Sint, T_Sint] T_Sint #[Sl.v out_4, Sl.v ρ5]) ω6 fun (ρ7 : Sl) ω8 =>
  k (emb4 text_0 ρ7 (w64 (h_5 + 1)) t9 (w64 (t10 + 1))) ω8))
  else (
  bif b4 == 68 then (
  bif decide ((w64 (h_5 - 1)) < 0) then (
  Q .ret [(2, Sl.v Sl.nil), (3, .bool false)] w)
  else (
  pr.sem1 .sl PP (Instr.buildSlice T_Sint 1 #[(0, vI (w64 (h_5 - 1)))]) w fun (ρ9 : Sl) ω10 =>
  pr.sem1 .sl PP (Builtin.append_ #[T_Sint, T_Sint] T_Sint #[Sl.v out_4, Sl.v ρ9]) ω10 fun (ρ11 : Sl) ω12 =>
  k (emb4 text_0 ρ11 (w64 (h_5 - 1)) t9 (w64 (t10 + 1))) ω12))
  else (
  Q .ret [(2, Sl.v Sl.nil), (3, .bool false)] w)))
  else (
  Q (.exit 0) (x0 text_0 out_4 h_5) w)) := by kernel_rfl
theorem B4_s (text_0 : ByteArray) (out_4 : Sl) (h_5 : Int) (t9 : Int) (t10 : Int) (w : World) (k : Env → World → Prop) (Q : Exit → Env → World → Prop) : B4 std text_0 out_4 h_5 t9 t10 w k Q = (
  bif decide (t10 < t9) then (
  strIdxK text_0 t10 fun (b4 : Int) =>
  bif b4 == 85 then (
  bif decide ((w64 (h_5 + 1)) < 0) then (
  Q .ret [(2, Sl.v Sl.nil), (3, .bool false)] w)
  else (
  sem1 .sl PP (Instr.buildSlice T_Sint 1 #[(0, vI (w64 (h_5 + 1)))]) w fun (ρ5 : Sl) ω6 =>
  sem1 .sl PP (Builtin.append_ #[T_Sint, T_Sint] T_Sint #[Sl.v out_4, Sl.v ρ5]) ω6 fun (ρ7 : Sl) ω8 =>
  k (emb4 text_0 ρ7 (w64 (h_5 + 1)) t9 (w64 (t10 + 1))) ω8))
  else (
  bif b4 == 68 then (
  bif decide ((w64 (h_5 - 1)) < 0) then (
  Q .ret [(2, Sl.v Sl.nil), (3, .bool false)] w)
  else (
  sem1 .sl PP (Instr.buildSlice T_Sint 1 #[(0, vI (w64 (h_5 - 1)))]) w fun (ρ9 : Sl) ω10 =>
  sem1 .sl PP (Builtin.append_ #[T_Sint, T_Sint] T_Sint #[Sl.v out_4, Sl.v ρ9]) ω10 fun (ρ11 : Sl) ω12 =>
  k (emb4 text_0 ρ11 (w64 (h_5 - 1)) t9 (w64 (t10 + 1))) ω12))
  else (
  Q .ret [(2, Sl.v Sl.nil), (3, .bool false)] w)))
  else (
  Q (.exit 0) (x0 text_0 out_4 h_5) w)) := B4_eq std text_0 out_4 h_5 t9 t10 w k Q
theorem L4_rule (text_0 : ByteArray) (out_4 : Sl) (h_5 : Int) (t9 : Int) (t10 : Int) (w : World) (Q : Exit → Env → World → Prop) (I : Sl → Int → Int → World → Prop) (μ : Sl → Int → Int → World → Nat) (h0 : I out_4 h_5 t10 w)
    (h : ∀ (out_4 : Sl) (h_5 : Int) (t10 : Int) (w' : World), I out_4 h_5 t10 w' → B4 std text_0 out_4 h_5 t9 t10 w' (fun e2 w2 => ∃ out_4_n h_5_n t10_n, e2 = emb4 text_0 out_4_n h_5_n t9 t10_n ∧ I out_4_n h_5_n t10_n w2 ∧ μ out_4_n h_5_n t10_n w2 < μ out_4 h_5 t10 w') Q) :
    L4 std text_0 out_4 h_5 t9 t10 w Q := by
  unfold L4
  refine LoopE.intro (σ := Sl × Int × Int) (step := S4 std Q) (fun s => emb4 text_0 s.1 s.2.1 t9 s.2.2) (fun s w => I s.1 s.2.1 s.2.2 w) (fun s w => μ s.1 s.2.1 s.2.2 w) (out_4, h_5, t10) rfl h0 ?_
  intro s w' hI
  have h1 := h s.1 s.2.1 s.2.2 w' hI
  unfold B4 at h1
  simp only [Prod.exists]
  exact h1
theorem A4_0_eq (pr : Prims) (text_0 : ByteArray) (out_4 : Sl) (h_5 : Int) (w : World) (R : Ending → World → Prop) : (q3 pr R) (.exit 0) (x0 text_0 out_4 h_5) w = (
  bif h_5 == 0 then (
  R (.returned (.tuple #[Sl.v out_4, .bool (decide ((text_0.size : Int) ≤ 16))])) w)
  else (
  R (.returned (.tuple #[Sl.v out_4, .bool false])) w)) := by kernel_rfl
theorem A4_0_s (text_0 : ByteArray) (out_4 : Sl) (h_5 : Int) (w : World) (R : Ending → World → Prop) : (q3 std R) (.exit 0) (x0 text_0 out_4 h_5) w = (
  bif h_5 == 0 then (
  R (.returned (.tuple #[Sl.v out_4, .bool (decide ((text_0.size : Int) ≤ 16))])) w)
  else (
  R (.returned (.tuple #[Sl.v out_4, .bool false])) w)) := A4_0_eq std text_0 out_4 h_5 w R
theorem R4_eq (pr : Prims) (v2 : Value) (v3 : Value) (w : World) (R : Ending → World → Prop) : (q3 pr R) .ret [(2, v2), (3, v3)] w = (
  R (.returned (.tuple #[v2, v3])) w) := by kernel_rfl
theorem R4_s (v2 : Value) (v3 : Value) (w : World) (R : Ending → World → Prop) : (q3 std R) .ret [(2, v2), (3, v3)] w = (
  R (.returned (.tuple #[v2, v3])) w) := R4_eq std v2 v3 w R
theorem E_eq (pr : Prims) (text_0 : ByteArray) (w : World) (R : Ending → World → Prop) : E pr text_0 w R = (
  pr.sem1 .sl PP (Instr.buildSlice T_Sint 0 #[]) w fun (ρ0 : Sl) ω1 =>
  L4 pr text_0 ρ0 0 (text_0.size : Int) 0 ω1 (q3 pr R)) := by kernel_rfl
theorem E_s (text_0 : ByteArray) (w : World) (R : Ending → World → Prop) : E std text_0 w R = (
  sem1 .sl PP (Instr.buildSlice T_Sint 0 #[]) w fun (ρ0 : Sl) ω1 =>
  L4 std text_0 ρ0 0 (text_0.size : Int) 0 ω1 (q3 std R)) := E_eq std text_0 w R
theorem drawsOk : drawsOk PP cfg okD (codeOf Try.f57) = true := by kernel_rfl
theorem calls (text_0 : ByteArray) {w : World} {R : Ending → World → Prop} (h : E std text_0 w R) : Calls PP F.impl_heights #[.string text_0] w R :=
  calls_of noCount mixed drawOk Try.func57 rfl (c := cfg) (args := [.string text_0]) rfl (Nat.le_of_ble_eq_true (by kernel_rfl)) drawsOk h
end impl_heights

namespace impl_IsPath
@[reducible] def cfg : Cfg := ⟨11, [], [], [], [2], [], [91, 60, 17, 21, 24, 26, 65, 27, 82, 64, 85, 108, 78, 53, 51], [86, 52, 88]⟩
def E (pr : Prims) (text_0 : ByteArray) (w : World) (R : Ending → World → Prop) : Prop :=
  wpC pr PP cfg (DD pr) (codeOf Try.f70) (retQ Try.f70.results.toList R) (argE 0 [.string text_0]) w
theorem E_eq (pr : Prims) (text_0 : ByteArray) (w : World) (R : Ending → World → Prop) : E pr text_0 w R = (
  pr.call2 .sl .bool PP F.impl_heights #[.string text_0] w fun (ρ0 : Sl) (ρ1 : Bool) ω2 =>
  R (.returned (.bool ρ1)) ω2) := by kernel_rfl
theorem E_s (text_0 : ByteArray) (w : World) (R : Ending → World → Prop) : E std text_0 w R = (
  call2 .sl .bool PP F.impl_heights #[.string text_0] w fun (ρ0 : Sl) (ρ1 : Bool) ω2 =>
  R (.returned (.bool ρ1)) ω2) := E_eq std text_0 w R
theorem drawsOk : drawsOk PP cfg okD (codeOf Try.f70) = true := by kernel_rfl
theorem calls (text_0 : ByteArray) {w : World} {R : Ending → World → Prop} (h : E std text_0 w R) : Calls PP F.impl_IsPath #[.string text_0] w R :=
  calls_of noCount mixed drawOk Try.func70 rfl (c := cfg) (args := [.string text_0]) rfl (Nat.le_of_ble_eq_true (by kernel_rfl)) drawsOk h
end impl_IsPath

namespace spec_IsPath
@[reducible] def cfg : Cfg := ⟨40, [(3, [0, 3, 4])], [(1, [0, 3, 4]), (0, [0, 3])], [(8, [0, 3, 4])], [2], [], [91, 60, 17, 21, 24, 26, 65, 27, 82, 64, 85, 108, 78, 53, 51], [86, 52, 88]⟩
def q0 (pr : Prims) (R : Ending → World → Prop) : Exit → Env → World → Prop := fun ex e w => normQ ex (fun e w => contE pr cfg (sub (codeOf Try.f55) [1, 1, 1]) (fun e w => wpC pr PP cfg (DD pr) (sub (codeOf Try.f55) [1, 1, 1]) (retQ Try.f55.results.toList R) e w) e w) (retQ Try.f55.results.toList R) e w
def q1 (pr : Prims) (R : Ending → World → Prop) : Exit → Env → World → Prop := fun ex e w => blockQ ex 0 (q0 pr R) e w
def q2 (pr : Prims) (k : Env → World → Prop) (Q : Exit → Env → World → Prop) : Exit → Env → World → Prop := fun ex e w => normQ ex (fun e w => contE pr cfg (sub (codeOf Try.f55) [1, 1, 0, 1, 0, 0, 1, 1]) (fun e w => wpC pr PP cfg (DD pr) (sub (codeOf Try.f55) [1, 1, 0, 1, 0, 0, 1, 1]) (fun ex e w => normQ ex (fun e' w' => k (Env.restr e' (lookN cfg.loops (keyOf (sub (codeOf Try.f55) [1, 1, 0, 1, 0, 0])))) w') Q e w) e w) e w) (fun ex e w => normQ ex (fun e' w' => k (Env.restr e' (lookN cfg.loops (keyOf (sub (codeOf Try.f55) [1, 1, 0, 1, 0, 0])))) w') Q e w) e w
def q3 (pr : Prims) (k : Env → World → Prop) (Q : Exit → Env → World → Prop) : Exit → Env → World → Prop := fun ex e w => blockQ ex 1 (q2 pr k Q) e w
def q4 (pr : Prims) (k : Env → World → Prop) (Q : Exit → Env → World → Prop) : Exit → Env → World → Prop := fun ex e w => normQ ex (fun e w => contE pr cfg (sub (codeOf Try.f55) [1, 1, 0, 1, 0, 0, 1, 0, 0, 1]) (fun e w => wpC pr PP cfg (DD pr) (sub (codeOf Try.f55) [1, 1, 0, 1, 0, 0, 1, 0, 0, 1]) (q3 pr k Q) e w) e w) (q3 pr k Q) e w
def emb3 (text_0 : ByteArray) (h_3 : Int) (k_4 : Int) : Env := [(0, .string text_0), (3, vI h_3), (4, vI k_4)]
def j8 (text_0 : ByteArray) (h_3 : Int) (k_4 : Int) : Env := [(0, .string text_0), (3, vI h_3), (4, vI k_4)]
def x0 (text_0 : ByteArray) (h_3 : Int) : Env := [(0, .string text_0), (3, vI h_3)]
def S3 (pr : Prims) (Q : Exit → Env → World → Prop) : (Env → World → Prop) → Env → World → Prop := fun k e w => wpC pr PP cfg (DD pr) (sub (codeOf Try.f55) [1, 1, 0, 1, 0, 0]) (fun ex e w => normQ ex (fun e' w' => k (Env.restr e' (lookN cfg.loops (keyOf (sub (codeOf Try.f55) [1, 1, 0, 1, 0, 0])))) w') Q e w) e w
def J8 (pr : Prims) (text_0 : ByteArray) (h_3 : Int) (k_4 : Int) (w : World) (k : Env → World → Prop) (Q : Exit → Env → World → Prop) : Prop :=
  pr.seg (fun e w => wpC pr PP cfg (DD pr) (sub (codeOf Try.f55) [1, 1, 0, 1, 0, 0, 1, 0, 0, 1]) (q3 pr k Q) e w) (j8 text_0 h_3 k_4) w
def B3 (pr : Prims) (text_0 : ByteArray) (h_3 : Int) (k_4 : Int) (w : World) (k : Env → World → Prop) (Q : Exit → Env → World → Prop) : Prop :=
  S3 pr Q k (emb3 text_0 h_3 k_4) w
def L3 (pr : Prims) (text_0 : ByteArray) (h_3 : Int) (k_4 : Int) (w : World) (Q : Exit → Env → World → Prop) : Prop :=
  pr.loop (S3 pr Q) (emb3 text_0 h_3 k_4) w
def E (pr : Prims) (text_0 : ByteArray) (w : World) (R : Ending → World → Prop) : Prop :=
  wpC pr PP cfg (DD pr) (codeOf Try.f55) (retQ Try.f55.results.toList R) (argE 0 [.string text_0]) w
theorem J8_gen (pr : Prims) (text_0 : ByteArray) (h_3 : Int) (k_4 : Int) (w : World) (k : Env → World → Prop) (Q : Exit → Env → World → Prop) : wpC pr PP cfg (DD pr) (sub (codeOf Try.f55) [1, 1, 0, 1, 0, 0, 1, 0, 0, 1]) (q3 pr k Q) (j8 text_0 h_3 k_4) w = (
  bif decide (h_3 < 0) then (
  Q .ret [(2, .bool false)] w)
  else (
  pr.strIdxK text_0 k_4 fun (b6 : Int) =>
  bif b6 != 85 then (
  pr.strIdxK text_0 k_4 fun (b7 : Int) =>
  bif b7 != 68 then (
  Q .ret [(2, .bool false)] w)
  else (
  k (emb3 text_0 h_3 (w64 (k_4 + 1))) w))
  else (
  k (emb3 text_0 h_3 (w64 (k_4 + 1))) w))) := by kernel_rfl
theorem J8_s (text_0 : ByteArray) (h_3 : Int) (k_4 : Int) (w : World) (k : Env → World → Prop) (Q : Exit → Env → World → Prop) : J8 std text_0 h_3 k_4 w k Q = (
  bif decide (h_3 < 0) then (
  Q .ret [(2, .bool false)] w)
  else (
  strIdxK text_0 k_4 fun (b6 : Int) =>
  bif b6 != 85 then (
  strIdxK text_0 k_4 fun (b7 : Int) =>
  bif b7 != 68 then (
  Q .ret [(2, .bool false)] w)
  else (
  k (emb3 text_0 h_3 (w64 (k_4 + 1))) w))
  else (
  k (emb3 text_0 h_3 (w64 (k_4 + 1))) w))) := J8_gen std text_0 h_3 k_4 w k Q
theorem B3_eq (pr : Prims) (text_0 : ByteArray) (h_3 : Int) (k_4 : Int) (w : World) (k : Env → World → Prop) (Q : Exit → Env → World → Prop) : B3 pr text_0 h_3 k_4 w k Q = (
  bif decide (k_4 < (text_0.size : Int)) then (
  pr.strIdxK text_0 k_4 fun (b5 : Int) =>
  bif b5 == 85 then (
  J8 pr text_0 (w64 (h_3 + 1)) k_4 w k Q)
  else (
  J8 pr text_0 (w64 (h_3 - 1)) k_4 w k Q))
  else (
  Q (.exit 0) (x0 text_0 h_3) w)) := by kernel_rfl
theorem B3_s (text_0 : ByteArray) (h_3 : Int) (k_4 : Int) (w : World) (k : Env → World → Prop) (Q : Exit → Env → World → Prop) : B3 std text_0 h_3 k_4 w k Q = (
  bif decide (k_4 < (text_0.size : Int)) then (
  strIdxK text_0 k_4 fun (b5 : Int) =>
  bif b5 == 85 then (
  J8 std text_0 (w64 (h_3 + 1)) k_4 w k Q)
  else (
  J8 std text_0 (w64 (h_3 - 1)) k_4 w k Q))
  else (
  Q (.exit 0) (x0 text_0 h_3) w)) := B3_eq std text_0 h_3 k_4 w k Q
theorem L3_rule (text_0 : ByteArray) (h_3 : Int) (k_4 : Int) (w : World) (Q : Exit → Env → World → Prop) (I : Int → Int → World → Prop) (μ : Int → Int → World → Nat) (h0 : I h_3 k_4 w)
    (h : ∀ (h_3 : Int) (k_4 : Int) (w' : World), I h_3 k_4 w' → B3 std text_0 h_3 k_4 w' (fun e2 w2 => ∃ h_3_n k_4_n, e2 = emb3 text_0 h_3_n k_4_n ∧ I h_3_n k_4_n w2 ∧ μ h_3_n k_4_n w2 < μ h_3 k_4 w') Q) :
    L3 std text_0 h_3 k_4 w Q := by
  unfold L3
  refine LoopE.intro (σ := Int × Int) (step := S3 std Q) (fun s => emb3 text_0 s.1 s.2) (fun s w => I s.1 s.2 w) (fun s w => μ s.1 s.2 w) (h_3, k_4) rfl h0 ?_
  intro s w' hI
  have h1 := h s.1 s.2 w' hI
  unfold B3 at h1
  simp only [Prod.exists]
  exact h1
theorem A3_0_eq (pr : Prims) (text_0 : ByteArray) (h_3 : Int) (w : World) (R : Ending → World → Prop) : (q1 pr R) (.exit 0) (x0 text_0 h_3) w = (
  bif h_3 == 0 then (
  R (.returned (.bool (decide ((text_0.size : Int) ≤ 16)))) w)
  else (
  R (.returned (.bool false)) w)) := by kernel_rfl
theorem A3_0_s (text_0 : ByteArray) (h_3 : Int) (w : World) (R : Ending → World → Prop) : (q1 std R) (.exit 0) (x0 text_0 h_3) w = (
  bif h_3 == 0 then (
  R (.returned (.bool (decide ((text_0.size : Int) ≤ 16)))) w)
  else (
  R (.returned (.bool false)) w)) := A3_0_eq std text_0 h_3 w R
theorem R3_eq (pr : Prims) (v2 : Value) (w : World) (R : Ending → World → Prop) : (q1 pr R) .ret [(2, v2)] w = (
  R (.returned (v2)) w) := by kernel_rfl
theorem R3_s (v2 : Value) (w : World) (R : Ending → World → Prop) : (q1 std R) .ret [(2, v2)] w = (
  R (.returned (v2)) w) := R3_eq std v2 w R
theorem E_eq (pr : Prims) (text_0 : ByteArray) (w : World) (R : Ending → World → Prop) : E pr text_0 w R = (
  L3 pr text_0 0 0 w (q1 pr R)) := by kernel_rfl
theorem E_s (text_0 : ByteArray) (w : World) (R : Ending → World → Prop) : E std text_0 w R = (
  L3 std text_0 0 0 w (q1 std R)) := E_eq std text_0 w R
theorem drawsOk : drawsOk PP cfg okD (codeOf Try.f55) = true := by kernel_rfl
theorem calls (text_0 : ByteArray) {w : World} {R : Ending → World → Prop} (h : E std text_0 w R) : Calls PP F.spec_IsPath #[.string text_0] w R :=
  calls_of noCount mixed drawOk Try.func55 rfl (c := cfg) (args := [.string text_0]) rfl (Nat.le_of_ble_eq_true (by kernel_rfl)) drawsOk h
end spec_IsPath

end Go.Proofs.Ytfainpmcdfckkaa
