/- The texts CodeP, CodePa, Path, CodeDe, Del, PermPath, CodePh, CodeL20, LisE, L20, Pathb, PassMath, StMath, Pat3, AvMath, Av132, PaTwin, Lens, Lis, LongUp, PaChk, PaChk8 in one (gmerge.py). -/
import Derived.KernelRfl
import Derived.Test.YtlcemelmnkipmaaGreatPaM2
/- What each function does, step by step, written by a program (Gen.lean); each equation is checked by the kernel. -/
namespace Go.Proofs.YtlcemelmnkipmaaGreat
open Go
set_option linter.unusedVariables false
set_option maxRecDepth 100000
namespace impl_identity
@[reducible] def cfg : Cfg := ⟨17, [(3, [3, 6, 7])], [(1, [3, 6, 7]), (0, [3])], [], [2], [], [13, 32, 63, 81], [41, 4, 46, 44, 48]⟩
def q2 (pr : Prims) (R : Ending → World → Prop) : Exit → Env → World → Prop := fun ex e w => normQ ex (fun e w => contE pr cfg (sub (codeOf Tryz.f37) [1, 1, 1]) (fun e w => wpC pr PP cfg (DD pr) (sub (codeOf Tryz.f37) [1, 1, 1]) (retQ Tryz.f37.results.toList R) e w) e w) (retQ Tryz.f37.results.toList R) e w
def q3 (pr : Prims) (R : Ending → World → Prop) : Exit → Env → World → Prop := fun ex e w => blockQ ex 0 (q2 pr R) e w
def emb3 (out_3 : Sl) (t6 : Int) (t7 : Int) : Env := [(3, Sl.v out_3), (6, vI t6), (7, vI t7)]
def x0 (out_3 : Sl) : Env := [(3, Sl.v out_3)]
def S3 (pr : Prims) (Q : Exit → Env → World → Prop) : (Env → World → Prop) → Env → World → Prop := fun k e w => wpC pr PP cfg (DD pr) (sub (codeOf Tryz.f37) [1, 1, 0, 1, 0, 0]) (fun ex e w => normQ ex (fun e' w' => k (Env.restr e' (lookN cfg.loops (keyOf (sub (codeOf Tryz.f37) [1, 1, 0, 1, 0, 0])))) w') Q e w) e w
def B3 (pr : Prims) (out_3 : Sl) (t6 : Int) (t7 : Int) (w : World) (k : Env → World → Prop) (Q : Exit → Env → World → Prop) : Prop :=
  S3 pr Q k (emb3 out_3 t6 t7) w
def L3 (pr : Prims) (out_3 : Sl) (t6 : Int) (t7 : Int) (w : World) (Q : Exit → Env → World → Prop) : Prop :=
  pr.loop (S3 pr Q) (emb3 out_3 t6 t7) w
def E (pr : Prims) (n_0 : Int) (w : World) (R : Ending → World → Prop) : Prop :=
  wpC pr PP cfg (DD pr) (codeOf Tryz.f37) (retQ Tryz.f37.results.toList R) (argE 0 [vI n_0]) w
theorem B3_eq (pr : Prims) (out_3 : Sl) (t6 : Int) (t7 : Int) (w : World) (k : Env → World → Prop) (Q : Exit → Env → World → Prop) : B3 pr out_3 t6 t7 w k Q = (
  bif decide (t7 < t6) then (
  pr.sem1 .sl PP (Instr.buildSlice T_Sint 1 #[(0, vI (w64 (t7 + 1)))]) w fun (ρ4 : Sl) ω5 =>
  pr.sem1 .sl PP (Builtin.append_ #[T_Sint, T_Sint] T_Sint #[Sl.v out_3, Sl.v ρ4]) ω5 fun (ρ6 : Sl) ω7 =>
  k (emb3 ρ6 t6 (w64 (t7 + 1))) ω7)
  else (
  Q (.exit 0) (x0 out_3) w)) := by kernel_rfl
theorem B3_s (out_3 : Sl) (t6 : Int) (t7 : Int) (w : World) (k : Env → World → Prop) (Q : Exit → Env → World → Prop) : B3 std out_3 t6 t7 w k Q = (
  bif decide (t7 < t6) then (
  sem1 .sl PP (Instr.buildSlice T_Sint 1 #[(0, vI (w64 (t7 + 1)))]) w fun (ρ4 : Sl) ω5 =>
  sem1 .sl PP (Builtin.append_ #[T_Sint, T_Sint] T_Sint #[Sl.v out_3, Sl.v ρ4]) ω5 fun (ρ6 : Sl) ω7 =>
  k (emb3 ρ6 t6 (w64 (t7 + 1))) ω7)
  else (
  Q (.exit 0) (x0 out_3) w)) := B3_eq std out_3 t6 t7 w k Q
theorem L3_rule (out_3 : Sl) (t6 : Int) (t7 : Int) (w : World) (Q : Exit → Env → World → Prop) (I : Sl → Int → World → Prop) (μ : Sl → Int → World → Nat) (h0 : I out_3 t7 w)
    (h : ∀ (out_3 : Sl) (t7 : Int) (w' : World), I out_3 t7 w' → B3 std out_3 t6 t7 w' (fun e2 w2 => ∃ out_3_n t7_n, e2 = emb3 out_3_n t6 t7_n ∧ I out_3_n t7_n w2 ∧ μ out_3_n t7_n w2 < μ out_3 t7 w') Q) :
    L3 std out_3 t6 t7 w Q := by
  unfold L3
  refine LoopE.intro (σ := Sl × Int) (step := S3 std Q) (fun s => emb3 s.1 t6 s.2) (fun s w => I s.1 s.2 w) (fun s w => μ s.1 s.2 w) (out_3, t7) rfl h0 ?_
  intro s w' hI
  have h1 := h s.1 s.2 w' hI
  unfold B3 at h1
  simp only [Prod.exists]
  exact h1
theorem A3_0_eq (pr : Prims) (out_3 : Sl) (w : World) (R : Ending → World → Prop) : (q3 pr R) (.exit 0) (x0 out_3) w = (
  R (.returned (Sl.v out_3)) w) := by kernel_rfl
theorem A3_0_s (out_3 : Sl) (w : World) (R : Ending → World → Prop) : (q3 std R) (.exit 0) (x0 out_3) w = (
  R (.returned (Sl.v out_3)) w) := A3_0_eq std out_3 w R
theorem E_eq (pr : Prims) (n_0 : Int) (w : World) (R : Ending → World → Prop) : E pr n_0 w R = (
  pr.sem1 .sl PP (Instr.buildSlice T_Sint 0 #[]) w fun (ρ0 : Sl) ω1 =>
  L3 pr ρ0 n_0 0 ω1 (q3 pr R)) := by kernel_rfl
theorem E_s (n_0 : Int) (w : World) (R : Ending → World → Prop) : E std n_0 w R = (
  sem1 .sl PP (Instr.buildSlice T_Sint 0 #[]) w fun (ρ0 : Sl) ω1 =>
  L3 std ρ0 n_0 0 ω1 (q3 std R)) := E_eq std n_0 w R
theorem drawsOk : drawsOk PP cfg okD (codeOf Tryz.f37) = true := by kernel_rfl
theorem calls (n_0 : Int) {w : World} {R : Ending → World → Prop} (h : E std n_0 w R) : Calls PP F.impl_identity #[vI n_0] w R :=
  calls_of noCount mixed drawOk Tryz.func37 rfl (c := cfg) (args := [vI n_0]) rfl (Nat.le_of_ble_eq_true (by kernel_rfl)) drawsOk h
end impl_identity

namespace impl_PermOfPath
@[reducible] def cfg : Cfg := ⟨53, [(7, [0, 6, 7, 23, 24, 25])], [(1, [0, 6, 7, 23, 24, 25]), (0, [7])], [], [2, 3], [], [13, 32, 63, 81], [41, 4, 46, 44, 48]⟩
def q7 (pr : Prims) (R : Ending → World → Prop) : Exit → Env → World → Prop := fun ex e w => normQ ex (fun e w => contE pr cfg (sub (codeOf Tryz.f9) [1, 1, 1, 1, 1, 1]) (fun e w => wpC pr PP cfg (DD pr) (sub (codeOf Tryz.f9) [1, 1, 1, 1, 1, 1]) (retQ Tryz.f9.results.toList R) e w) e w) (retQ Tryz.f9.results.toList R) e w
def q8 (pr : Prims) (R : Ending → World → Prop) : Exit → Env → World → Prop := fun ex e w => blockQ ex 0 (q7 pr R) e w
def emb7 (text_0 : ByteArray) (left_6 : Sl) (out_7 : Sl) (t23 : Sl) (t24 : Int) (t25 : Int) : Env := [(0, .string text_0), (6, Sl.v left_6), (7, Sl.v out_7), (23, Sl.v t23), (24, vI t24), (25, vI t25)]
def x0 (out_7 : Sl) : Env := [(7, Sl.v out_7)]
def S7 (pr : Prims) (Q : Exit → Env → World → Prop) : (Env → World → Prop) → Env → World → Prop := fun k e w => wpC pr PP cfg (DD pr) (sub (codeOf Tryz.f9) [1, 1, 1, 1, 1, 0, 1, 0, 0]) (fun ex e w => normQ ex (fun e' w' => k (Env.restr e' (lookN cfg.loops (keyOf (sub (codeOf Tryz.f9) [1, 1, 1, 1, 1, 0, 1, 0, 0])))) w') Q e w) e w
def B7 (pr : Prims) (text_0 : ByteArray) (left_6 : Sl) (out_7 : Sl) (t23 : Sl) (t24 : Int) (t25 : Int) (w : World) (k : Env → World → Prop) (Q : Exit → Env → World → Prop) : Prop :=
  S7 pr Q k (emb7 text_0 left_6 out_7 t23 t24 t25) w
def L7 (pr : Prims) (text_0 : ByteArray) (left_6 : Sl) (out_7 : Sl) (t23 : Sl) (t24 : Int) (t25 : Int) (w : World) (Q : Exit → Env → World → Prop) : Prop :=
  pr.loop (S7 pr Q) (emb7 text_0 left_6 out_7 t23 t24 t25) w
def E (pr : Prims) (text_0 : ByteArray) (w : World) (R : Ending → World → Prop) : Prop :=
  wpC pr PP cfg (DD pr) (codeOf Tryz.f9) (retQ Tryz.f9.results.toList R) (argE 0 [.string text_0]) w
theorem B7_eq (pr : Prims) (text_0 : ByteArray) (left_6 : Sl) (out_7 : Sl) (t23 : Sl) (t24 : Int) (t25 : Int) (w : World) (k : Env → World → Prop) (Q : Exit → Env → World → Prop) : B7 pr text_0 left_6 out_7 t23 t24 t25 w k Q = (
  bif decide (t25 < t24) then (
  pr.idxK 1 t23 t25 fun (a9 : Addr) =>
  pr.load1 (.int .i64) a9 w fun (ξ10 : Int) =>
  pr.strIdxK text_0 t25 fun (b11 : Int) =>
  bif b11 == 68 then (
  pr.idxK 1 left_6 (w64 ((w64 ((left_6.n : Int) - 1)) - ξ10)) fun (a12 : Addr) =>
  pr.load1 (.int .i64) a12 w fun (ξ13 : Int) =>
  pr.sem1 .sl PP (Instr.buildSlice T_Sint 1 #[(0, vI ξ13)]) w fun (ρ14 : Sl) ω15 =>
  pr.sem1 .sl PP (Builtin.append_ #[T_Sint, T_Sint] T_Sint #[Sl.v out_7, Sl.v ρ14]) ω15 fun (ρ16 : Sl) ω17 =>
  pr.call1 .sl PP F.slices_Delete___int_int_ #[Sl.v left_6, vI (w64 ((w64 ((left_6.n : Int) - 1)) - ξ10)), vI (w64 ((w64 ((w64 ((left_6.n : Int) - 1)) - ξ10)) + 1))] ω17 fun (ρ18 : Sl) ω19 =>
  k (emb7 text_0 ρ18 ρ16 t23 t24 (w64 (t25 + 1))) ω19)
  else (
  k (emb7 text_0 left_6 out_7 t23 t24 (w64 (t25 + 1))) w))
  else (
  Q (.exit 0) (x0 out_7) w)) := by kernel_rfl
theorem B7_s (text_0 : ByteArray) (left_6 : Sl) (out_7 : Sl) (t23 : Sl) (t24 : Int) (t25 : Int) (w : World) (k : Env → World → Prop) (Q : Exit → Env → World → Prop) : B7 std text_0 left_6 out_7 t23 t24 t25 w k Q = (
  bif decide (t25 < t24) then (
  idxK 1 t23 t25 fun (a9 : Addr) =>
  load1 (.int .i64) a9 w fun (ξ10 : Int) =>
  strIdxK text_0 t25 fun (b11 : Int) =>
  bif b11 == 68 then (
  idxK 1 left_6 (w64 ((w64 ((left_6.n : Int) - 1)) - ξ10)) fun (a12 : Addr) =>
  load1 (.int .i64) a12 w fun (ξ13 : Int) =>
  sem1 .sl PP (Instr.buildSlice T_Sint 1 #[(0, vI ξ13)]) w fun (ρ14 : Sl) ω15 =>
  sem1 .sl PP (Builtin.append_ #[T_Sint, T_Sint] T_Sint #[Sl.v out_7, Sl.v ρ14]) ω15 fun (ρ16 : Sl) ω17 =>
  call1 .sl PP F.slices_Delete___int_int_ #[Sl.v left_6, vI (w64 ((w64 ((left_6.n : Int) - 1)) - ξ10)), vI (w64 ((w64 ((w64 ((left_6.n : Int) - 1)) - ξ10)) + 1))] ω17 fun (ρ18 : Sl) ω19 =>
  k (emb7 text_0 ρ18 ρ16 t23 t24 (w64 (t25 + 1))) ω19)
  else (
  k (emb7 text_0 left_6 out_7 t23 t24 (w64 (t25 + 1))) w))
  else (
  Q (.exit 0) (x0 out_7) w)) := B7_eq std text_0 left_6 out_7 t23 t24 t25 w k Q
theorem L7_rule (text_0 : ByteArray) (left_6 : Sl) (out_7 : Sl) (t23 : Sl) (t24 : Int) (t25 : Int) (w : World) (Q : Exit → Env → World → Prop) (I : Sl → Sl → Int → World → Prop) (μ : Sl → Sl → Int → World → Nat) (h0 : I left_6 out_7 t25 w)
    (h : ∀ (left_6 : Sl) (out_7 : Sl) (t25 : Int) (w' : World), I left_6 out_7 t25 w' → B7 std text_0 left_6 out_7 t23 t24 t25 w' (fun e2 w2 => ∃ left_6_n out_7_n t25_n, e2 = emb7 text_0 left_6_n out_7_n t23 t24 t25_n ∧ I left_6_n out_7_n t25_n w2 ∧ μ left_6_n out_7_n t25_n w2 < μ left_6 out_7 t25 w') Q) :
    L7 std text_0 left_6 out_7 t23 t24 t25 w Q := by
  unfold L7
  refine LoopE.intro (σ := Sl × Sl × Int) (step := S7 std Q) (fun s => emb7 text_0 s.1 s.2.1 t23 t24 s.2.2) (fun s w => I s.1 s.2.1 s.2.2 w) (fun s w => μ s.1 s.2.1 s.2.2 w) (left_6, out_7, t25) rfl h0 ?_
  intro s w' hI
  have h1 := h s.1 s.2.1 s.2.2 w' hI
  unfold B7 at h1
  simp only [Prod.exists]
  exact h1
theorem A7_0_eq (pr : Prims) (out_7 : Sl) (w : World) (R : Ending → World → Prop) : (q8 pr R) (.exit 0) (x0 out_7) w = (
  R (.returned (.tuple #[Sl.v out_7, .bool true])) w) := by kernel_rfl
theorem A7_0_s (out_7 : Sl) (w : World) (R : Ending → World → Prop) : (q8 std R) (.exit 0) (x0 out_7) w = (
  R (.returned (.tuple #[Sl.v out_7, .bool true])) w) := A7_0_eq std out_7 w R
theorem E_eq (pr : Prims) (text_0 : ByteArray) (w : World) (R : Ending → World → Prop) : E pr text_0 w R = (
  pr.call2 .sl .bool PP F.impl_heights #[.string text_0] w fun (ρ0 : Sl) (ρ1 : Bool) ω2 =>
  bif !ρ1 then (
  R (.returned (.tuple #[Sl.v Sl.nil, .bool false])) ω2)
  else (
  2 ≠ (0 : Int) ∧
  pr.call1 .sl PP F.impl_identity #[vI (w64 ((text_0.size : Int).tdiv 2))] ω2 fun (ρ3 : Sl) ω4 =>
  pr.sem1 .sl PP (Instr.buildSlice T_Sint 0 #[]) ω4 fun (ρ5 : Sl) ω6 =>
  L7 pr text_0 ρ3 ρ5 ρ0 (ρ0.n : Int) 0 ω6 (q8 pr R))) := by kernel_rfl
theorem E_s (text_0 : ByteArray) (w : World) (R : Ending → World → Prop) : E std text_0 w R = (
  call2 .sl .bool PP F.impl_heights #[.string text_0] w fun (ρ0 : Sl) (ρ1 : Bool) ω2 =>
  bif !ρ1 then (
  R (.returned (.tuple #[Sl.v Sl.nil, .bool false])) ω2)
  else (
  2 ≠ (0 : Int) ∧
  call1 .sl PP F.impl_identity #[vI (w64 ((text_0.size : Int).tdiv 2))] ω2 fun (ρ3 : Sl) ω4 =>
  sem1 .sl PP (Instr.buildSlice T_Sint 0 #[]) ω4 fun (ρ5 : Sl) ω6 =>
  L7 std text_0 ρ3 ρ5 ρ0 (ρ0.n : Int) 0 ω6 (q8 std R))) := E_eq std text_0 w R
theorem drawsOk : drawsOk PP cfg okD (codeOf Tryz.f9) = true := by kernel_rfl
theorem calls (text_0 : ByteArray) {w : World} {R : Ending → World → Prop} (h : E std text_0 w R) : Calls PP F.impl_PermOfPath #[.string text_0] w R :=
  calls_of noCount mixed drawOk Tryz.func9 rfl (c := cfg) (args := [.string text_0]) rfl (Nat.le_of_ble_eq_true (by kernel_rfl)) drawsOk h
end impl_PermOfPath

namespace spec_PermOfPath
@[reducible] def cfg : Cfg := ⟨55, [(7, [0, 4, 5, 6, 7])], [(1, [0, 4, 5, 6, 7]), (0, [5])], [], [2, 3], [], [13, 32, 63, 81], [41, 4, 46, 44, 48]⟩
def q8 (pr : Prims) (R : Ending → World → Prop) : Exit → Env → World → Prop := fun ex e w => normQ ex (fun e w => contE pr cfg (sub (codeOf Tryz.f10) [1, 1, 1, 1, 1, 1]) (fun e w => wpC pr PP cfg (DD pr) (sub (codeOf Tryz.f10) [1, 1, 1, 1, 1, 1]) (retQ Tryz.f10.results.toList R) e w) e w) (retQ Tryz.f10.results.toList R) e w
def q9 (pr : Prims) (R : Ending → World → Prop) : Exit → Env → World → Prop := fun ex e w => blockQ ex 0 (q8 pr R) e w
def emb7 (text_0 : ByteArray) (left_4 : Sl) (out_5 : Sl) (h_6 : Int) (k_7 : Int) : Env := [(0, .string text_0), (4, Sl.v left_4), (5, Sl.v out_5), (6, vI h_6), (7, vI k_7)]
def x0 (out_5 : Sl) : Env := [(5, Sl.v out_5)]
def S7 (pr : Prims) (Q : Exit → Env → World → Prop) : (Env → World → Prop) → Env → World → Prop := fun k e w => wpC pr PP cfg (DD pr) (sub (codeOf Tryz.f10) [1, 1, 1, 1, 1, 0, 1, 0, 0]) (fun ex e w => normQ ex (fun e' w' => k (Env.restr e' (lookN cfg.loops (keyOf (sub (codeOf Tryz.f10) [1, 1, 1, 1, 1, 0, 1, 0, 0])))) w') Q e w) e w
def B7 (pr : Prims) (text_0 : ByteArray) (left_4 : Sl) (out_5 : Sl) (h_6 : Int) (k_7 : Int) (w : World) (k : Env → World → Prop) (Q : Exit → Env → World → Prop) : Prop :=
  S7 pr Q k (emb7 text_0 left_4 out_5 h_6 k_7) w
def L7 (pr : Prims) (text_0 : ByteArray) (left_4 : Sl) (out_5 : Sl) (h_6 : Int) (k_7 : Int) (w : World) (Q : Exit → Env → World → Prop) : Prop :=
  pr.loop (S7 pr Q) (emb7 text_0 left_4 out_5 h_6 k_7) w
def E (pr : Prims) (text_0 : ByteArray) (w : World) (R : Ending → World → Prop) : Prop :=
  wpC pr PP cfg (DD pr) (codeOf Tryz.f10) (retQ Tryz.f10.results.toList R) (argE 0 [.string text_0]) w
theorem B7_eq (pr : Prims) (text_0 : ByteArray) (left_4 : Sl) (out_5 : Sl) (h_6 : Int) (k_7 : Int) (w : World) (k : Env → World → Prop) (Q : Exit → Env → World → Prop) : B7 pr text_0 left_4 out_5 h_6 k_7 w k Q = (
  bif decide (k_7 < (text_0.size : Int)) then (
  pr.strIdxK text_0 k_7 fun (b10 : Int) =>
  bif b10 == 85 then (
  k (emb7 text_0 left_4 out_5 (w64 (h_6 + 1)) (w64 (k_7 + 1))) w)
  else (
  pr.idxK 1 left_4 (w64 ((w64 ((left_4.n : Int) - 1)) - (w64 (h_6 - 1)))) fun (a11 : Addr) =>
  pr.load1 (.int .i64) a11 w fun (ξ12 : Int) =>
  pr.sem1 .sl PP (Instr.buildSlice T_Sint 1 #[(0, vI ξ12)]) w fun (ρ13 : Sl) ω14 =>
  pr.sem1 .sl PP (Builtin.append_ #[T_Sint, T_Sint] T_Sint #[Sl.v out_5, Sl.v ρ13]) ω14 fun (ρ15 : Sl) ω16 =>
  pr.drewAll ω16 fun ω17 =>
  pr.cutK 1 left_4 none (some (w64 ((w64 ((left_4.n : Int) - 1)) - (w64 (h_6 - 1))))) fun (s18 : Sl) =>
  pr.cutK 1 left_4 (some (w64 ((w64 ((w64 ((left_4.n : Int) - 1)) - (w64 (h_6 - 1)))) + 1))) none fun (s19 : Sl) =>
  pr.sem1 .sl PP (Instr.buildSlice T_Sint 0 #[]) ω17 fun (ρ20 : Sl) ω21 =>
  pr.sem1 .sl PP (Builtin.append_ #[T_Sint, T_Sint] T_Sint #[Sl.v ρ20, Sl.v s18]) ω21 fun (ρ22 : Sl) ω23 =>
  pr.sem1 .sl PP (Builtin.append_ #[T_Sint, T_Sint] T_Sint #[Sl.v ρ22, Sl.v s19]) ω23 fun (ρ24 : Sl) ω25 =>
  k (emb7 text_0 ρ24 ρ15 (w64 (h_6 - 1)) (w64 (k_7 + 1))) ω25))
  else (
  Q (.exit 0) (x0 out_5) w)) := by kernel_rfl
theorem B7_s (text_0 : ByteArray) (left_4 : Sl) (out_5 : Sl) (h_6 : Int) (k_7 : Int) (w : World) (k : Env → World → Prop) (Q : Exit → Env → World → Prop) : B7 std text_0 left_4 out_5 h_6 k_7 w k Q = (
  bif decide (k_7 < (text_0.size : Int)) then (
  strIdxK text_0 k_7 fun (b10 : Int) =>
  bif b10 == 85 then (
  k (emb7 text_0 left_4 out_5 (w64 (h_6 + 1)) (w64 (k_7 + 1))) w)
  else (
  idxK 1 left_4 (w64 ((w64 ((left_4.n : Int) - 1)) - (w64 (h_6 - 1)))) fun (a11 : Addr) =>
  load1 (.int .i64) a11 w fun (ξ12 : Int) =>
  sem1 .sl PP (Instr.buildSlice T_Sint 1 #[(0, vI ξ12)]) w fun (ρ13 : Sl) ω14 =>
  sem1 .sl PP (Builtin.append_ #[T_Sint, T_Sint] T_Sint #[Sl.v out_5, Sl.v ρ13]) ω14 fun (ρ15 : Sl) ω16 =>
  drewAll ω16 fun ω17 =>
  cutK 1 left_4 none (some (w64 ((w64 ((left_4.n : Int) - 1)) - (w64 (h_6 - 1))))) fun (s18 : Sl) =>
  cutK 1 left_4 (some (w64 ((w64 ((w64 ((left_4.n : Int) - 1)) - (w64 (h_6 - 1)))) + 1))) none fun (s19 : Sl) =>
  sem1 .sl PP (Instr.buildSlice T_Sint 0 #[]) ω17 fun (ρ20 : Sl) ω21 =>
  sem1 .sl PP (Builtin.append_ #[T_Sint, T_Sint] T_Sint #[Sl.v ρ20, Sl.v s18]) ω21 fun (ρ22 : Sl) ω23 =>
  sem1 .sl PP (Builtin.append_ #[T_Sint, T_Sint] T_Sint #[Sl.v ρ22, Sl.v s19]) ω23 fun (ρ24 : Sl) ω25 =>
  k (emb7 text_0 ρ24 ρ15 (w64 (h_6 - 1)) (w64 (k_7 + 1))) ω25))
  else (
  Q (.exit 0) (x0 out_5) w)) := B7_eq std text_0 left_4 out_5 h_6 k_7 w k Q
theorem L7_rule (text_0 : ByteArray) (left_4 : Sl) (out_5 : Sl) (h_6 : Int) (k_7 : Int) (w : World) (Q : Exit → Env → World → Prop) (I : Sl → Sl → Int → Int → World → Prop) (μ : Sl → Sl → Int → Int → World → Nat) (h0 : I left_4 out_5 h_6 k_7 w)
    (h : ∀ (left_4 : Sl) (out_5 : Sl) (h_6 : Int) (k_7 : Int) (w' : World), I left_4 out_5 h_6 k_7 w' → B7 std text_0 left_4 out_5 h_6 k_7 w' (fun e2 w2 => ∃ left_4_n out_5_n h_6_n k_7_n, e2 = emb7 text_0 left_4_n out_5_n h_6_n k_7_n ∧ I left_4_n out_5_n h_6_n k_7_n w2 ∧ μ left_4_n out_5_n h_6_n k_7_n w2 < μ left_4 out_5 h_6 k_7 w') Q) :
    L7 std text_0 left_4 out_5 h_6 k_7 w Q := by
  unfold L7
  refine LoopE.intro (σ := Sl × Sl × Int × Int) (step := S7 std Q) (fun s => emb7 text_0 s.1 s.2.1 s.2.2.1 s.2.2.2) (fun s w => I s.1 s.2.1 s.2.2.1 s.2.2.2 w) (fun s w => μ s.1 s.2.1 s.2.2.1 s.2.2.2 w) (left_4, out_5, h_6, k_7) rfl h0 ?_
  intro s w' hI
  have h1 := h s.1 s.2.1 s.2.2.1 s.2.2.2 w' hI
  unfold B7 at h1
  simp only [Prod.exists]
  exact h1
theorem A7_0_eq (pr : Prims) (out_5 : Sl) (w : World) (R : Ending → World → Prop) : (q9 pr R) (.exit 0) (x0 out_5) w = (
  R (.returned (.tuple #[Sl.v out_5, .bool true])) w) := by kernel_rfl
theorem A7_0_s (out_5 : Sl) (w : World) (R : Ending → World → Prop) : (q9 std R) (.exit 0) (x0 out_5) w = (
  R (.returned (.tuple #[Sl.v out_5, .bool true])) w) := A7_0_eq std out_5 w R
theorem E_eq (pr : Prims) (text_0 : ByteArray) (w : World) (R : Ending → World → Prop) : E pr text_0 w R = (
  pr.call1 .bool PP F.spec_IsPath #[.string text_0] w fun (ρ0 : Bool) ω1 =>
  bif !ρ0 then (
  pr.sem1 .sl PP (Instr.buildSlice T_Sint 0 #[]) ω1 fun (ρ2 : Sl) ω3 =>
  R (.returned (.tuple #[Sl.v ρ2, .bool false])) ω3)
  else (
  2 ≠ (0 : Int) ∧
  pr.call1 .sl PP F.spec_IdentityPerm #[vI (w64 ((text_0.size : Int).tdiv 2))] ω1 fun (ρ4 : Sl) ω5 =>
  pr.sem1 .sl PP (Instr.buildSlice T_Sint 0 #[]) ω5 fun (ρ6 : Sl) ω7 =>
  L7 pr text_0 ρ4 ρ6 0 0 ω7 (q9 pr R))) := by kernel_rfl
theorem E_s (text_0 : ByteArray) (w : World) (R : Ending → World → Prop) : E std text_0 w R = (
  call1 .bool PP F.spec_IsPath #[.string text_0] w fun (ρ0 : Bool) ω1 =>
  bif !ρ0 then (
  sem1 .sl PP (Instr.buildSlice T_Sint 0 #[]) ω1 fun (ρ2 : Sl) ω3 =>
  R (.returned (.tuple #[Sl.v ρ2, .bool false])) ω3)
  else (
  2 ≠ (0 : Int) ∧
  call1 .sl PP F.spec_IdentityPerm #[vI (w64 ((text_0.size : Int).tdiv 2))] ω1 fun (ρ4 : Sl) ω5 =>
  sem1 .sl PP (Instr.buildSlice T_Sint 0 #[]) ω5 fun (ρ6 : Sl) ω7 =>
  L7 std text_0 ρ4 ρ6 0 0 ω7 (q9 std R))) := E_eq std text_0 w R
theorem drawsOk : drawsOk PP cfg okD (codeOf Tryz.f10) = true := by kernel_rfl
theorem calls (text_0 : ByteArray) {w : World} {R : Ending → World → Prop} (h : E std text_0 w R) : Calls PP F.spec_PermOfPath #[.string text_0] w R :=
  calls_of noCount mixed drawOk Tryz.func10 rfl (c := cfg) (args := [.string text_0]) rfl (Nat.le_of_ble_eq_true (by kernel_rfl)) drawsOk h
end spec_PermOfPath

end Go.Proofs.YtlcemelmnkipmaaGreat

/- What each function does, step by step, written by a program (Gen.lean); each equation is checked by the kernel. -/
namespace Go.Proofs.YtlcemelmnkipmaaGreat
open Go
set_option linter.unusedVariables false
set_option maxRecDepth 100000
namespace impl_heights
@[reducible] def cfg : Cfg := ⟨39, [(4, [0, 4, 5, 9, 10])], [(2, [0, 4, 5, 9, 10]), (1, [0, 4, 5, 9, 10]), (0, [0, 4, 5])], [], [2, 3], [], [13, 32, 63, 81], [41, 4, 46, 44, 48]⟩
def q2 (pr : Prims) (R : Ending → World → Prop) : Exit → Env → World → Prop := fun ex e w => normQ ex (fun e w => contE pr cfg (sub (codeOf Tryz.f36) [1, 1, 1, 1]) (fun e w => wpC pr PP cfg (DD pr) (sub (codeOf Tryz.f36) [1, 1, 1, 1]) (retQ Tryz.f36.results.toList R) e w) e w) (retQ Tryz.f36.results.toList R) e w
def q3 (pr : Prims) (R : Ending → World → Prop) : Exit → Env → World → Prop := fun ex e w => blockQ ex 0 (q2 pr R) e w
def emb4 (text_0 : ByteArray) (out_4 : Sl) (h_5 : Int) (t9 : Int) (t10 : Int) : Env := [(0, .string text_0), (4, Sl.v out_4), (5, vI h_5), (9, vI t9), (10, vI t10)]
def x0 (text_0 : ByteArray) (out_4 : Sl) (h_5 : Int) : Env := [(0, .string text_0), (4, Sl.v out_4), (5, vI h_5)]
def S4 (pr : Prims) (Q : Exit → Env → World → Prop) : (Env → World → Prop) → Env → World → Prop := fun k e w => wpC pr PP cfg (DD pr) (sub (codeOf Tryz.f36) [1, 1, 1, 0, 1, 0, 0]) (fun ex e w => normQ ex (fun e' w' => k (Env.restr e' (lookN cfg.loops (keyOf (sub (codeOf Tryz.f36) [1, 1, 1, 0, 1, 0, 0])))) w') Q e w) e w
def B4 (pr : Prims) (text_0 : ByteArray) (out_4 : Sl) (h_5 : Int) (t9 : Int) (t10 : Int) (w : World) (k : Env → World → Prop) (Q : Exit → Env → World → Prop) : Prop :=
  S4 pr Q k (emb4 text_0 out_4 h_5 t9 t10) w
def L4 (pr : Prims) (text_0 : ByteArray) (out_4 : Sl) (h_5 : Int) (t9 : Int) (t10 : Int) (w : World) (Q : Exit → Env → World → Prop) : Prop :=
  pr.loop (S4 pr Q) (emb4 text_0 out_4 h_5 t9 t10) w
def E (pr : Prims) (text_0 : ByteArray) (w : World) (R : Ending → World → Prop) : Prop :=
  wpC pr PP cfg (DD pr) (codeOf Tryz.f36) (retQ Tryz.f36.results.toList R) (argE 0 [.string text_0]) w
theorem B4_eq (pr : Prims) (text_0 : ByteArray) (out_4 : Sl) (h_5 : Int) (t9 : Int) (t10 : Int) (w : World) (k : Env → World → Prop) (Q : Exit → Env → World → Prop) : B4 pr text_0 out_4 h_5 t9 t10 w k Q = (
  bif decide (t10 < t9) then (
  pr.strIdxK text_0 t10 fun (b4 : Int) =>
  bif b4 == 85 then (
  bif decide ((w64 (h_5 + 1)) < 0) then (
  Q .ret [(2, Sl.v Sl.nil), (3, .bool false)] w)
  else (
  pr.sem1 .sl PP (Instr.buildSlice T_Sint 1 #[(0, vI (w64 (h_5 + 1)))]) w fun (ρ5 : Sl) ω6 =>
  pr.sem1 .sl PP (Builtin.append_ #[T_Sint, T_Sint] T_Sint #[Sl.v out_4, Sl.v ρ5]) ω6 fun (ρ7 : Sl) ω8 =>
  k (emb4 text_0 ρ7 (w64 (h_5 + 1)) t9 (w64 (t10 + 1))) ω8))
  else (
  bif b4 == 68 then (
  bif decide ((w64 (h_5 - 1)) < 0) then (
  Q .ret [(2, Sl.v Sl.nil), (3, .bool false)] w)
  else (
  pr.sem1 .sl PP (Instr.buildSlice T_Sint 1 #[(0, vI (w64 (h_5 - 1)))]) w fun (ρ9 : Sl) ω10 =>
  pr.sem1 .sl PP (Builtin.append_ #[T_Sint, T_Sint] T_Sint #[Sl.v out_4, Sl.v ρ9]) ω10 fun (ρ11 : Sl) ω12 =>
  k (emb4 text_0 ρ11 (w64 (h_5 - 1)) t9 (w64 (t10 + 1))) ω12))
  else (
  Q .ret [(2, Sl.v Sl.nil), (3, .bool false)] w)))
  else (
  Q (.exit 0) (x0 text_0 out_4 h_5) w)) := by kernel_rfl
theorem B4_s (text_0 : ByteArray) (out_4 : Sl) (h_5 : Int) (t9 : Int) (t10 : Int) (w : World) (k : Env → World → Prop) (Q : Exit → Env → World → Prop) : B4 std text_0 out_4 h_5 t9 t10 w k Q = (
  bif decide (t10 < t9) then (
  strIdxK text_0 t10 fun (b4 : Int) =>
  bif b4 == 85 then (
  bif decide ((w64 (h_5 + 1)) < 0) then (
  Q .ret [(2, Sl.v Sl.nil), (3, .bool false)] w)
  else (
  sem1 .sl PP (Instr.buildSlice T_Sint 1 #[(0, vI (w64 (h_5 + 1)))]) w fun (ρ5 : Sl) ω6 =>
  sem1 .sl PP (Builtin.append_ #[T_Sint, T_Sint] T_Sint #[Sl.v out_4, Sl.v ρ5]) ω6 fun (ρ7 : Sl) ω8 =>
  k (emb4 text_0 ρ7 (w64 (h_5 + 1)) t9 (w64 (t10 + 1))) ω8))
  else (
  bif b4 == 68 then (
  bif decide ((w64 (h_5 - 1)) < 0) then (
  Q .ret [(2, Sl.v Sl.nil), (3, .bool false)] w)
  else (
  sem1 .sl PP (Instr.buildSlice T_Sint 1 #[(0, vI (w64 (h_5 - 1)))]) w fun (ρ9 : Sl) ω10 =>
  sem1 .sl PP (Builtin.append_ #[T_Sint, T_Sint] T_Sint #[Sl.v out_4, Sl.v ρ9]) ω10 fun (ρ11 : Sl) ω12 =>
  k (emb4 text_0 ρ11 (w64 (h_5 - 1)) t9 (w64 (t10 + 1))) ω12))
  else (
  Q .ret [(2, Sl.v Sl.nil), (3, .bool false)] w)))
  else (
  Q (.exit 0) (x0 text_0 out_4 h_5) w)) := B4_eq std text_0 out_4 h_5 t9 t10 w k Q
theorem L4_rule (text_0 : ByteArray) (out_4 : Sl) (h_5 : Int) (t9 : Int) (t10 : Int) (w : World) (Q : Exit → Env → World → Prop) (I : Sl → Int → Int → World → Prop) (μ : Sl → Int → Int → World → Nat) (h0 : I out_4 h_5 t10 w)
    (h : ∀ (out_4 : Sl) (h_5 : Int) (t10 : Int) (w' : World), I out_4 h_5 t10 w' → B4 std text_0 out_4 h_5 t9 t10 w' (fun e2 w2 => ∃ out_4_n h_5_n t10_n, e2 = emb4 text_0 out_4_n h_5_n t9 t10_n ∧ I out_4_n h_5_n t10_n w2 ∧ μ out_4_n h_5_n t10_n w2 < μ out_4 h_5 t10 w') Q) :
    L4 std text_0 out_4 h_5 t9 t10 w Q := by
  unfold L4
  refine LoopE.intro (σ := Sl × Int × Int) (step := S4 std Q) (fun s => emb4 text_0 s.1 s.2.1 t9 s.2.2) (fun s w => I s.1 s.2.1 s.2.2 w) (fun s w => μ s.1 s.2.1 s.2.2 w) (out_4, h_5, t10) rfl h0 ?_
  intro s w' hI
  have h1 := h s.1 s.2.1 s.2.2 w' hI
  unfold B4 at h1
  simp only [Prod.exists]
  exact h1
theorem A4_0_eq (pr : Prims) (text_0 : ByteArray) (out_4 : Sl) (h_5 : Int) (w : World) (R : Ending → World → Prop) : (q3 pr R) (.exit 0) (x0 text_0 out_4 h_5) w = (
  bif h_5 == 0 then (
  R (.returned (.tuple #[Sl.v out_4, .bool (decide ((text_0.size : Int) ≤ 16))])) w)
  else (
  R (.returned (.tuple #[Sl.v out_4, .bool false])) w)) := by kernel_rfl
theorem A4_0_s (text_0 : ByteArray) (out_4 : Sl) (h_5 : Int) (w : World) (R : Ending → World → Prop) : (q3 std R) (.exit 0) (x0 text_0 out_4 h_5) w = (
  bif h_5 == 0 then (
  R (.returned (.tuple #[Sl.v out_4, .bool (decide ((text_0.size : Int) ≤ 16))])) w)
  else (
  R (.returned (.tuple #[Sl.v out_4, .bool false])) w)) := A4_0_eq std text_0 out_4 h_5 w R
theorem R4_eq (pr : Prims) (v2 : Value) (v3 : Value) (w : World) (R : Ending → World → Prop) : (q3 pr R) .ret [(2, v2), (3, v3)] w = (
  R (.returned (.tuple #[v2, v3])) w) := by kernel_rfl
theorem R4_s (v2 : Value) (v3 : Value) (w : World) (R : Ending → World → Prop) : (q3 std R) .ret [(2, v2), (3, v3)] w = (
  R (.returned (.tuple #[v2, v3])) w) := R4_eq std v2 v3 w R
theorem E_eq (pr : Prims) (text_0 : ByteArray) (w : World) (R : Ending → World → Prop) : E pr text_0 w R = (
  pr.sem1 .sl PP (Instr.buildSlice T_Sint 0 #[]) w fun (ρ0 : Sl) ω1 =>
  L4 pr text_0 ρ0 0 (text_0.size : Int) 0 ω1 (q3 pr R)) := by kernel_rfl
theorem E_s (text_0 : ByteArray) (w : World) (R : Ending → World → Prop) : E std text_0 w R = (
  sem1 .sl PP (Instr.buildSlice T_Sint 0 #[]) w fun (ρ0 : Sl) ω1 =>
  L4 std text_0 ρ0 0 (text_0.size : Int) 0 ω1 (q3 std R)) := E_eq std text_0 w R
theorem drawsOk : drawsOk PP cfg okD (codeOf Tryz.f36) = true := by kernel_rfl
theorem calls (text_0 : ByteArray) {w : World} {R : Ending → World → Prop} (h : E std text_0 w R) : Calls PP F.impl_heights #[.string text_0] w R :=
  calls_of noCount mixed drawOk Tryz.func36 rfl (c := cfg) (args := [.string text_0]) rfl (Nat.le_of_ble_eq_true (by kernel_rfl)) drawsOk h
end impl_heights

namespace impl_IsPath
@[reducible] def cfg : Cfg := ⟨11, [], [], [], [2], [], [13, 32, 63, 81], [41, 4, 46, 44, 48]⟩
def E (pr : Prims) (text_0 : ByteArray) (w : World) (R : Ending → World → Prop) : Prop :=
  wpC pr PP cfg (DD pr) (codeOf Tryz.f16) (retQ Tryz.f16.results.toList R) (argE 0 [.string text_0]) w
theorem E_eq (pr : Prims) (text_0 : ByteArray) (w : World) (R : Ending → World → Prop) : E pr text_0 w R = (
  pr.call2 .sl .bool PP F.impl_heights #[.string text_0] w fun (ρ0 : Sl) (ρ1 : Bool) ω2 =>
  R (.returned (.bool ρ1)) ω2) := by kernel_rfl
theorem E_s (text_0 : ByteArray) (w : World) (R : Ending → World → Prop) : E std text_0 w R = (
  call2 .sl .bool PP F.impl_heights #[.string text_0] w fun (ρ0 : Sl) (ρ1 : Bool) ω2 =>
  R (.returned (.bool ρ1)) ω2) := E_eq std text_0 w R
theorem drawsOk : drawsOk PP cfg okD (codeOf Tryz.f16) = true := by kernel_rfl
theorem calls (text_0 : ByteArray) {w : World} {R : Ending → World → Prop} (h : E std text_0 w R) : Calls PP F.impl_IsPath #[.string text_0] w R :=
  calls_of noCount mixed drawOk Tryz.func16 rfl (c := cfg) (args := [.string text_0]) rfl (Nat.le_of_ble_eq_true (by kernel_rfl)) drawsOk h
end impl_IsPath

namespace spec_IsPath
@[reducible] def cfg : Cfg := ⟨40, [(3, [0, 3, 4])], [(1, [0, 3, 4]), (0, [0, 3])], [(8, [0, 3, 4])], [2], [], [13, 32, 63, 81], [41, 4, 46, 44, 48]⟩
def q0 (pr : Prims) (R : Ending → World → Prop) : Exit → Env → World → Prop := fun ex e w => normQ ex (fun e w => contE pr cfg (sub (codeOf Tryz.f17) [1, 1, 1]) (fun e w => wpC pr PP cfg (DD pr) (sub (codeOf Tryz.f17) [1, 1, 1]) (retQ Tryz.f17.results.toList R) e w) e w) (retQ Tryz.f17.results.toList R) e w
def q1 (pr : Prims) (R : Ending → World → Prop) : Exit → Env → World → Prop := fun ex e w => blockQ ex 0 (q0 pr R) e w
def q2 (pr : Prims) (k : Env → World → Prop) (Q : Exit → Env → World → Prop) : Exit → Env → World → Prop := fun ex e w => normQ ex (fun e w => contE pr cfg (sub (codeOf Tryz.f17) [1, 1, 0, 1, 0, 0, 1, 1]) (fun e w => wpC pr PP cfg (DD pr) (sub (codeOf Tryz.f17) [1, 1, 0, 1, 0, 0, 1, 1]) (fun ex e w => normQ ex (fun e' w' => k (Env.restr e' (lookN cfg.loops (keyOf (sub (codeOf Tryz.f17) [1, 1, 0, 1, 0, 0])))) w') Q e w) e w) e w) (fun ex e w => normQ ex (fun e' w' => k (Env.restr e' (lookN cfg.loops (keyOf (sub (codeOf Tryz.f17) [1, 1, 0, 1, 0, 0])))) w') Q e w) e w
def q3 (pr : Prims) (k : Env → World → Prop) (Q : Exit → Env → World → Prop) : Exit → Env → World → Prop := fun ex e w => blockQ ex 1 (q2 pr k Q) e w
def q4 (pr : Prims) (k : Env → World → Prop) (Q : Exit → Env → World → Prop) : Exit → Env → World → Prop := fun ex e w => normQ ex (fun e w => contE pr cfg (sub (codeOf Tryz.f17) [1, 1, 0, 1, 0, 0, 1, 0, 0, 1]) (fun e w => wpC pr PP cfg (DD pr) (sub (codeOf Tryz.f17) [1, 1, 0, 1, 0, 0, 1, 0, 0, 1]) (q3 pr k Q) e w) e w) (q3 pr k Q) e w
def emb3 (text_0 : ByteArray) (h_3 : Int) (k_4 : Int) : Env := [(0, .string text_0), (3, vI h_3), (4, vI k_4)]
def j8 (text_0 : ByteArray) (h_3 : Int) (k_4 : Int) : Env := [(0, .string text_0), (3, vI h_3), (4, vI k_4)]
def x0 (text_0 : ByteArray) (h_3 : Int) : Env := [(0, .string text_0), (3, vI h_3)]
def S3 (pr : Prims) (Q : Exit → Env → World → Prop) : (Env → World → Prop) → Env → World → Prop := fun k e w => wpC pr PP cfg (DD pr) (sub (codeOf Tryz.f17) [1, 1, 0, 1, 0, 0]) (fun ex e w => normQ ex (fun e' w' => k (Env.restr e' (lookN cfg.loops (keyOf (sub (codeOf Tryz.f17) [1, 1, 0, 1, 0, 0])))) w') Q e w) e w
def J8 (pr : Prims) (text_0 : ByteArray) (h_3 : Int) (k_4 : Int) (w : World) (k : Env → World → Prop) (Q : Exit → Env → World → Prop) : Prop :=
  pr.seg (fun e w => wpC pr PP cfg (DD pr) (sub (codeOf Tryz.f17) [1, 1, 0, 1, 0, 0, 1, 0, 0, 1]) (q3 pr k Q) e w) (j8 text_0 h_3 k_4) w
def B3 (pr : Prims) (text_0 : ByteArray) (h_3 : Int) (k_4 : Int) (w : World) (k : Env → World → Prop) (Q : Exit → Env → World → Prop) : Prop :=
  S3 pr Q k (emb3 text_0 h_3 k_4) w
def L3 (pr : Prims) (text_0 : ByteArray) (h_3 : Int) (k_4 : Int) (w : World) (Q : Exit → Env → World → Prop) : Prop :=
  pr.loop (S3 pr Q) (emb3 text_0 h_3 k_4) w
def E (pr : Prims) (text_0 : ByteArray) (w : World) (R : Ending → World → Prop) : Prop :=
  wpC pr PP cfg (DD pr) (codeOf Tryz.f17) (retQ Tryz.f17.results.toList R) (argE 0 [.string text_0]) w
theorem J8_gen (pr : Prims) (text_0 : ByteArray) (h_3 : Int) (k_4 : Int) (w : World) (k : Env → World → Prop) (Q : Exit → Env → World → Prop) : wpC pr PP cfg (DD pr) (sub (codeOf Tryz.f17) [1, 1, 0, 1, 0, 0, 1, 0, 0, 1]) (q3 pr k Q) (j8 text_0 h_3 k_4) w = (
  bif decide (h_3 < 0) then (
  Q .ret [(2, .bool false)] w)
  else (
  pr.strIdxK text_0 k_4 fun (b6 : Int) =>
  bif b6 != 85 then (
  pr.strIdxK text_0 k_4 fun (b7 : Int) =>
  bif b7 != 68 then (
  Q .ret [(2, .bool false)] w)
  else (
  k (emb3 text_0 h_3 (w64 (k_4 + 1))) w))
  else (
  k (emb3 text_0 h_3 (w64 (k_4 + 1))) w))) := by kernel_rfl
theorem J8_s (text_0 : ByteArray) (h_3 : Int) (k_4 : Int) (w : World) (k : Env → World → Prop) (Q : Exit → Env → World → Prop) : J8 std text_0 h_3 k_4 w k Q = (
  bif decide (h_3 < 0) then (
  Q .ret [(2, .bool false)] w)
  else (
  strIdxK text_0 k_4 fun (b6 : Int) =>
  bif b6 != 85 then (
  strIdxK text_0 k_4 fun (b7 : Int) =>
  bif b7 != 68 then (
  Q .ret [(2, .bool false)] w)
  else (
  k (emb3 text_0 h_3 (w64 (k_4 + 1))) w))
  else (
  k (emb3 text_0 h_3 (w64 (k_4 + 1))) w))) := J8_gen std text_0 h_3 k_4 w k Q
theorem B3_eq (pr : Prims) (text_0 : ByteArray) (h_3 : Int) (k_4 : Int) (w : World) (k : Env → World → Prop) (Q : Exit → Env → World → Prop) : B3 pr text_0 h_3 k_4 w k Q = (
  bif decide (k_4 < (text_0.size : Int)) then (
  pr.strIdxK text_0 k_4 fun (b5 : Int) =>
  bif b5 == 85 then (
  J8 pr text_0 (w64 (h_3 + 1)) k_4 w k Q)
  else (
  J8 pr text_0 (w64 (h_3 - 1)) k_4 w k Q))
  else (
  Q (.exit 0) (x0 text_0 h_3) w)) := by kernel_rfl
theorem B3_s (text_0 : ByteArray) (h_3 : Int) (k_4 : Int) (w : World) (k : Env → World → Prop) (Q : Exit → Env → World → Prop) : B3 std text_0 h_3 k_4 w k Q = (
  bif decide (k_4 < (text_0.size : Int)) then (
  strIdxK text_0 k_4 fun (b5 : Int) =>
  bif b5 == 85 then (
  J8 std text_0 (w64 (h_3 + 1)) k_4 w k Q)
  else (
  J8 std text_0 (w64 (h_3 - 1)) k_4 w k Q))
  else (
  Q (.exit 0) (x0 text_0 h_3) w)) := B3_eq std text_0 h_3 k_4 w k Q
theorem L3_rule (text_0 : ByteArray) (h_3 : Int) (k_4 : Int) (w : World) (Q : Exit → Env → World → Prop) (I : Int → Int → World → Prop) (μ : Int → Int → World → Nat) (h0 : I h_3 k_4 w)
    (h : ∀ (h_3 : Int) (k_4 : Int) (w' : World), I h_3 k_4 w' → B3 std text_0 h_3 k_4 w' (fun e2 w2 => ∃ h_3_n k_4_n, e2 = emb3 text_0 h_3_n k_4_n ∧ I h_3_n k_4_n w2 ∧ μ h_3_n k_4_n w2 < μ h_3 k_4 w') Q) :
    L3 std text_0 h_3 k_4 w Q := by
  unfold L3
  refine LoopE.intro (σ := Int × Int) (step := S3 std Q) (fun s => emb3 text_0 s.1 s.2) (fun s w => I s.1 s.2 w) (fun s w => μ s.1 s.2 w) (h_3, k_4) rfl h0 ?_
  intro s w' hI
  have h1 := h s.1 s.2 w' hI
  unfold B3 at h1
  simp only [Prod.exists]
  exact h1
theorem A3_0_eq (pr : Prims) (text_0 : ByteArray) (h_3 : Int) (w : World) (R : Ending → World → Prop) : (q1 pr R) (.exit 0) (x0 text_0 h_3) w = (
  bif h_3 == 0 then (
  R (.returned (.bool (decide ((text_0.size : Int) ≤ 16)))) w)
  else (
  R (.returned (.bool false)) w)) := by kernel_rfl
theorem A3_0_s (text_0 : ByteArray) (h_3 : Int) (w : World) (R : Ending → World → Prop) : (q1 std R) (.exit 0) (x0 text_0 h_3) w = (
  bif h_3 == 0 then (
  R (.returned (.bool (decide ((text_0.size : Int) ≤ 16)))) w)
  else (
  R (.returned (.bool false)) w)) := A3_0_eq std text_0 h_3 w R
theorem R3_eq (pr : Prims) (v2 : Value) (w : World) (R : Ending → World → Prop) : (q1 pr R) .ret [(2, v2)] w = (
  R (.returned (v2)) w) := by kernel_rfl
theorem R3_s (v2 : Value) (w : World) (R : Ending → World → Prop) : (q1 std R) .ret [(2, v2)] w = (
  R (.returned (v2)) w) := R3_eq std v2 w R
theorem E_eq (pr : Prims) (text_0 : ByteArray) (w : World) (R : Ending → World → Prop) : E pr text_0 w R = (
  L3 pr text_0 0 0 w (q1 pr R)) := by kernel_rfl
theorem E_s (text_0 : ByteArray) (w : World) (R : Ending → World → Prop) : E std text_0 w R = (
  L3 std text_0 0 0 w (q1 std R)) := E_eq std text_0 w R
theorem drawsOk : drawsOk PP cfg okD (codeOf Tryz.f17) = true := by kernel_rfl
theorem calls (text_0 : ByteArray) {w : World} {R : Ending → World → Prop} (h : E std text_0 w R) : Calls PP F.spec_IsPath #[.string text_0] w R :=
  calls_of noCount mixed drawOk Tryz.func17 rfl (c := cfg) (args := [.string text_0]) rfl (Nat.le_of_ble_eq_true (by kernel_rfl)) drawsOk h
end spec_IsPath

end Go.Proofs.YtlcemelmnkipmaaGreat

/- The walks of the paths' functions: heights, IsPath, CountReturns, PathHeight, and their laws. -/
namespace Go.Proofs.YtlcemelmnkipmaaGreat
open Go Go.RowKit
set_option maxRecDepth 100000




/-- The height after k steps. -/
def hs (s : ByteArray) : Nat → Int
  | 0 => 0
  | k + 1 => hs s k + (if bt s k = 85 then 1 else -1)
theorem hs_bound (s : ByteArray) : ∀ k : Nat, -(k : Int) ≤ hs s k ∧ hs s k ≤ k
  | 0 => by simp [hs]
  | k + 1 => by have := hs_bound s k; simp only [hs]; split <;> omega
def stepOk (s : ByteArray) (k : Nat) : Prop := (bt s k = 85 ∨ bt s k = 68) ∧ 0 ≤ hs s (k + 1)
def Good (s : ByteArray) (k : Nat) : Prop := ∀ j, j < k → stepOk s j
def OkPath (s : ByteArray) : Prop := Good s s.size ∧ hs s s.size = 0 ∧ s.size ≤ 16
theorem Good.succ {s k} (h : Good s k) (h2 : stepOk s k) : Good s (k + 1) := fun j hj => by
  rcases Nat.lt_or_ge j k with h3 | h3
  · exact h j h3
  · have : j = k := by omega
    subst this; exact h2
def hsL (s : ByteArray) (n : Nat) : List Int := (List.range n).map fun k => hs s (k + 1)
theorem hsL_succ (s : ByteArray) (n : Nat) : hsL s (n + 1) = hsL s n ++ [hs s (n + 1)] := by simp [hsL, List.range_succ]
theorem hsL_length (s : ByteArray) (n : Nat) : (hsL s n).length = n := by simp [hsL]




/-- A call that only adds to the world, and what it answers. -/
def Adds (f : FuncId) (args : Array Value) (w : World) (Q : Value → World → Prop) : Prop := Calls PP f args w fun e w' => ∃ v, e = .returned v ∧ Below w.heap.size w w' ∧ Q v w'

theorem c_implHeights (s : ByteArray) (hsz : s.size < 2 ^ 39) (w : World) :
    Calls PP F.impl_heights #[.string s] w fun e w' => ∃ (t : Sl) (b : Bool), e = .returned (.tuple #[t.v, .bool b]) ∧ Below w.heap.size w w' ∧ (b = true ↔ OkPath s) ∧ (b = true → RowI w' t (hsL s s.size)) := by
  refine impl_heights.calls s ?_
  rw [impl_heights.E_s]
  refine lit0 oneInt (B := w.heap.size) (Nat.le_refl _) ?_
  intro t0 w1 hown hg hc
  refine impl_heights.L4_rule _ _ _ _ _ _ _
    (I := fun t h k w' => 0 ≤ k ∧ k ≤ s.size ∧ h = hs s k.toNat ∧ Good s k.toNat ∧ OwnI w' w.heap.size t (hsL s k.toNat) ∧ Below w.heap.size w w')
    (μ := fun _ _ k _ => (s.size - k).toNat) ⟨by omega, by omega, rfl, fun j hj => by simp at hj, hown, below_of_grow hg⟩ ?_
  rintro t h k w' ⟨h0, hk, hh, hgood, hown, hb⟩
  have hbd := hs_bound s k.toNat
  have hsucc : (k + 1).toNat = k.toNat + 1 := by omega
  have hm : w.heap.size ≤ w'.heap.size := hb.size
  rw [impl_heights.B4_s]
  refine bif_dec (fun h3 => ?_) (fun h3 => ?_)
  · refine strIdx_intro h0 h3 ?_
    have bad : ¬ stepOk s k.toNat → impl_heights.q3 std (fun e w' => ∃ (t : Sl) (b : Bool), e = .returned (.tuple #[t.v, .bool b]) ∧ Below w.heap.size w w' ∧ (b = true ↔ OkPath s) ∧ (b = true → RowI w' t (hsL s s.size))) .ret [(2, Sl.v Sl.nil), (3, .bool false)] w' := by
      intro hbad
      rw [impl_heights.R4_s]
      exact ⟨_, _, rfl, hb, ⟨fun h => by simp at h, fun h => absurd (h.1 k.toNat (by omega)) hbad⟩, fun h => by simp at h⟩
    refine bif_intro (fun h4 => ?_) (fun h4 => bif_intro (fun h5 => ?_) (fun h5 => ?_))
    · have h4 : bt s k.toNat = 85 := by simpa using h4
      have e1 : w64 (h + 1) = hs s (k.toNat + 1) := by rw [hh, hs, if_pos h4, w64_id (by omega) (by omega)]
      simp only [e1]
      refine bif_dec (fun h6 => bad fun hg => by have := hg.2; omega) (fun h6 => ?_)
      refine append_int hown hm (by simp [hsL_length]; omega) ?_
      intro t' w2 h7 h8 h9
      refine ⟨t', hs s (k.toNat + 1), k + 1, by rw [w64_succ h0 (by omega)], ⟨by omega, by omega, by rw [hsucc], ?_, ?_, ?_⟩, by omega⟩
      · simp only [hsucc]; exact hgood.succ ⟨.inl h4, by omega⟩
      · simp only [hsucc, hsL_succ]; exact h7
      · exact hb.grown h8 hm (fun g hg => (hown.lt g hg).1)
    · have h4 : ¬ bt s k.toNat = 85 := by simpa using h4
      have h5 : bt s k.toNat = 68 := by simpa using h5
      have e1 : w64 (h - 1) = hs s (k.toNat + 1) := by rw [hh, hs, if_neg h4, w64_id (by omega) (by omega)]; rfl
      simp only [e1]
      refine bif_dec (fun h6 => bad fun hg => by have := hg.2; omega) (fun h6 => ?_)
      refine append_int hown hm (by simp [hsL_length]; omega) ?_
      intro t' w2 h7 h8 h9
      refine ⟨t', hs s (k.toNat + 1), k + 1, by rw [w64_succ h0 (by omega)], ⟨by omega, by omega, by rw [hsucc], ?_, ?_, ?_⟩, by omega⟩
      · simp only [hsucc]; exact hgood.succ ⟨.inr h5, by omega⟩
      · simp only [hsucc, hsL_succ]; exact h7
      · exact hb.grown h8 hm (fun g hg => (hown.lt g hg).1)
    · have h4 : ¬ bt s k.toNat = 85 := by simpa using h4
      have h5 : ¬ bt s k.toNat = 68 := by simpa using h5
      exact bad fun hg => by rcases hg.1 with h | h <;> contradiction
  · rw [impl_heights.A4_0_s]
    have : k.toNat = s.size := by omega
    rw [this] at hh hgood hown
    refine bif_intro (fun h4 => ?_) (fun h4 => ?_)
    · have h4 : h = 0 := by simpa using h4
      refine ⟨t, _, rfl, hb, ⟨fun h => ⟨hgood, by omega, by simp at h; omega⟩, fun h => by simp; have := h.2.2; omega⟩, fun _ => hown.row⟩
    · have h4 : ¬ h = 0 := by simpa using h4
      refine ⟨t, _, rfl, hb, ⟨fun h => by simp at h, fun h => absurd h.2.1 (by omega)⟩, fun h => by simp at h⟩

theorem c_specIsPath (s : ByteArray) (hsz : s.size < 2 ^ 39) : ∃ b : Bool, (b = true ↔ OkPath s) ∧ Pure F.spec_IsPath #[.string s] (.bool b) := by
  classical
  refine ⟨decide (OkPath s), by simp, fun w => ?_⟩
  refine spec_IsPath.calls s ?_
  rw [spec_IsPath.E_s]
  refine spec_IsPath.L3_rule _ _ _ _ _ (I := fun h k w' => w' = w ∧ 0 ≤ k ∧ k ≤ s.size ∧ h = hs s k.toNat ∧ Good s k.toNat) (μ := fun _ k _ => (s.size - k).toNat)
    ⟨rfl, by omega, by omega, rfl, fun j hj => by simp at hj⟩ ?_
  rintro h k w' ⟨rfl, h0, hk, hh, hgood⟩
  have hbd := hs_bound s k.toNat
  have hsucc : (k + 1).toNat = k.toNat + 1 := by omega
  rw [spec_IsPath.B3_s]
  refine bif_dec (fun h3 => ?_) (fun h3 => ?_)
  · refine strIdx_intro h0 h3 ?_
    have hJ : spec_IsPath.J8 std s (hs s (k.toNat + 1)) k w' (fun e2 w2 => ∃ h_3_n k_4_n, e2 = spec_IsPath.emb3 s h_3_n k_4_n ∧ (w2 = w' ∧ 0 ≤ k_4_n ∧ k_4_n ≤ s.size ∧ h_3_n = hs s k_4_n.toNat ∧ Good s k_4_n.toNat) ∧ (s.size - k_4_n).toNat < (s.size - k).toNat)
        (spec_IsPath.q1 std (fun e w'' => e = .returned (.bool (decide (OkPath s))) ∧ w'' = w')) := by
      have bad : ¬ stepOk s k.toNat → spec_IsPath.q1 std (fun e w'' => e = .returned (.bool (decide (OkPath s))) ∧ w'' = w') .ret [(2, .bool false)] w' := by
        intro hbad
        rw [spec_IsPath.R3_s]
        refine ⟨?_, rfl⟩
        have : ¬ OkPath s := fun h => hbad (h.1 k.toNat (by omega))
        simp [this]
      have good : stepOk s k.toNat → ∃ h_3_n k_4_n, spec_IsPath.emb3 s (hs s (k.toNat + 1)) (w64 (k + 1)) = spec_IsPath.emb3 s h_3_n k_4_n ∧ (w' = w' ∧ 0 ≤ k_4_n ∧ k_4_n ≤ s.size ∧ h_3_n = hs s k_4_n.toNat ∧ Good s k_4_n.toNat) ∧ (s.size - k_4_n).toNat < (s.size - k).toNat := by
        intro hg
        refine ⟨_, k + 1, by rw [w64_succ h0 (by omega)], ⟨rfl, by omega, by omega, by rw [hsucc], ?_⟩, by omega⟩
        rw [hsucc]; exact hgood.succ hg
      rw [spec_IsPath.J8_s]
      refine bif_dec (fun h6 => bad fun hg => by have := hg.2; omega) (fun h6 => ?_)
      refine strIdx_intro h0 h3 ?_
      refine bif_intro (fun h4 => ?_) (fun h4 => ?_)
      · have h4 : ¬ bt s k.toNat = 85 := by simpa using h4
        refine strIdx_intro h0 h3 ?_
        refine bif_intro (fun h5 => ?_) (fun h5 => ?_)
        · have h5 : ¬ bt s k.toNat = 68 := by simpa using h5
          exact bad fun hg => by rcases hg.1 with h | h <;> contradiction
        · have h5 : bt s k.toNat = 68 := by simpa using h5
          exact good ⟨.inr h5, by omega⟩
      · have h4 : bt s k.toNat = 85 := by simpa using h4
        exact good ⟨.inl h4, by omega⟩
    refine bif_intro (fun h4 => ?_) (fun h4 => ?_)
    · have h4 : bt s k.toNat = 85 := by simpa using h4
      have e1 : w64 (h + 1) = hs s (k.toNat + 1) := by rw [hh, hs, if_pos h4, w64_id (by omega) (by omega)]
      rw [e1]; exact hJ
    · have h4 : ¬ bt s k.toNat = 85 := by simpa using h4
      have e1 : w64 (h - 1) = hs s (k.toNat + 1) := by rw [hh, hs, if_neg h4, w64_id (by omega) (by omega)]; rfl
      rw [e1]; exact hJ
  · rw [spec_IsPath.A3_0_s]
    have : k.toNat = s.size := by omega
    rw [this] at hh hgood
    refine bif_intro (fun h4 => ?_) (fun h4 => ?_)
    · have h4 : h = 0 := by simpa using h4
      refine ⟨?_, rfl⟩
      have : ((s.size : Int) ≤ 16) ↔ OkPath s := ⟨fun h => ⟨hgood, by omega, by omega⟩, fun h => by have := h.2.2; omega⟩
      simp [this]
    · have h4 : ¬ h = 0 := by simpa using h4
      refine ⟨?_, rfl⟩
      have : ¬ OkPath s := fun h => absurd h.2.1 (by omega)
      simp [this]



theorem c_implIsPath (s : ByteArray) (hsz : s.size < 2 ^ 39) (w : World) :
    Calls PP F.impl_IsPath #[.string s] w fun e w' => ∃ b : Bool, e = .returned (.bool b) ∧ (b = true ↔ OkPath s) ∧ Below w.heap.size w w' := by
  refine impl_IsPath.calls s ?_
  rw [impl_IsPath.E_s]
  refine (c_implHeights s hsz w).mono ?_
  rintro e w' ⟨t, b, rfl, hb, hok, _⟩
  exact ⟨t, b, rfl, b, rfl, hok, hb⟩


end Go.Proofs.YtlcemelmnkipmaaGreat

/- What each function does, step by step, written by a program (Gen.lean); each equation is checked by the kernel. -/
namespace Go.Proofs.YtlcemelmnkipmaaGreat
open Go
set_option linter.unusedVariables false
set_option maxRecDepth 100000
namespace slices_Delete___int_int_
@[reducible] def cfg : Cfg := ⟨33, [], [], [], [6], [], [13, 32, 63, 81], [41, 4, 46, 44, 48]⟩
def E (pr : Prims) (s_0 : Sl) (i_1 : Int) (j_2 : Int) (w : World) (R : Ending → World → Prop) : Prop :=
  wpC pr PP cfg (DD pr) (codeOf Tryz.f38) (retQ Tryz.f38.results.toList R) (argE 0 [Sl.v s_0, vI i_1, vI j_2]) w
theorem E_eq (pr : Prims) (s_0 : Sl) (i_1 : Int) (j_2 : Int) (w : World) (R : Ending → World → Prop) : E pr s_0 i_1 j_2 w R = (
  pr.cut3K 1 s_0 (some i_1) j_2 (s_0.n : Int) fun (s0 : Sl) =>
  bif i_1 == j_2 then (
  R (.returned (Sl.v s_0)) w)
  else (
  pr.drewAll w fun ω1 =>
  pr.cutK 1 s_0 none (some i_1) fun (s2 : Sl) =>
  pr.cutK 1 s_0 (some j_2) none fun (s3 : Sl) =>
  pr.sem1 .sl PP (Builtin.append_ #[T_Sint, T_Sint] T_Sint #[Sl.v s2, Sl.v s3]) ω1 fun (ρ4 : Sl) ω5 =>
  pr.cutK 1 ρ4 (some (ρ4.n : Int)) (some (s_0.n : Int)) fun (s6 : Sl) =>
  pr.sem1 .any PP (Builtin.clear_ #[T_Sint] T___ #[Sl.v s6]) ω5 fun (ρ7 : Value) ω8 =>
  R (.returned (Sl.v ρ4)) ω8)) := by kernel_rfl
theorem E_s (s_0 : Sl) (i_1 : Int) (j_2 : Int) (w : World) (R : Ending → World → Prop) : E std s_0 i_1 j_2 w R = (
  cut3K 1 s_0 (some i_1) j_2 (s_0.n : Int) fun (s0 : Sl) =>
  bif i_1 == j_2 then (
  R (.returned (Sl.v s_0)) w)
  else (
  drewAll w fun ω1 =>
  cutK 1 s_0 none (some i_1) fun (s2 : Sl) =>
  cutK 1 s_0 (some j_2) none fun (s3 : Sl) =>
  sem1 .sl PP (Builtin.append_ #[T_Sint, T_Sint] T_Sint #[Sl.v s2, Sl.v s3]) ω1 fun (ρ4 : Sl) ω5 =>
  cutK 1 ρ4 (some (ρ4.n : Int)) (some (s_0.n : Int)) fun (s6 : Sl) =>
  sem1 .any PP (Builtin.clear_ #[T_Sint] T___ #[Sl.v s6]) ω5 fun (ρ7 : Value) ω8 =>
  R (.returned (Sl.v ρ4)) ω8)) := E_eq std s_0 i_1 j_2 w R
theorem drawsOk : drawsOk PP cfg okD (codeOf Tryz.f38) = true := by kernel_rfl
theorem calls (s_0 : Sl) (i_1 : Int) (j_2 : Int) {w : World} {R : Ending → World → Prop} (h : E std s_0 i_1 j_2 w R) : Calls PP F.slices_Delete___int_int_ #[Sl.v s_0, vI i_1, vI j_2] w R :=
  calls_of noCount mixed drawOk Tryz.func38 rfl (c := cfg) (args := [Sl.v s_0, vI i_1, vI j_2]) rfl (Nat.le_of_ble_eq_true (by kernel_rfl)) drawsOk h
end slices_Delete___int_int_

end Go.Proofs.YtlcemelmnkipmaaGreat

/- The library's Delete of one element of a row of ints that the call owns. -/
namespace Go.Proofs.YtlcemelmnkipmaaGreat
open Go Go.RowKit
set_option maxRecDepth 100000

theorem keepsTrans {a b c : World} {r : Option Nat} (h : a.grownBy b r) (k : b.grownBy c r) : a.grownBy c r :=
  ⟨k.os.trans h.os, k.tape.trans h.tape, k.output.trans h.output, Nat.le_trans h.size k.size, fun x hx hne => (k.block x (Nat.lt_of_lt_of_le hx h.size) hne).trans (h.block x hx hne)⟩
theorem c_Delete {w : World} {B : Nat} {s : Sl} {L : List Int} (h : OwnI w B s L) (hB : B ≤ w.heap.size) (hL : L.length < 2^38) {i : Int} (h0 : 0 ≤ i) (hi : i < L.length) :
    Calls PP F.slices_Delete___int_int_ #[s.v, vI i, vI (i + 1)] w fun e w' => ∃ s' : Sl, e = .returned s'.v ∧ OwnI w' B s' (L.take i.toNat ++ L.drop (i.toNat + 1)) ∧ w.grownBy w' s.blk ∧ Next w s s' := by
  have hsn : s.n = L.length := by have := h.n; simpa using this
  have hnc := h.nc
  refine slices_Delete___int_int_.calls s i (i + 1) ?_
  rw [slices_Delete___int_int_.E_s]
  refine ⟨by simpa using h0, by simp; omega, by omega, by omega, ?_⟩
  refine bif_f (by simp; omega) ?_
  refine drew_intro fun w1 hd => ?_
  have h1 : OwnI w1 B s L := h.heap hd.heap'
  refine Own.popE h1 h0 (by simp; omega) fun hs2 => ?_
  refine Row.cut h1.row (lo := some (i + 1)) (hi := none) (by simp; omega) (by simp; omega) (by simp; omega) ?_
  intro s3 hs3
  have e3 : (List.take ((none : Option Int).getD (s.n : Int)).toNat (L.map vI)).drop ((some (i + 1)).getD 0).toNat = (L.drop (i.toNat + 1)).map vI := by
    simp only [Option.getD_none, Option.getD_some, Int.toNat_natCast]
    rw [List.take_of_length_le (by simp; omega), List.map_drop, show (i + 1).toNat = i.toNat + 1 by omega]
  rw [e3] at hs3
  have e2 : (L.map vI).take i.toNat = (L.take i.toNat).map vI := by rw [List.map_take]
  rw [e2] at hs2
  have hsz : w1.heap.size = w.heap.size := by rw [hd.heap']
  have hlen : (List.map vI (List.take i.toNat L) ++ List.map vI (List.drop (i.toNat + 1) L)).length + 1 = L.length := by simp; omega
  refine append_room oneInt hs2 (by omega) hs3 (fun v hv => by obtain ⟨x, _, rfl⟩ := List.mem_map.1 hv; exact One.int x) (by simp; omega) (by simp only [List.length_map, List.length_take, List.length_drop]; omega) ?_
  intro s4 w4 hs4 hg4 hn4 hc4
  simp only at hc4
  refine clear_spare hs4 (by omega) (by omega) ?_
  intro r w5 hs5 hg5 _
  have hblk2 : ∀ g, (⟨s.a, i.toNat, s.c⟩ : Sl).blk = some g ↔ s.blk = some g := fun g => by simp [Sl.blk]
  have eblk : (⟨s.a, i.toNat, s.c⟩ : Sl).blk = s.blk := by simp [Sl.blk]
  rw [eblk] at hg4
  have hw4 : w.grownBy w4 s.blk := ⟨hg4.os.trans (hd.below 0).os, hg4.tape.trans (hd.below 0).tape, hg4.output.trans (hd.below 0).output, by have := hg4.size; omega, fun x hx hne => by rw [hg4.block x (by omega) hne, hd.heap']⟩
  refine ⟨s4, rfl, by simpa [OwnI] using hs5, ⟨hg5.os.trans hw4.os, hg5.tape.trans hw4.tape, hg5.output.trans hw4.output, Nat.le_trans hw4.size hg5.size, fun x hx hne => ?_⟩, fun g hg => ?_⟩
  · rw [hg5.block x (Nat.lt_of_lt_of_le hx hw4.size) (fun e => ?_), hw4.block x hx hne]
    rcases hn4 x e.symm with h6 | h6
    · rw [eblk] at h6; exact hne h6.symm
    · omega
  · rcases hn4 g hg with h6 | h6
    · rw [eblk] at h6; exact .inl h6
    · exact .inr (by omega)
end Go.Proofs.YtlcemelmnkipmaaGreat

/- PermOfPath: both texts, and the law. -/
namespace Go.Proofs.YtlcemelmnkipmaaGreat
open Go Go.RowKit
set_option maxRecDepth 100000

/-- The letters U among the first k. -/
def nU (s : ByteArray) : Nat → Nat
  | 0 => 0
  | k + 1 => nU s k + (if bt s k = 85 then 1 else 0)
theorem hs_nU (s : ByteArray) : ∀ k, hs s k = 2 * (nU s k : Int) - k
  | 0 => by simp [hs, nU]
  | k + 1 => by have := hs_nU s k; simp only [hs, nU]; split <;> omega
theorem nU_mono (s : ByteArray) (k d : Nat) : nU s k ≤ nU s (k + d) := by
  induction d with
  | zero => exact Nat.le_refl _
  | succ d ih => rw [← Nat.add_assoc, nU]; omega
theorem nU_le (s : ByteArray) : ∀ k, nU s k ≤ k
  | 0 => by simp [nU]
  | k + 1 => by have := nU_le s k; simp only [nU]; split <;> omega
/-- What is left and what has come out, behind k letters. -/
def pst (s : ByteArray) : Nat → List Int × List Int
  | 0 => (idn (s.size / 2), [])
  | k + 1 => if bt s k = 68 then ((pst s k).1.take ((pst s k).1.length - 1 - (hs s (k + 1)).toNat) ++ (pst s k).1.drop ((pst s k).1.length - 1 - (hs s (k + 1)).toNat + 1), (pst s k).2 ++ [(pst s k).1.getD ((pst s k).1.length - 1 - (hs s (k + 1)).toNat) 0]) else pst s k
theorem ok_facts {s : ByteArray} (h : OkPath s) : nU s s.size = s.size / 2 ∧ s.size = 2 * (s.size / 2) ∧ s.size / 2 ≤ 8 := by
  have := hs_nU s s.size
  have := h.2.1
  have := h.2.2
  omega
theorem pst_len {s : ByteArray} (h : OkPath s) : ∀ k, k ≤ s.size → (pst s k).1.length + k = s.size / 2 + nU s k ∧ (pst s k).2.length ≤ k
  | 0, _ => by simp [pst, nU, idn_length]
  | k + 1, hk => by
    obtain ⟨ih, ih2⟩ := pst_len h k (by omega)
    have hst := h.1 k (by omega)
    obtain ⟨f1, f2, f3⟩ := ok_facts h
    have hm := nU_mono s (k + 1) (s.size - (k + 1))
    rw [show k + 1 + (s.size - (k + 1)) = s.size by omega] at hm
    have e1 := hs_nU s (k + 1)
    have e2 := nU_le s k
    rw [pst]
    split
    · rename_i hb
      have hu : nU s (k + 1) = nU s k := by rw [nU, hb]; simp
      have := hst.2
      simp only [List.length_append, List.length_take, List.length_drop, List.length_singleton]
      omega
    · rename_i hb
      have hb2 : bt s k = 85 := by
        rcases hst.1 with h1 | h1
        · exact h1
        · exact absurd h1 hb
      have hu : nU s (k + 1) = nU s k + 1 := by rw [nU, if_pos hb2]
      omega
/-- At a letter D there is a number to take. -/
theorem pst_at {s : ByteArray} (h : OkPath s) {k : Nat} (hk : k < s.size) (hb : bt s k = 68) : 0 ≤ hs s (k + 1) ∧ hs s (k + 1) < (pst s k).1.length ∧ (pst s k).1.length ≤ 8 := by
  obtain ⟨ih, _⟩ := pst_len h k (by omega)
  obtain ⟨f1, f2, f3⟩ := ok_facts h
  have hm := nU_mono s (k + 1) (s.size - (k + 1))
  rw [show k + 1 + (s.size - (k + 1)) = s.size by omega] at hm
  have e1 := hs_nU s (k + 1)
  have hst := h.1 k hk
  have hu : nU s (k + 1) = nU s k := by rw [nU, hb]; simp
  have := hst.2
  have := nU_le s k
  omega
open Classical in
noncomputable def PermOfPathV (s : ByteArray) : List Int := if OkPath s then (pst s s.size).2 else []
open Classical in
noncomputable def PermOfPathV1 (s : ByteArray) : Bool := decide (OkPath s)
theorem PermOfPathV_len (s : ByteArray) : (PermOfPathV s).length < 2^38 := by
  unfold PermOfPathV
  split
  · rename_i h
    have := (pst_len h s.size (Nat.le_refl _)).2
    have := h.2.2
    omega
  · simp
theorem c_identity {w : World} (n : Nat) (hn : n ≤ 8) :
    Calls PP F.impl_identity #[vI n] w fun e w' => ∃ s : Sl, e = .returned s.v ∧ OwnI w' w.heap.size s (idn n) ∧ Below w.heap.size w w' := by
  refine impl_identity.calls n ?_
  rw [impl_identity.E_s]
  refine lit0 oneInt (B := w.heap.size) (Nat.le_refl _) ?_
  intro t0 w1 hown hg _
  refine impl_identity.L3_rule _ _ _ _ _ (I := fun t k w' => 0 ≤ k ∧ k ≤ n ∧ OwnI w' w.heap.size t (idn k.toNat) ∧ Below w.heap.size w w') (μ := fun _ k _ => (n - k).toNat)
    ⟨by omega, by omega, hown, below_of_grow hg⟩ ?_
  rintro t k w' ⟨h1, hk, ht, hb⟩
  rw [impl_identity.B3_s]
  refine bif_dec (fun h3 => ?_) (fun h3 => ?_)
  · rw [w64_succ h1 (by omega)]
    refine append_int ht hb.size (by rw [idn_length]; omega) ?_
    intro t' w2 ht2 hg2 _
    refine ⟨t', k + 1, rfl, ⟨by omega, by omega, ?_, hb.grown hg2 hb.size (fun g hg => (ht.lt g hg).1)⟩, by omega⟩
    rw [show (k + 1).toNat = k.toNat + 1 by omega, idn_succ, show ((k.toNat : Nat) : Int) + 1 = k + 1 by omega]
    exact ht2
  · rw [impl_identity.A3_0_s]
    rw [show k.toNat = n by omega] at ht
    exact ⟨t, rfl, ht, hb⟩
theorem c_IdentityPermP {w : World} (n : Nat) (hn : n ≤ 8) :
    Calls PP F.spec_IdentityPerm #[vI n] w fun e w' => ∃ s : Sl, e = .returned s.v ∧ OwnI w' w.heap.size s (idn n) ∧ Below w.heap.size w w' := by
  refine spec_IdentityPerm.calls n ?_
  rw [spec_IdentityPerm.E_s]
  refine lit0 oneInt (B := w.heap.size) (Nat.le_refl _) ?_
  intro t0 w1 hown hg _
  refine spec_IdentityPerm.L3_rule _ _ _ _ _ (I := fun t k w' => 1 ≤ k ∧ k ≤ n + 1 ∧ OwnI w' w.heap.size t (idn (k - 1).toNat) ∧ Below w.heap.size w w') (μ := fun _ k _ => (n + 1 - k).toNat)
    ⟨by omega, by omega, hown, below_of_grow hg⟩ ?_
  rintro t k w' ⟨h1, hk, ht, hb⟩
  rw [spec_IdentityPerm.B3_s]
  refine bif_dec (fun h3 => ?_) (fun h3 => ?_)
  · refine bif_dec (fun h4 => ?_) (fun h4 => by omega)
    refine append_int ht hb.size (by rw [idn_length]; omega) ?_
    intro t' w2 ht2 hg2 _
    refine ⟨t', k + 1, by rw [w64_succ (by omega) (by omega)], ⟨by omega, by omega, ?_, hb.grown hg2 hb.size (fun g hg => (ht.lt g hg).1)⟩, by omega⟩
    rw [show (k + 1 - 1).toNat = (k - 1).toNat + 1 by omega, idn_succ, show (((k - 1).toNat : Nat) : Int) + 1 = k by omega]
    exact ht2
  · rw [spec_IdentityPerm.A3_0_s]
    rw [show (k - 1).toNat = n by omega] at ht
    exact ⟨t, rfl, ht, hb⟩
theorem half (s : ByteArray) (h : OkPath s) : w64 ((s.size : Int).tdiv 2) = ((s.size / 2 : Nat) : Int) := by
  have := h.2.2
  have e : (s.size : Int).tdiv 2 = (s.size : Int) / 2 := Int.tdiv_eq_ediv_of_nonneg (by omega)
  rw [e, w64_id] <;> omega

theorem c_implPermOfPath {w : World} (s : ByteArray) (hs0 : s.size < 2 ^ 38) :
    Calls PP F.impl_PermOfPath #[.string s] w fun e w' => ∃ t : Sl, e = .returned (.tuple #[t.v, .bool (PermOfPathV1 s)]) ∧ OwnI w' w.heap.size t (PermOfPathV s) ∧ Below w.heap.size w w' := by
  refine impl_PermOfPath.calls s ?_
  rw [impl_PermOfPath.E_s]
  refine (c_implHeights s (by omega) w).mono ?_
  rintro e w1 ⟨t, b, rfl, hb1, hiff, hrow⟩
  refine ⟨t, b, rfl, ?_⟩
  refine bif_intro (fun h => ?_) (fun h => ?_)
  · have hn : ¬ OkPath s := fun hh => by rw [hiff.2 hh] at h; cases h
    exact ⟨Sl.nil, by simp [PermOfPathV1, hn], by rw [PermOfPathV, if_neg hn]; exact Own.nil _ _ _, hb1⟩
  have hbt : b = true := by simpa using h
  have hok : OkPath s := hiff.1 hbt
  have hrow := hrow hbt
  obtain ⟨f1, f2, f3⟩ := ok_facts hok
  have hV : PermOfPathV s = (pst s s.size).2 := by rw [PermOfPathV, if_pos hok]
  have hV1 : PermOfPathV1 s = true := by simp [PermOfPathV1, hok]
  have h16 := hok.2.2
  refine ⟨by decide, ?_⟩
  rw [half s hok]
  refine (c_identity (s.size / 2) f3).mono ?_
  rintro e w2 ⟨l0, rfl, hl0, hb12⟩
  refine ⟨l0, rfl, ?_⟩
  refine lit0 oneInt (B := w1.heap.size) hb12.size ?_
  intro o0 w3 ho0 hg3 hc3
  have htn : t.n = s.size := by have := hrow.n; simpa [hsL_length] using this
  rw [htn]
  have hl3 : OwnI w3 w1.heap.size l0 (pst s 0).1 := hl0.kept hg3 (by simp)
  refine impl_PermOfPath.L7_rule _ _ _ _ _ _ _ _ (I := fun l o k w' => 0 ≤ k ∧ k ≤ s.size ∧ OwnI w' w1.heap.size l (pst s k.toNat).1 ∧ OwnI w' w1.heap.size o (pst s k.toNat).2 ∧ Apt o l ∧ Below w1.heap.size w1 w') (μ := fun _ _ k _ => (s.size - k).toNat)
    ⟨by omega, by omega, hl3, ho0, fun g hg => by simp [Sl.blk, hc3] at hg, hb12.grown hg3 hb12.size (by simp)⟩ ?_
  rintro l o k w' ⟨h0, hk, hl, ho, hap, hb⟩
  rw [impl_PermOfPath.B7_s]
  refine bif_dec (fun h3 => ?_) (fun h3 => ?_)
  · have hlt : k.toNat < s.size := by omega
    have hsc : (k + 1).toNat = k.toNat + 1 := by omega
    refine RowI.get (hrow.grow hb) h0 (by rw [hsL_length]; omega) ?_
    have e1 : (hsL s s.size).getD k.toNat 0 = hs s (k.toNat + 1) := by simp [hsL, List.getD_eq_getElem?_getD, hlt]
    rw [e1]
    refine strIdx_intro h0 (by omega) ?_
    refine bif_intro (fun h4 => ?_) (fun h4 => ?_)
    · have h4 : bt s k.toNat = 68 := by simpa using h4
      obtain ⟨g1, g2, g3⟩ := pst_at hok hlt h4
      have hln : l.n = (pst s k.toNat).1.length := by have := hl.n; simpa using this
      rw [hln, w64_id (n := ((pst s k.toNat).1.length : Int) - 1) (by omega) (by omega), w64_id (n := ((pst s k.toNat).1.length : Int) - 1 - hs s (k.toNat + 1)) (by omega) (by omega)]
      rw [w64_id (n := ((pst s k.toNat).1.length : Int) - 1 - hs s (k.toNat + 1) + 1) (by omega) (by omega)]
      have e2 : (((pst s k.toNat).1.length : Int) - 1 - hs s (k.toNat + 1)).toNat = (pst s k.toNat).1.length - 1 - (hs s (k.toNat + 1)).toNat := by omega
      refine RowI.get hl.row (by omega) (by omega) ?_
      have hol := (pst_len hok k.toNat (by omega)).2
      refine append_int ho hb.size (by omega) ?_
      intro o' w4 ho4 hg4 hn4
      have hb4 := hb.grown hg4 hb.size (fun g hg => (ho.lt g hg).1)
      have hl4 : OwnI w4 w1.heap.size l (pst s k.toNat).1 := hl.kept hg4 (fun g e1 e2 => hap g e2 e1)
      have hap4 : Apt o' l := hap.next hn4 (fun g hg => (hl.lt g hg).2)
      refine (c_Delete hl4 hb4.size (by omega) (i := ((pst s k.toNat).1.length : Int) - 1 - hs s (k.toNat + 1)) (by omega) (by omega)).mono ?_
      rintro e w5 ⟨l5, rfl, hl5, hg5, hn5⟩
      refine ⟨l5, rfl, ?_⟩
      refine ⟨l5, o', k + 1, by rw [w64_succ h0 (by omega)], ⟨by omega, by omega, ?_, ?_, (hap4.symm.next hn5 (fun g hg => (ho4.lt g hg).2)).symm, hb4.grown hg5 hb4.size (fun g hg => (hl4.lt g hg).1)⟩, by omega⟩
      · rw [hsc, pst, if_pos h4]
        rw [e2] at hl5
        exact hl5
      · rw [hsc, pst, if_pos h4]
        rw [e2] at ho4
        exact ho4.kept hg5 (fun g e1 e2 => hap4 g e1 e2)
    · have h4 : bt s k.toNat ≠ 68 := by simpa using h4
      refine ⟨l, o, k + 1, by rw [w64_succ h0 (by omega)], ⟨by omega, by omega, ?_, ?_, hap, hb⟩, by omega⟩
      · rw [hsc, pst, if_neg h4]; exact hl
      · rw [hsc, pst, if_neg h4]; exact ho
  · rw [impl_PermOfPath.A7_0_s]
    rw [show k.toNat = s.size by omega] at ho
    exact ⟨o, by rw [hV1], by rw [hV]; exact ho.mono hb1.size, hb1.trans (hb.mono hb1.size)⟩

theorem c_specPermOfPath {w : World} (s : ByteArray) (hs0 : s.size < 2 ^ 38) :
    Calls PP F.spec_PermOfPath #[.string s] w fun e w' => ∃ t : Sl, e = .returned (.tuple #[t.v, .bool (PermOfPathV1 s)]) ∧ RowI w' t (PermOfPathV s) ∧ Below w.heap.size w w' := by
  refine spec_PermOfPath.calls s ?_
  rw [spec_PermOfPath.E_s]
  obtain ⟨b, hiff, hp⟩ := c_specIsPath s (by omega)
  refine Pure.call1 (s := .bool) hp ?_
  refine bif_intro (fun h => ?_) (fun h => ?_)
  · have hn : ¬ OkPath s := fun hh => by rw [hiff.2 hh] at h; cases h
    refine lit0 oneInt (B := w.heap.size) (Nat.le_refl _) ?_
    intro t w1 ht hg _
    exact ⟨t, by simp [PermOfPathV1, hn], by rw [PermOfPathV, if_neg hn]; exact ht.row, below_of_grow hg⟩
  have hok : OkPath s := hiff.1 (by simpa using h)
  obtain ⟨f1, f2, f3⟩ := ok_facts hok
  have hV : PermOfPathV s = (pst s s.size).2 := by rw [PermOfPathV, if_pos hok]
  have hV1 : PermOfPathV1 s = true := by simp [PermOfPathV1, hok]
  have h16 := hok.2.2
  refine ⟨by decide, ?_⟩
  rw [half s hok]
  refine (c_IdentityPermP (s.size / 2) f3).mono ?_
  rintro e w2 ⟨l0, rfl, hl0, hb2⟩
  refine ⟨l0, rfl, ?_⟩
  refine lit0 oneInt (B := w.heap.size) hb2.size ?_
  intro o0 w3 ho0 hg3 hc3
  refine spec_PermOfPath.L7_rule _ _ _ _ _ _ _ (I := fun l o h k w' => 0 ≤ k ∧ k ≤ s.size ∧ h = hs s k.toNat ∧ OwnI w' w.heap.size l (pst s k.toNat).1 ∧ OwnI w' w.heap.size o (pst s k.toNat).2 ∧ Apt o l ∧ Below w.heap.size w w') (μ := fun _ _ _ k _ => (s.size - k).toNat)
    ⟨by omega, by omega, rfl, hl0.kept hg3 (by simp), ho0, fun g hg => by simp [Sl.blk, hc3] at hg, hb2.grown hg3 hb2.size (by simp)⟩ ?_
  rintro l o h k w' ⟨h0, hk, hh, hl, ho, hap, hb⟩
  have hbd := hs_bound s k.toNat
  rw [spec_PermOfPath.B7_s]
  refine bif_dec (fun h3 => ?_) (fun h3 => ?_)
  · have hlt : k.toNat < s.size := by omega
    have hsc : (k + 1).toNat = k.toNat + 1 := by omega
    have hst := hok.1 k.toNat hlt
    refine strIdx_intro h0 (by omega) ?_
    refine bif_intro (fun h4 => ?_) (fun h4 => ?_)
    · have h4 : bt s k.toNat = 85 := by simpa using h4
      have h5 : bt s k.toNat ≠ 68 := by rw [h4]; decide
      refine ⟨l, o, h + 1, k + 1, by rw [w64_succ h0 (by omega), w64_id (by omega) (by omega)], ⟨by omega, by omega, ?_, ?_, ?_, hap, hb⟩, by omega⟩
      · rw [hsc, hs, if_pos h4, hh]
      · rw [hsc, pst, if_neg h5]; exact hl
      · rw [hsc, pst, if_neg h5]; exact ho
    · have h4 : bt s k.toNat ≠ 85 := by simpa using h4
      have h5 : bt s k.toNat = 68 := by
        rcases hst.1 with h1 | h1
        · exact absurd h1 h4
        · exact h1
      have hh1 : h - 1 = hs s (k.toNat + 1) := by rw [hs, if_neg h4, hh]; omega
      obtain ⟨g1, g2, g3⟩ := pst_at hok hlt h5
      have hln : l.n = (pst s k.toNat).1.length := by have := hl.n; simpa using this
      rw [w64_id (n := h - 1) (by omega) (by omega), hh1]
      rw [hln, w64_id (n := ((pst s k.toNat).1.length : Int) - 1) (by omega) (by omega), w64_id (n := ((pst s k.toNat).1.length : Int) - 1 - hs s (k.toNat + 1)) (by omega) (by omega)]
      rw [w64_id (n := ((pst s k.toNat).1.length : Int) - 1 - hs s (k.toNat + 1) + 1) (by omega) (by omega)]
      have e2 : (((pst s k.toNat).1.length : Int) - 1 - hs s (k.toNat + 1)).toNat = (pst s k.toNat).1.length - 1 - (hs s (k.toNat + 1)).toNat := by omega
      refine RowI.get hl.row (by omega) (by omega) ?_
      have hol := (pst_len hok k.toNat (by omega)).2
      refine append_int ho hb.size (by omega) ?_
      intro o' w4 ho4 hg4 hn4
      refine drew_intro fun w5 hd5 => ?_
      have hb5 := (hb.grown hg4 hb.size (fun g hg => (ho.lt g hg).1)).trans (hd5.below _)
      have hl5 : OwnI w5 w.heap.size l (pst s k.toNat).1 := (hl.kept hg4 (fun g e1 e2 => hap g e2 e1)).heap hd5.heap'
      have ho5 := ho4.heap hd5.heap'
      refine Row.cut hl5.row (by simp) (by simp; omega) (by simp; omega) ?_
      intro s1 hs1
      refine Row.cut hl5.row (lo := some (((pst s k.toNat).1.length : Int) - 1 - hs s (k.toNat + 1) + 1)) (hi := none) (by simp; omega) (by simp; omega) (by simp; omega) ?_
      intro s2 hs2
      have q1 : (List.take ((some (((pst s k.toNat).1.length : Int) - 1 - hs s (k.toNat + 1))).getD (l.n : Int)).toNat ((pst s k.toNat).1.map vI)).drop ((none : Option Int).getD 0).toNat = ((pst s k.toNat).1.take ((pst s k.toNat).1.length - 1 - (hs s (k.toNat + 1)).toNat)).map vI := by
        simp only [Option.getD_none, Option.getD_some, Int.toNat_zero, List.drop_zero]
        rw [e2, List.map_take]
      have q2 : (List.take ((none : Option Int).getD (l.n : Int)).toNat ((pst s k.toNat).1.map vI)).drop ((some (((pst s k.toNat).1.length : Int) - 1 - hs s (k.toNat + 1) + 1)).getD 0).toNat = ((pst s k.toNat).1.drop ((pst s k.toNat).1.length - 1 - (hs s (k.toNat + 1)).toNat + 1)).map vI := by
        simp only [Option.getD_none, Option.getD_some, Int.toNat_natCast]
        rw [List.take_of_length_le (by simp; omega), List.map_drop]
        congr 1; omega
      rw [q1] at hs1
      rw [q2] at hs2
      refine lit0 oneInt (B := w5.heap.size) (Nat.le_refl _) ?_
      intro t1 w6 ht1 hg6 _
      have hb56 := below_of_grow hg6
      refine append_row oneInt ht1 hb56.size (hs1.grow hb56) (fun v hv => by obtain ⟨x, _, rfl⟩ := List.mem_map.1 hv; exact One.int x) (by simp; omega) ?_
      intro t2 w7 ht2 hg7 _ _
      have hb57 := hb56.grown hg7 hb56.size (fun g hg => (ht1.lt g hg).1)
      refine append_row oneInt ht2 hb57.size (hs2.grow hb57) (fun v hv => by obtain ⟨x, _, rfl⟩ := List.mem_map.1 hv; exact One.int x) (by simp; omega) ?_
      intro t3 w8 ht3 hg8 _ _
      have hb58 := hb57.grown hg8 hb57.size (fun g hg => (ht2.lt g hg).1)
      refine ⟨t3, o', hs s (k.toNat + 1), k + 1, by rw [w64_succ h0 (by omega)], ⟨by omega, by omega, by rw [hsc], ?_, ?_, ?_, hb5.trans (hb58.mono hb5.size)⟩, by omega⟩
      · rw [hsc, pst, if_pos h5]
        have ht3 : OwnI w8 w5.heap.size t3 ((pst s k.toNat).1.take ((pst s k.toNat).1.length - 1 - (hs s (k.toNat + 1)).toNat) ++ (pst s k.toNat).1.drop ((pst s k.toNat).1.length - 1 - (hs s (k.toNat + 1)).toNat + 1)) := by
          simpa [OwnI] using ht3
        exact ht3.mono hb5.size
      · rw [hsc, pst, if_pos h5]
        rw [e2] at ho5
        exact ho5.grow hb58
      · exact Apt.of_lt (fun g hg => (ho5.lt g hg).2) (fun g hg => (ht3.lt g hg).1)
  · rw [spec_PermOfPath.A7_0_s]
    rw [show k.toNat = s.size by omega] at ho
    exact ⟨o, by rw [hV1], by rw [hV]; exact ho.row, hb⟩
end Go.Proofs.YtlcemelmnkipmaaGreat

/- What each function does, step by step, written by a program (Gen.lean); each equation is checked by the kernel. -/
namespace Go.Proofs.YtlcemelmnkipmaaGreat
open Go
set_option linter.unusedVariables false
set_option maxRecDepth 100000
namespace impl_CountReturns
@[reducible] def cfg : Cfg := ⟨27, [(6, [5, 15, 16, 17])], [(1, [5, 15, 16, 17]), (0, [5])], [], [2], [], [13, 32, 63, 81], [41, 4, 46, 44, 48]⟩
def q3 (pr : Prims) (R : Ending → World → Prop) : Exit → Env → World → Prop := fun ex e w => normQ ex (fun e w => contE pr cfg (sub (codeOf Tryz.f20) [1, 1, 1, 1, 1]) (fun e w => wpC pr PP cfg (DD pr) (sub (codeOf Tryz.f20) [1, 1, 1, 1, 1]) (retQ Tryz.f20.results.toList R) e w) e w) (retQ Tryz.f20.results.toList R) e w
def q4 (pr : Prims) (R : Ending → World → Prop) : Exit → Env → World → Prop := fun ex e w => blockQ ex 0 (q3 pr R) e w
def emb6 (many_5 : Int) (t15 : Sl) (t16 : Int) (t17 : Int) : Env := [(5, vI many_5), (15, Sl.v t15), (16, vI t16), (17, vI t17)]
def x0 (many_5 : Int) : Env := [(5, vI many_5)]
def S6 (pr : Prims) (Q : Exit → Env → World → Prop) : (Env → World → Prop) → Env → World → Prop := fun k e w => wpC pr PP cfg (DD pr) (sub (codeOf Tryz.f20) [1, 1, 1, 1, 0, 1, 0, 0]) (fun ex e w => normQ ex (fun e' w' => k (Env.restr e' (lookN cfg.loops (keyOf (sub (codeOf Tryz.f20) [1, 1, 1, 1, 0, 1, 0, 0])))) w') Q e w) e w
def B6 (pr : Prims) (many_5 : Int) (t15 : Sl) (t16 : Int) (t17 : Int) (w : World) (k : Env → World → Prop) (Q : Exit → Env → World → Prop) : Prop :=
  S6 pr Q k (emb6 many_5 t15 t16 t17) w
def L6 (pr : Prims) (many_5 : Int) (t15 : Sl) (t16 : Int) (t17 : Int) (w : World) (Q : Exit → Env → World → Prop) : Prop :=
  pr.loop (S6 pr Q) (emb6 many_5 t15 t16 t17) w
def E (pr : Prims) (text_0 : ByteArray) (w : World) (R : Ending → World → Prop) : Prop :=
  wpC pr PP cfg (DD pr) (codeOf Tryz.f20) (retQ Tryz.f20.results.toList R) (argE 0 [.string text_0]) w
theorem B6_eq (pr : Prims) (many_5 : Int) (t15 : Sl) (t16 : Int) (t17 : Int) (w : World) (k : Env → World → Prop) (Q : Exit → Env → World → Prop) : B6 pr many_5 t15 t16 t17 w k Q = (
  bif decide (t17 < t16) then (
  pr.idxK 1 t15 t17 fun (a5 : Addr) =>
  pr.load1 (.int .i64) a5 w fun (ξ6 : Int) =>
  bif ξ6 == 0 then (
  k (emb6 (w64 (many_5 + 1)) t15 t16 (w64 (t17 + 1))) w)
  else (
  k (emb6 many_5 t15 t16 (w64 (t17 + 1))) w))
  else (
  Q (.exit 0) (x0 many_5) w)) := by kernel_rfl
theorem B6_s (many_5 : Int) (t15 : Sl) (t16 : Int) (t17 : Int) (w : World) (k : Env → World → Prop) (Q : Exit → Env → World → Prop) : B6 std many_5 t15 t16 t17 w k Q = (
  bif decide (t17 < t16) then (
  idxK 1 t15 t17 fun (a5 : Addr) =>
  load1 (.int .i64) a5 w fun (ξ6 : Int) =>
  bif ξ6 == 0 then (
  k (emb6 (w64 (many_5 + 1)) t15 t16 (w64 (t17 + 1))) w)
  else (
  k (emb6 many_5 t15 t16 (w64 (t17 + 1))) w))
  else (
  Q (.exit 0) (x0 many_5) w)) := B6_eq std many_5 t15 t16 t17 w k Q
theorem L6_rule (many_5 : Int) (t15 : Sl) (t16 : Int) (t17 : Int) (w : World) (Q : Exit → Env → World → Prop) (I : Int → Int → World → Prop) (μ : Int → Int → World → Nat) (h0 : I many_5 t17 w)
    (h : ∀ (many_5 : Int) (t17 : Int) (w' : World), I many_5 t17 w' → B6 std many_5 t15 t16 t17 w' (fun e2 w2 => ∃ many_5_n t17_n, e2 = emb6 many_5_n t15 t16 t17_n ∧ I many_5_n t17_n w2 ∧ μ many_5_n t17_n w2 < μ many_5 t17 w') Q) :
    L6 std many_5 t15 t16 t17 w Q := by
  unfold L6
  refine LoopE.intro (σ := Int × Int) (step := S6 std Q) (fun s => emb6 s.1 t15 t16 s.2) (fun s w => I s.1 s.2 w) (fun s w => μ s.1 s.2 w) (many_5, t17) rfl h0 ?_
  intro s w' hI
  have h1 := h s.1 s.2 w' hI
  unfold B6 at h1
  simp only [Prod.exists]
  exact h1
theorem A6_0_eq (pr : Prims) (many_5 : Int) (w : World) (R : Ending → World → Prop) : (q4 pr R) (.exit 0) (x0 many_5) w = (
  R (.returned (vI many_5)) w) := by kernel_rfl
theorem A6_0_s (many_5 : Int) (w : World) (R : Ending → World → Prop) : (q4 std R) (.exit 0) (x0 many_5) w = (
  R (.returned (vI many_5)) w) := A6_0_eq std many_5 w R
theorem E_eq (pr : Prims) (text_0 : ByteArray) (w : World) (R : Ending → World → Prop) : E pr text_0 w R = (
  pr.call2 .sl .bool PP F.impl_heights #[.string text_0] w fun (ρ0 : Sl) (ρ1 : Bool) ω2 =>
  bif !ρ1 then (
  R (.returned (vI (-1))) ω2)
  else (
  L6 pr 0 ρ0 (ρ0.n : Int) 0 ω2 (q4 pr R))) := by kernel_rfl
theorem E_s (text_0 : ByteArray) (w : World) (R : Ending → World → Prop) : E std text_0 w R = (
  call2 .sl .bool PP F.impl_heights #[.string text_0] w fun (ρ0 : Sl) (ρ1 : Bool) ω2 =>
  bif !ρ1 then (
  R (.returned (vI (-1))) ω2)
  else (
  L6 std 0 ρ0 (ρ0.n : Int) 0 ω2 (q4 std R))) := E_eq std text_0 w R
theorem drawsOk : drawsOk PP cfg okD (codeOf Tryz.f20) = true := by kernel_rfl
theorem calls (text_0 : ByteArray) {w : World} {R : Ending → World → Prop} (h : E std text_0 w R) : Calls PP F.impl_CountReturns #[.string text_0] w R :=
  calls_of noCount mixed drawOk Tryz.func20 rfl (c := cfg) (args := [.string text_0]) rfl (Nat.le_of_ble_eq_true (by kernel_rfl)) drawsOk h
end impl_CountReturns

namespace spec_CountReturns
@[reducible] def cfg : Cfg := ⟨26, [(6, [3, 4, 5])], [(1, [3, 4, 5]), (0, [3])], [], [2], [], [13, 32, 63, 81], [41, 4, 46, 44, 48]⟩
def q4 (pr : Prims) (R : Ending → World → Prop) : Exit → Env → World → Prop := fun ex e w => normQ ex (fun e w => contE pr cfg (sub (codeOf Tryz.f21) [1, 1, 1, 1, 1]) (fun e w => wpC pr PP cfg (DD pr) (sub (codeOf Tryz.f21) [1, 1, 1, 1, 1]) (retQ Tryz.f21.results.toList R) e w) e w) (retQ Tryz.f21.results.toList R) e w
def q5 (pr : Prims) (R : Ending → World → Prop) : Exit → Env → World → Prop := fun ex e w => blockQ ex 0 (q4 pr R) e w
def emb6 (n_3 : Int) (list_4 : Sl) (k_5 : Int) : Env := [(3, vI n_3), (4, Sl.v list_4), (5, vI k_5)]
def x0 (n_3 : Int) : Env := [(3, vI n_3)]
def S6 (pr : Prims) (Q : Exit → Env → World → Prop) : (Env → World → Prop) → Env → World → Prop := fun k e w => wpC pr PP cfg (DD pr) (sub (codeOf Tryz.f21) [1, 1, 1, 1, 0, 1, 0, 0]) (fun ex e w => normQ ex (fun e' w' => k (Env.restr e' (lookN cfg.loops (keyOf (sub (codeOf Tryz.f21) [1, 1, 1, 1, 0, 1, 0, 0])))) w') Q e w) e w
def B6 (pr : Prims) (n_3 : Int) (list_4 : Sl) (k_5 : Int) (w : World) (k : Env → World → Prop) (Q : Exit → Env → World → Prop) : Prop :=
  S6 pr Q k (emb6 n_3 list_4 k_5) w
def L6 (pr : Prims) (n_3 : Int) (list_4 : Sl) (k_5 : Int) (w : World) (Q : Exit → Env → World → Prop) : Prop :=
  pr.loop (S6 pr Q) (emb6 n_3 list_4 k_5) w
def E (pr : Prims) (text_0 : ByteArray) (w : World) (R : Ending → World → Prop) : Prop :=
  wpC pr PP cfg (DD pr) (codeOf Tryz.f21) (retQ Tryz.f21.results.toList R) (argE 0 [.string text_0]) w
theorem B6_eq (pr : Prims) (n_3 : Int) (list_4 : Sl) (k_5 : Int) (w : World) (k : Env → World → Prop) (Q : Exit → Env → World → Prop) : B6 pr n_3 list_4 k_5 w k Q = (
  bif decide (k_5 < (list_4.n : Int)) then (
  pr.idxK 1 list_4 k_5 fun (a6 : Addr) =>
  pr.load1 (.int .i64) a6 w fun (ξ7 : Int) =>
  pr.pcall1 (.int .i64) PP F.spec_l1Bit #[.bool (ξ7 == 0)] fun (ρ8 : Int) =>
  k (emb6 (w64 (n_3 + ρ8)) list_4 (w64 (k_5 + 1))) w)
  else (
  Q (.exit 0) (x0 n_3) w)) := by kernel_rfl
theorem B6_s (n_3 : Int) (list_4 : Sl) (k_5 : Int) (w : World) (k : Env → World → Prop) (Q : Exit → Env → World → Prop) : B6 std n_3 list_4 k_5 w k Q = (
  bif decide (k_5 < (list_4.n : Int)) then (
  idxK 1 list_4 k_5 fun (a6 : Addr) =>
  load1 (.int .i64) a6 w fun (ξ7 : Int) =>
  pcall1 (.int .i64) PP F.spec_l1Bit #[.bool (ξ7 == 0)] fun (ρ8 : Int) =>
  k (emb6 (w64 (n_3 + ρ8)) list_4 (w64 (k_5 + 1))) w)
  else (
  Q (.exit 0) (x0 n_3) w)) := B6_eq std n_3 list_4 k_5 w k Q
theorem L6_rule (n_3 : Int) (list_4 : Sl) (k_5 : Int) (w : World) (Q : Exit → Env → World → Prop) (I : Int → Int → World → Prop) (μ : Int → Int → World → Nat) (h0 : I n_3 k_5 w)
    (h : ∀ (n_3 : Int) (k_5 : Int) (w' : World), I n_3 k_5 w' → B6 std n_3 list_4 k_5 w' (fun e2 w2 => ∃ n_3_n k_5_n, e2 = emb6 n_3_n list_4 k_5_n ∧ I n_3_n k_5_n w2 ∧ μ n_3_n k_5_n w2 < μ n_3 k_5 w') Q) :
    L6 std n_3 list_4 k_5 w Q := by
  unfold L6
  refine LoopE.intro (σ := Int × Int) (step := S6 std Q) (fun s => emb6 s.1 list_4 s.2) (fun s w => I s.1 s.2 w) (fun s w => μ s.1 s.2 w) (n_3, k_5) rfl h0 ?_
  intro s w' hI
  have h1 := h s.1 s.2 w' hI
  unfold B6 at h1
  simp only [Prod.exists]
  exact h1
theorem A6_0_eq (pr : Prims) (n_3 : Int) (w : World) (R : Ending → World → Prop) : (q5 pr R) (.exit 0) (x0 n_3) w = (
  R (.returned (vI n_3)) w) := by kernel_rfl
theorem A6_0_s (n_3 : Int) (w : World) (R : Ending → World → Prop) : (q5 std R) (.exit 0) (x0 n_3) w = (
  R (.returned (vI n_3)) w) := A6_0_eq std n_3 w R
theorem E_eq (pr : Prims) (text_0 : ByteArray) (w : World) (R : Ending → World → Prop) : E pr text_0 w R = (
  pr.call1 .bool PP F.spec_IsPath #[.string text_0] w fun (ρ0 : Bool) ω1 =>
  bif !ρ0 then (
  R (.returned (vI (-1))) ω1)
  else (
  pr.call1 .sl PP F.spec_l18Heights #[.string text_0] ω1 fun (ρ2 : Sl) ω3 =>
  L6 pr 0 ρ2 0 ω3 (q5 pr R))) := by kernel_rfl
theorem E_s (text_0 : ByteArray) (w : World) (R : Ending → World → Prop) : E std text_0 w R = (
  call1 .bool PP F.spec_IsPath #[.string text_0] w fun (ρ0 : Bool) ω1 =>
  bif !ρ0 then (
  R (.returned (vI (-1))) ω1)
  else (
  call1 .sl PP F.spec_l18Heights #[.string text_0] ω1 fun (ρ2 : Sl) ω3 =>
  L6 std 0 ρ2 0 ω3 (q5 std R))) := E_eq std text_0 w R
theorem drawsOk : drawsOk PP cfg okD (codeOf Tryz.f21) = true := by kernel_rfl
theorem calls (text_0 : ByteArray) {w : World} {R : Ending → World → Prop} (h : E std text_0 w R) : Calls PP F.spec_CountReturns #[.string text_0] w R :=
  calls_of noCount mixed drawOk Tryz.func21 rfl (c := cfg) (args := [.string text_0]) rfl (Nat.le_of_ble_eq_true (by kernel_rfl)) drawsOk h
end spec_CountReturns

namespace impl_PathHeight
@[reducible] def cfg : Cfg := ⟨26, [(6, [5, 15, 16, 17])], [(1, [5, 15, 16, 17]), (0, [5])], [], [2], [], [13, 32, 63, 81], [41, 4, 46, 44, 48]⟩
def q3 (pr : Prims) (R : Ending → World → Prop) : Exit → Env → World → Prop := fun ex e w => normQ ex (fun e w => contE pr cfg (sub (codeOf Tryz.f22) [1, 1, 1, 1, 1]) (fun e w => wpC pr PP cfg (DD pr) (sub (codeOf Tryz.f22) [1, 1, 1, 1, 1]) (retQ Tryz.f22.results.toList R) e w) e w) (retQ Tryz.f22.results.toList R) e w
def q4 (pr : Prims) (R : Ending → World → Prop) : Exit → Env → World → Prop := fun ex e w => blockQ ex 0 (q3 pr R) e w
def emb6 (most_5 : Int) (t15 : Sl) (t16 : Int) (t17 : Int) : Env := [(5, vI most_5), (15, Sl.v t15), (16, vI t16), (17, vI t17)]
def x0 (most_5 : Int) : Env := [(5, vI most_5)]
def S6 (pr : Prims) (Q : Exit → Env → World → Prop) : (Env → World → Prop) → Env → World → Prop := fun k e w => wpC pr PP cfg (DD pr) (sub (codeOf Tryz.f22) [1, 1, 1, 1, 0, 1, 0, 0]) (fun ex e w => normQ ex (fun e' w' => k (Env.restr e' (lookN cfg.loops (keyOf (sub (codeOf Tryz.f22) [1, 1, 1, 1, 0, 1, 0, 0])))) w') Q e w) e w
def B6 (pr : Prims) (most_5 : Int) (t15 : Sl) (t16 : Int) (t17 : Int) (w : World) (k : Env → World → Prop) (Q : Exit → Env → World → Prop) : Prop :=
  S6 pr Q k (emb6 most_5 t15 t16 t17) w
def L6 (pr : Prims) (most_5 : Int) (t15 : Sl) (t16 : Int) (t17 : Int) (w : World) (Q : Exit → Env → World → Prop) : Prop :=
  pr.loop (S6 pr Q) (emb6 most_5 t15 t16 t17) w
def E (pr : Prims) (text_0 : ByteArray) (w : World) (R : Ending → World → Prop) : Prop :=
  wpC pr PP cfg (DD pr) (codeOf Tryz.f22) (retQ Tryz.f22.results.toList R) (argE 0 [.string text_0]) w
theorem B6_eq (pr : Prims) (most_5 : Int) (t15 : Sl) (t16 : Int) (t17 : Int) (w : World) (k : Env → World → Prop) (Q : Exit → Env → World → Prop) : B6 pr most_5 t15 t16 t17 w k Q = (
  bif decide (t17 < t16) then (
  pr.idxK 1 t15 t17 fun (a5 : Addr) =>
  pr.load1 (.int .i64) a5 w fun (ξ6 : Int) =>
  k (emb6 (if ξ6 > most_5 then ξ6 else most_5) t15 t16 (w64 (t17 + 1))) w)
  else (
  Q (.exit 0) (x0 most_5) w)) := by kernel_rfl
theorem B6_s (most_5 : Int) (t15 : Sl) (t16 : Int) (t17 : Int) (w : World) (k : Env → World → Prop) (Q : Exit → Env → World → Prop) : B6 std most_5 t15 t16 t17 w k Q = (
  bif decide (t17 < t16) then (
  idxK 1 t15 t17 fun (a5 : Addr) =>
  load1 (.int .i64) a5 w fun (ξ6 : Int) =>
  k (emb6 (if ξ6 > most_5 then ξ6 else most_5) t15 t16 (w64 (t17 + 1))) w)
  else (
  Q (.exit 0) (x0 most_5) w)) := B6_eq std most_5 t15 t16 t17 w k Q
theorem L6_rule (most_5 : Int) (t15 : Sl) (t16 : Int) (t17 : Int) (w : World) (Q : Exit → Env → World → Prop) (I : Int → Int → World → Prop) (μ : Int → Int → World → Nat) (h0 : I most_5 t17 w)
    (h : ∀ (most_5 : Int) (t17 : Int) (w' : World), I most_5 t17 w' → B6 std most_5 t15 t16 t17 w' (fun e2 w2 => ∃ most_5_n t17_n, e2 = emb6 most_5_n t15 t16 t17_n ∧ I most_5_n t17_n w2 ∧ μ most_5_n t17_n w2 < μ most_5 t17 w') Q) :
    L6 std most_5 t15 t16 t17 w Q := by
  unfold L6
  refine LoopE.intro (σ := Int × Int) (step := S6 std Q) (fun s => emb6 s.1 t15 t16 s.2) (fun s w => I s.1 s.2 w) (fun s w => μ s.1 s.2 w) (most_5, t17) rfl h0 ?_
  intro s w' hI
  have h1 := h s.1 s.2 w' hI
  unfold B6 at h1
  simp only [Prod.exists]
  exact h1
theorem A6_0_eq (pr : Prims) (most_5 : Int) (w : World) (R : Ending → World → Prop) : (q4 pr R) (.exit 0) (x0 most_5) w = (
  R (.returned (vI most_5)) w) := by kernel_rfl
theorem A6_0_s (most_5 : Int) (w : World) (R : Ending → World → Prop) : (q4 std R) (.exit 0) (x0 most_5) w = (
  R (.returned (vI most_5)) w) := A6_0_eq std most_5 w R
theorem E_eq (pr : Prims) (text_0 : ByteArray) (w : World) (R : Ending → World → Prop) : E pr text_0 w R = (
  pr.call2 .sl .bool PP F.impl_heights #[.string text_0] w fun (ρ0 : Sl) (ρ1 : Bool) ω2 =>
  bif !ρ1 then (
  R (.returned (vI (-1))) ω2)
  else (
  L6 pr 0 ρ0 (ρ0.n : Int) 0 ω2 (q4 pr R))) := by kernel_rfl
theorem E_s (text_0 : ByteArray) (w : World) (R : Ending → World → Prop) : E std text_0 w R = (
  call2 .sl .bool PP F.impl_heights #[.string text_0] w fun (ρ0 : Sl) (ρ1 : Bool) ω2 =>
  bif !ρ1 then (
  R (.returned (vI (-1))) ω2)
  else (
  L6 std 0 ρ0 (ρ0.n : Int) 0 ω2 (q4 std R))) := E_eq std text_0 w R
theorem drawsOk : drawsOk PP cfg okD (codeOf Tryz.f22) = true := by kernel_rfl
theorem calls (text_0 : ByteArray) {w : World} {R : Ending → World → Prop} (h : E std text_0 w R) : Calls PP F.impl_PathHeight #[.string text_0] w R :=
  calls_of noCount mixed drawOk Tryz.func22 rfl (c := cfg) (args := [.string text_0]) rfl (Nat.le_of_ble_eq_true (by kernel_rfl)) drawsOk h
end impl_PathHeight

namespace spec_PathHeight
@[reducible] def cfg : Cfg := ⟨24, [(6, [3, 4, 5])], [(1, [3, 4, 5]), (0, [3])], [], [2], [], [13, 32, 63, 81], [41, 4, 46, 44, 48]⟩
def q4 (pr : Prims) (R : Ending → World → Prop) : Exit → Env → World → Prop := fun ex e w => normQ ex (fun e w => contE pr cfg (sub (codeOf Tryz.f23) [1, 1, 1, 1, 1]) (fun e w => wpC pr PP cfg (DD pr) (sub (codeOf Tryz.f23) [1, 1, 1, 1, 1]) (retQ Tryz.f23.results.toList R) e w) e w) (retQ Tryz.f23.results.toList R) e w
def q5 (pr : Prims) (R : Ending → World → Prop) : Exit → Env → World → Prop := fun ex e w => blockQ ex 0 (q4 pr R) e w
def emb6 (best_3 : Int) (list_4 : Sl) (k_5 : Int) : Env := [(3, vI best_3), (4, Sl.v list_4), (5, vI k_5)]
def x0 (best_3 : Int) : Env := [(3, vI best_3)]
def S6 (pr : Prims) (Q : Exit → Env → World → Prop) : (Env → World → Prop) → Env → World → Prop := fun k e w => wpC pr PP cfg (DD pr) (sub (codeOf Tryz.f23) [1, 1, 1, 1, 0, 1, 0, 0]) (fun ex e w => normQ ex (fun e' w' => k (Env.restr e' (lookN cfg.loops (keyOf (sub (codeOf Tryz.f23) [1, 1, 1, 1, 0, 1, 0, 0])))) w') Q e w) e w
def B6 (pr : Prims) (best_3 : Int) (list_4 : Sl) (k_5 : Int) (w : World) (k : Env → World → Prop) (Q : Exit → Env → World → Prop) : Prop :=
  S6 pr Q k (emb6 best_3 list_4 k_5) w
def L6 (pr : Prims) (best_3 : Int) (list_4 : Sl) (k_5 : Int) (w : World) (Q : Exit → Env → World → Prop) : Prop :=
  pr.loop (S6 pr Q) (emb6 best_3 list_4 k_5) w
def E (pr : Prims) (text_0 : ByteArray) (w : World) (R : Ending → World → Prop) : Prop :=
  wpC pr PP cfg (DD pr) (codeOf Tryz.f23) (retQ Tryz.f23.results.toList R) (argE 0 [.string text_0]) w
theorem B6_eq (pr : Prims) (best_3 : Int) (list_4 : Sl) (k_5 : Int) (w : World) (k : Env → World → Prop) (Q : Exit → Env → World → Prop) : B6 pr best_3 list_4 k_5 w k Q = (
  bif decide (k_5 < (list_4.n : Int)) then (
  pr.idxK 1 list_4 k_5 fun (a6 : Addr) =>
  pr.load1 (.int .i64) a6 w fun (ξ7 : Int) =>
  pr.pcall1 (.int .i64) PP F.spec_l1Max #[vI best_3, vI ξ7] fun (ρ8 : Int) =>
  k (emb6 ρ8 list_4 (w64 (k_5 + 1))) w)
  else (
  Q (.exit 0) (x0 best_3) w)) := by kernel_rfl
theorem B6_s (best_3 : Int) (list_4 : Sl) (k_5 : Int) (w : World) (k : Env → World → Prop) (Q : Exit → Env → World → Prop) : B6 std best_3 list_4 k_5 w k Q = (
  bif decide (k_5 < (list_4.n : Int)) then (
  idxK 1 list_4 k_5 fun (a6 : Addr) =>
  load1 (.int .i64) a6 w fun (ξ7 : Int) =>
  pcall1 (.int .i64) PP F.spec_l1Max #[vI best_3, vI ξ7] fun (ρ8 : Int) =>
  k (emb6 ρ8 list_4 (w64 (k_5 + 1))) w)
  else (
  Q (.exit 0) (x0 best_3) w)) := B6_eq std best_3 list_4 k_5 w k Q
theorem L6_rule (best_3 : Int) (list_4 : Sl) (k_5 : Int) (w : World) (Q : Exit → Env → World → Prop) (I : Int → Int → World → Prop) (μ : Int → Int → World → Nat) (h0 : I best_3 k_5 w)
    (h : ∀ (best_3 : Int) (k_5 : Int) (w' : World), I best_3 k_5 w' → B6 std best_3 list_4 k_5 w' (fun e2 w2 => ∃ best_3_n k_5_n, e2 = emb6 best_3_n list_4 k_5_n ∧ I best_3_n k_5_n w2 ∧ μ best_3_n k_5_n w2 < μ best_3 k_5 w') Q) :
    L6 std best_3 list_4 k_5 w Q := by
  unfold L6
  refine LoopE.intro (σ := Int × Int) (step := S6 std Q) (fun s => emb6 s.1 list_4 s.2) (fun s w => I s.1 s.2 w) (fun s w => μ s.1 s.2 w) (best_3, k_5) rfl h0 ?_
  intro s w' hI
  have h1 := h s.1 s.2 w' hI
  unfold B6 at h1
  simp only [Prod.exists]
  exact h1
theorem A6_0_eq (pr : Prims) (best_3 : Int) (w : World) (R : Ending → World → Prop) : (q5 pr R) (.exit 0) (x0 best_3) w = (
  R (.returned (vI best_3)) w) := by kernel_rfl
theorem A6_0_s (best_3 : Int) (w : World) (R : Ending → World → Prop) : (q5 std R) (.exit 0) (x0 best_3) w = (
  R (.returned (vI best_3)) w) := A6_0_eq std best_3 w R
theorem E_eq (pr : Prims) (text_0 : ByteArray) (w : World) (R : Ending → World → Prop) : E pr text_0 w R = (
  pr.call1 .bool PP F.spec_IsPath #[.string text_0] w fun (ρ0 : Bool) ω1 =>
  bif !ρ0 then (
  R (.returned (vI (-1))) ω1)
  else (
  pr.call1 .sl PP F.spec_l18Heights #[.string text_0] ω1 fun (ρ2 : Sl) ω3 =>
  L6 pr 0 ρ2 0 ω3 (q5 pr R))) := by kernel_rfl
theorem E_s (text_0 : ByteArray) (w : World) (R : Ending → World → Prop) : E std text_0 w R = (
  call1 .bool PP F.spec_IsPath #[.string text_0] w fun (ρ0 : Bool) ω1 =>
  bif !ρ0 then (
  R (.returned (vI (-1))) ω1)
  else (
  call1 .sl PP F.spec_l18Heights #[.string text_0] ω1 fun (ρ2 : Sl) ω3 =>
  L6 std 0 ρ2 0 ω3 (q5 std R))) := E_eq std text_0 w R
theorem drawsOk : drawsOk PP cfg okD (codeOf Tryz.f23) = true := by kernel_rfl
theorem calls (text_0 : ByteArray) {w : World} {R : Ending → World → Prop} (h : E std text_0 w R) : Calls PP F.spec_PathHeight #[.string text_0] w R :=
  calls_of noCount mixed drawOk Tryz.func23 rfl (c := cfg) (args := [.string text_0]) rfl (Nat.le_of_ble_eq_true (by kernel_rfl)) drawsOk h
end spec_PathHeight

namespace spec_l18Heights
@[reducible] def cfg : Cfg := ⟨27, [(4, [0, 3, 4, 5])], [(1, [0, 3, 4, 5]), (0, [3])], [], [2], [], [13, 32, 63, 81], [41, 4, 46, 44, 48]⟩
def q2 (pr : Prims) (R : Ending → World → Prop) : Exit → Env → World → Prop := fun ex e w => normQ ex (fun e w => contE pr cfg (sub (codeOf Tryz.f47) [1, 1, 1, 1]) (fun e w => wpC pr PP cfg (DD pr) (sub (codeOf Tryz.f47) [1, 1, 1, 1]) (retQ Tryz.f47.results.toList R) e w) e w) (retQ Tryz.f47.results.toList R) e w
def q3 (pr : Prims) (R : Ending → World → Prop) : Exit → Env → World → Prop := fun ex e w => blockQ ex 0 (q2 pr R) e w
def emb4 (text_0 : ByteArray) (out_3 : Sl) (h_4 : Int) (k_5 : Int) : Env := [(0, .string text_0), (3, Sl.v out_3), (4, vI h_4), (5, vI k_5)]
def x0 (out_3 : Sl) : Env := [(3, Sl.v out_3)]
def S4 (pr : Prims) (Q : Exit → Env → World → Prop) : (Env → World → Prop) → Env → World → Prop := fun k e w => wpC pr PP cfg (DD pr) (sub (codeOf Tryz.f47) [1, 1, 1, 0, 1, 0, 0]) (fun ex e w => normQ ex (fun e' w' => k (Env.restr e' (lookN cfg.loops (keyOf (sub (codeOf Tryz.f47) [1, 1, 1, 0, 1, 0, 0])))) w') Q e w) e w
def B4 (pr : Prims) (text_0 : ByteArray) (out_3 : Sl) (h_4 : Int) (k_5 : Int) (w : World) (k : Env → World → Prop) (Q : Exit → Env → World → Prop) : Prop :=
  S4 pr Q k (emb4 text_0 out_3 h_4 k_5) w
def L4 (pr : Prims) (text_0 : ByteArray) (out_3 : Sl) (h_4 : Int) (k_5 : Int) (w : World) (Q : Exit → Env → World → Prop) : Prop :=
  pr.loop (S4 pr Q) (emb4 text_0 out_3 h_4 k_5) w
def E (pr : Prims) (text_0 : ByteArray) (w : World) (R : Ending → World → Prop) : Prop :=
  wpC pr PP cfg (DD pr) (codeOf Tryz.f47) (retQ Tryz.f47.results.toList R) (argE 0 [.string text_0]) w
theorem B4_eq (pr : Prims) (text_0 : ByteArray) (out_3 : Sl) (h_4 : Int) (k_5 : Int) (w : World) (k : Env → World → Prop) (Q : Exit → Env → World → Prop) : B4 pr text_0 out_3 h_4 k_5 w k Q = (
  bif decide (k_5 < (text_0.size : Int)) then (
  pr.strIdxK text_0 k_5 fun (b4 : Int) =>
  pr.pcall1 (.int .i64) PP F.spec_l1Bit #[.bool (b4 == 85)] fun (ρ5 : Int) =>
  pr.sem1 .sl PP (Instr.buildSlice T_Sint 1 #[(0, vI (w64 ((w64 (h_4 + (w64 (2 * ρ5)))) - 1)))]) w fun (ρ6 : Sl) ω7 =>
  pr.sem1 .sl PP (Builtin.append_ #[T_Sint, T_Sint] T_Sint #[Sl.v out_3, Sl.v ρ6]) ω7 fun (ρ8 : Sl) ω9 =>
  k (emb4 text_0 ρ8 (w64 ((w64 (h_4 + (w64 (2 * ρ5)))) - 1)) (w64 (k_5 + 1))) ω9)
  else (
  Q (.exit 0) (x0 out_3) w)) := by kernel_rfl
theorem B4_s (text_0 : ByteArray) (out_3 : Sl) (h_4 : Int) (k_5 : Int) (w : World) (k : Env → World → Prop) (Q : Exit → Env → World → Prop) : B4 std text_0 out_3 h_4 k_5 w k Q = (
  bif decide (k_5 < (text_0.size : Int)) then (
  strIdxK text_0 k_5 fun (b4 : Int) =>
  pcall1 (.int .i64) PP F.spec_l1Bit #[.bool (b4 == 85)] fun (ρ5 : Int) =>
  sem1 .sl PP (Instr.buildSlice T_Sint 1 #[(0, vI (w64 ((w64 (h_4 + (w64 (2 * ρ5)))) - 1)))]) w fun (ρ6 : Sl) ω7 =>
  sem1 .sl PP (Builtin.append_ #[T_Sint, T_Sint] T_Sint #[Sl.v out_3, Sl.v ρ6]) ω7 fun (ρ8 : Sl) ω9 =>
  k (emb4 text_0 ρ8 (w64 ((w64 (h_4 + (w64 (2 * ρ5)))) - 1)) (w64 (k_5 + 1))) ω9)
  else (
  Q (.exit 0) (x0 out_3) w)) := B4_eq std text_0 out_3 h_4 k_5 w k Q
theorem L4_rule (text_0 : ByteArray) (out_3 : Sl) (h_4 : Int) (k_5 : Int) (w : World) (Q : Exit → Env → World → Prop) (I : Sl → Int → Int → World → Prop) (μ : Sl → Int → Int → World → Nat) (h0 : I out_3 h_4 k_5 w)
    (h : ∀ (out_3 : Sl) (h_4 : Int) (k_5 : Int) (w' : World), I out_3 h_4 k_5 w' → B4 std text_0 out_3 h_4 k_5 w' (fun e2 w2 => ∃ out_3_n h_4_n k_5_n, e2 = emb4 text_0 out_3_n h_4_n k_5_n ∧ I out_3_n h_4_n k_5_n w2 ∧ μ out_3_n h_4_n k_5_n w2 < μ out_3 h_4 k_5 w') Q) :
    L4 std text_0 out_3 h_4 k_5 w Q := by
  unfold L4
  refine LoopE.intro (σ := Sl × Int × Int) (step := S4 std Q) (fun s => emb4 text_0 s.1 s.2.1 s.2.2) (fun s w => I s.1 s.2.1 s.2.2 w) (fun s w => μ s.1 s.2.1 s.2.2 w) (out_3, h_4, k_5) rfl h0 ?_
  intro s w' hI
  have h1 := h s.1 s.2.1 s.2.2 w' hI
  unfold B4 at h1
  simp only [Prod.exists]
  exact h1
theorem A4_0_eq (pr : Prims) (out_3 : Sl) (w : World) (R : Ending → World → Prop) : (q3 pr R) (.exit 0) (x0 out_3) w = (
  R (.returned (Sl.v out_3)) w) := by kernel_rfl
theorem A4_0_s (out_3 : Sl) (w : World) (R : Ending → World → Prop) : (q3 std R) (.exit 0) (x0 out_3) w = (
  R (.returned (Sl.v out_3)) w) := A4_0_eq std out_3 w R
theorem E_eq (pr : Prims) (text_0 : ByteArray) (w : World) (R : Ending → World → Prop) : E pr text_0 w R = (
  pr.sem1 .sl PP (Instr.buildSlice T_Sint 0 #[]) w fun (ρ0 : Sl) ω1 =>
  L4 pr text_0 ρ0 0 0 ω1 (q3 pr R)) := by kernel_rfl
theorem E_s (text_0 : ByteArray) (w : World) (R : Ending → World → Prop) : E std text_0 w R = (
  sem1 .sl PP (Instr.buildSlice T_Sint 0 #[]) w fun (ρ0 : Sl) ω1 =>
  L4 std text_0 ρ0 0 0 ω1 (q3 std R)) := E_eq std text_0 w R
theorem drawsOk : drawsOk PP cfg okD (codeOf Tryz.f47) = true := by kernel_rfl
theorem calls (text_0 : ByteArray) {w : World} {R : Ending → World → Prop} (h : E std text_0 w R) : Calls PP F.spec_l18Heights #[.string text_0] w R :=
  calls_of noCount mixed drawOk Tryz.func47 rfl (c := cfg) (args := [.string text_0]) rfl (Nat.le_of_ble_eq_true (by kernel_rfl)) drawsOk h
end spec_l18Heights

end Go.Proofs.YtlcemelmnkipmaaGreat

/- What each function does, step by step, written by a program (Gen.lean); each equation is checked by the kernel. -/
namespace Go.Proofs.YtlcemelmnkipmaaGreat
open Go
set_option linter.unusedVariables false
set_option maxRecDepth 100000
namespace spec_l20Up
@[reducible] def cfg : Cfg := ⟨44, [(8, [0, 3, 4, 5, 6, 7]), (4, [0, 3, 4, 5])], [(3, [0, 3, 4, 5, 6, 7]), (2, [0, 3, 4, 5, 6]), (1, [0, 3, 4, 5]), (0, [3])], [], [2], [10], [13, 32, 63, 81], [41, 4, 46, 44, 48]⟩
def q2 (pr : Prims) (R : Ending → World → Prop) : Exit → Env → World → Prop := fun ex e w => normQ ex (fun e w => contE pr cfg (sub (codeOf Tryz.f51) [1, 1, 1, 1]) (fun e w => wpC pr PP cfg (DD pr) (sub (codeOf Tryz.f51) [1, 1, 1, 1]) (retQ Tryz.f51.results.toList R) e w) e w) (retQ Tryz.f51.results.toList R) e w
def q3 (pr : Prims) (R : Ending → World → Prop) : Exit → Env → World → Prop := fun ex e w => blockQ ex 0 (q2 pr R) e w
def q4 (pr : Prims) (k : Env → World → Prop) (Q : Exit → Env → World → Prop) : Exit → Env → World → Prop := fun ex e w => normQ ex (fun e w => contE pr cfg (sub (codeOf Tryz.f51) [1, 1, 1, 0, 1, 0, 0, 1, 1]) (fun e w => wpC pr PP cfg (DD pr) (sub (codeOf Tryz.f51) [1, 1, 1, 0, 1, 0, 0, 1, 1]) (fun ex e w => normQ ex (fun e' w' => k (Env.restr e' (lookN cfg.loops (keyOf (sub (codeOf Tryz.f51) [1, 1, 1, 0, 1, 0, 0])))) w') Q e w) e w) e w) (fun ex e w => normQ ex (fun e' w' => k (Env.restr e' (lookN cfg.loops (keyOf (sub (codeOf Tryz.f51) [1, 1, 1, 0, 1, 0, 0])))) w') Q e w) e w
def q5 (pr : Prims) (k : Env → World → Prop) (Q : Exit → Env → World → Prop) : Exit → Env → World → Prop := fun ex e w => blockQ ex 1 (q4 pr k Q) e w
def q6 (pr : Prims) (k : Env → World → Prop) (Q : Exit → Env → World → Prop) : Exit → Env → World → Prop := fun ex e w => normQ ex (fun e w => contE pr cfg (sub (codeOf Tryz.f51) [1, 1, 1, 0, 1, 0, 0, 1, 0, 0, 1, 1]) (fun e w => wpC pr PP cfg (DD pr) (sub (codeOf Tryz.f51) [1, 1, 1, 0, 1, 0, 0, 1, 0, 0, 1, 1]) (q5 pr k Q) e w) e w) (q5 pr k Q) e w
def q7 (pr : Prims) (k : Env → World → Prop) (Q : Exit → Env → World → Prop) : Exit → Env → World → Prop := fun ex e w => blockQ ex 2 (q6 pr k Q) e w
def emb4 (p_0 : Sl) (best_3 : Int) (ends_4 : Sl) (k_5 : Int) : Env := [(0, Sl.v p_0), (3, vI best_3), (4, Sl.v ends_4), (5, vI k_5)]
def emb8 (p_0 : Sl) (best_3 : Int) (ends_4 : Sl) (k_5 : Int) (n_6 : Int) (i_7 : Int) : Env := [(0, Sl.v p_0), (3, vI best_3), (4, Sl.v ends_4), (5, vI k_5), (6, vI n_6), (7, vI i_7)]
def x2 (p_0 : Sl) (best_3 : Int) (ends_4 : Sl) (k_5 : Int) (n_6 : Int) : Env := [(0, Sl.v p_0), (3, vI best_3), (4, Sl.v ends_4), (5, vI k_5), (6, vI n_6)]
def x0 (best_3 : Int) : Env := [(3, vI best_3)]
def S8 (pr : Prims) (Q : Exit → Env → World → Prop) : (Env → World → Prop) → Env → World → Prop := fun k e w => wpC pr PP cfg (DD pr) (sub (codeOf Tryz.f51) [1, 1, 1, 0, 1, 0, 0, 1, 0, 0, 1, 0, 1, 0, 0]) (fun ex e w => normQ ex (fun e' w' => k (Env.restr e' (lookN cfg.loops (keyOf (sub (codeOf Tryz.f51) [1, 1, 1, 0, 1, 0, 0, 1, 0, 0, 1, 0, 1, 0, 0])))) w') Q e w) e w
def S4 (pr : Prims) (Q : Exit → Env → World → Prop) : (Env → World → Prop) → Env → World → Prop := fun k e w => wpC pr PP cfg (DD pr) (sub (codeOf Tryz.f51) [1, 1, 1, 0, 1, 0, 0]) (fun ex e w => normQ ex (fun e' w' => k (Env.restr e' (lookN cfg.loops (keyOf (sub (codeOf Tryz.f51) [1, 1, 1, 0, 1, 0, 0])))) w') Q e w) e w
def B8 (pr : Prims) (p_0 : Sl) (best_3 : Int) (ends_4 : Sl) (k_5 : Int) (n_6 : Int) (i_7 : Int) (w : World) (k : Env → World → Prop) (Q : Exit → Env → World → Prop) : Prop :=
  S8 pr Q k (emb8 p_0 best_3 ends_4 k_5 n_6 i_7) w
def L8 (pr : Prims) (p_0 : Sl) (best_3 : Int) (ends_4 : Sl) (k_5 : Int) (n_6 : Int) (i_7 : Int) (w : World) (Q : Exit → Env → World → Prop) : Prop :=
  pr.loop (S8 pr Q) (emb8 p_0 best_3 ends_4 k_5 n_6 i_7) w
def B4 (pr : Prims) (p_0 : Sl) (best_3 : Int) (ends_4 : Sl) (k_5 : Int) (w : World) (k : Env → World → Prop) (Q : Exit → Env → World → Prop) : Prop :=
  S4 pr Q k (emb4 p_0 best_3 ends_4 k_5) w
def L4 (pr : Prims) (p_0 : Sl) (best_3 : Int) (ends_4 : Sl) (k_5 : Int) (w : World) (Q : Exit → Env → World → Prop) : Prop :=
  pr.loop (S4 pr Q) (emb4 p_0 best_3 ends_4 k_5) w
def E (pr : Prims) (p_0 : Sl) (w : World) (R : Ending → World → Prop) : Prop :=
  wpC pr PP cfg (DD pr) (codeOf Tryz.f51) (retQ Tryz.f51.results.toList R) (argE 0 [Sl.v p_0]) w
theorem B8_eq (pr : Prims) (p_0 : Sl) (best_3 : Int) (ends_4 : Sl) (k_5 : Int) (n_6 : Int) (i_7 : Int) (w : World) (k : Env → World → Prop) (Q : Exit → Env → World → Prop) : B8 pr p_0 best_3 ends_4 k_5 n_6 i_7 w k Q = (
  bif decide (i_7 < k_5) then (
  pr.idxK 1 p_0 i_7 fun (a8 : Addr) =>
  pr.load1 (.int .i64) a8 w fun (ξ9 : Int) =>
  pr.idxK 1 p_0 k_5 fun (a10 : Addr) =>
  pr.load1 (.int .i64) a10 w fun (ξ11 : Int) =>
  pr.drewAll w fun ω12 =>
  bif decide (ξ9 < ξ11) then (
  pr.idxK 1 ends_4 i_7 fun (a13 : Addr) =>
  pr.load1 (.int .i64) a13 ω12 fun (ξ14 : Int) =>
  pr.pcall1 (.int .i64) PP F.spec_l1Max #[vI n_6, vI (w64 (ξ14 + 1))] fun (ρ15 : Int) =>
  k (emb8 p_0 best_3 ends_4 k_5 ρ15 (w64 (i_7 + 1))) ω12)
  else (
  k (emb8 p_0 best_3 ends_4 k_5 n_6 (w64 (i_7 + 1))) ω12))
  else (
  Q (.exit 2) (x2 p_0 best_3 ends_4 k_5 n_6) w)) := by kernel_rfl
theorem B8_s (p_0 : Sl) (best_3 : Int) (ends_4 : Sl) (k_5 : Int) (n_6 : Int) (i_7 : Int) (w : World) (k : Env → World → Prop) (Q : Exit → Env → World → Prop) : B8 std p_0 best_3 ends_4 k_5 n_6 i_7 w k Q = (
  bif decide (i_7 < k_5) then (
  idxK 1 p_0 i_7 fun (a8 : Addr) =>
  load1 (.int .i64) a8 w fun (ξ9 : Int) =>
  idxK 1 p_0 k_5 fun (a10 : Addr) =>
  load1 (.int .i64) a10 w fun (ξ11 : Int) =>
  drewAll w fun ω12 =>
  bif decide (ξ9 < ξ11) then (
  idxK 1 ends_4 i_7 fun (a13 : Addr) =>
  load1 (.int .i64) a13 ω12 fun (ξ14 : Int) =>
  pcall1 (.int .i64) PP F.spec_l1Max #[vI n_6, vI (w64 (ξ14 + 1))] fun (ρ15 : Int) =>
  k (emb8 p_0 best_3 ends_4 k_5 ρ15 (w64 (i_7 + 1))) ω12)
  else (
  k (emb8 p_0 best_3 ends_4 k_5 n_6 (w64 (i_7 + 1))) ω12))
  else (
  Q (.exit 2) (x2 p_0 best_3 ends_4 k_5 n_6) w)) := B8_eq std p_0 best_3 ends_4 k_5 n_6 i_7 w k Q
theorem L8_rule (p_0 : Sl) (best_3 : Int) (ends_4 : Sl) (k_5 : Int) (n_6 : Int) (i_7 : Int) (w : World) (Q : Exit → Env → World → Prop) (I : Int → Int → World → Prop) (μ : Int → Int → World → Nat) (h0 : I n_6 i_7 w)
    (h : ∀ (n_6 : Int) (i_7 : Int) (w' : World), I n_6 i_7 w' → B8 std p_0 best_3 ends_4 k_5 n_6 i_7 w' (fun e2 w2 => ∃ n_6_n i_7_n, e2 = emb8 p_0 best_3 ends_4 k_5 n_6_n i_7_n ∧ I n_6_n i_7_n w2 ∧ μ n_6_n i_7_n w2 < μ n_6 i_7 w') Q) :
    L8 std p_0 best_3 ends_4 k_5 n_6 i_7 w Q := by
  unfold L8
  refine LoopE.intro (σ := Int × Int) (step := S8 std Q) (fun s => emb8 p_0 best_3 ends_4 k_5 s.1 s.2) (fun s w => I s.1 s.2 w) (fun s w => μ s.1 s.2 w) (n_6, i_7) rfl h0 ?_
  intro s w' hI
  have h1 := h s.1 s.2 w' hI
  unfold B8 at h1
  simp only [Prod.exists]
  exact h1
theorem A8_2_eq (pr : Prims) (p_0 : Sl) (best_3 : Int) (ends_4 : Sl) (k_5 : Int) (n_6 : Int) (w : World) (k : Env → World → Prop) (Q : Exit → Env → World → Prop) : (q7 pr k Q) (.exit 2) (x2 p_0 best_3 ends_4 k_5 n_6) w = (
  pr.sem1 .sl PP (Instr.buildSlice T_Sint 1 #[(0, vI n_6)]) w fun (ρ16 : Sl) ω17 =>
  pr.sem1 .sl PP (Builtin.append_ #[T_Sint, T_Sint] T_Sint #[Sl.v ends_4, Sl.v ρ16]) ω17 fun (ρ18 : Sl) ω19 =>
  pr.pcall1 (.int .i64) PP F.spec_l1Max #[vI best_3, vI n_6] fun (ρ20 : Int) =>
  k (emb4 p_0 ρ20 ρ18 (w64 (k_5 + 1))) ω19) := by kernel_rfl
theorem A8_2_s (p_0 : Sl) (best_3 : Int) (ends_4 : Sl) (k_5 : Int) (n_6 : Int) (w : World) (k : Env → World → Prop) (Q : Exit → Env → World → Prop) : (q7 std k Q) (.exit 2) (x2 p_0 best_3 ends_4 k_5 n_6) w = (
  sem1 .sl PP (Instr.buildSlice T_Sint 1 #[(0, vI n_6)]) w fun (ρ16 : Sl) ω17 =>
  sem1 .sl PP (Builtin.append_ #[T_Sint, T_Sint] T_Sint #[Sl.v ends_4, Sl.v ρ16]) ω17 fun (ρ18 : Sl) ω19 =>
  pcall1 (.int .i64) PP F.spec_l1Max #[vI best_3, vI n_6] fun (ρ20 : Int) =>
  k (emb4 p_0 ρ20 ρ18 (w64 (k_5 + 1))) ω19) := A8_2_eq std p_0 best_3 ends_4 k_5 n_6 w k Q
theorem B4_eq (pr : Prims) (p_0 : Sl) (best_3 : Int) (ends_4 : Sl) (k_5 : Int) (w : World) (k : Env → World → Prop) (Q : Exit → Env → World → Prop) : B4 pr p_0 best_3 ends_4 k_5 w k Q = (
  bif decide (k_5 < (p_0.n : Int)) then (
  L8 pr p_0 best_3 ends_4 k_5 1 0 w (q7 pr k Q))
  else (
  Q (.exit 0) (x0 best_3) w)) := by kernel_rfl
theorem B4_s (p_0 : Sl) (best_3 : Int) (ends_4 : Sl) (k_5 : Int) (w : World) (k : Env → World → Prop) (Q : Exit → Env → World → Prop) : B4 std p_0 best_3 ends_4 k_5 w k Q = (
  bif decide (k_5 < (p_0.n : Int)) then (
  L8 std p_0 best_3 ends_4 k_5 1 0 w (q7 std k Q))
  else (
  Q (.exit 0) (x0 best_3) w)) := B4_eq std p_0 best_3 ends_4 k_5 w k Q
theorem L4_rule (p_0 : Sl) (best_3 : Int) (ends_4 : Sl) (k_5 : Int) (w : World) (Q : Exit → Env → World → Prop) (I : Int → Sl → Int → World → Prop) (μ : Int → Sl → Int → World → Nat) (h0 : I best_3 ends_4 k_5 w)
    (h : ∀ (best_3 : Int) (ends_4 : Sl) (k_5 : Int) (w' : World), I best_3 ends_4 k_5 w' → B4 std p_0 best_3 ends_4 k_5 w' (fun e2 w2 => ∃ best_3_n ends_4_n k_5_n, e2 = emb4 p_0 best_3_n ends_4_n k_5_n ∧ I best_3_n ends_4_n k_5_n w2 ∧ μ best_3_n ends_4_n k_5_n w2 < μ best_3 ends_4 k_5 w') Q) :
    L4 std p_0 best_3 ends_4 k_5 w Q := by
  unfold L4
  refine LoopE.intro (σ := Int × Sl × Int) (step := S4 std Q) (fun s => emb4 p_0 s.1 s.2.1 s.2.2) (fun s w => I s.1 s.2.1 s.2.2 w) (fun s w => μ s.1 s.2.1 s.2.2 w) (best_3, ends_4, k_5) rfl h0 ?_
  intro s w' hI
  have h1 := h s.1 s.2.1 s.2.2 w' hI
  unfold B4 at h1
  simp only [Prod.exists]
  exact h1
theorem A4_0_eq (pr : Prims) (best_3 : Int) (w : World) (R : Ending → World → Prop) : (q3 pr R) (.exit 0) (x0 best_3) w = (
  R (.returned (vI best_3)) w) := by kernel_rfl
theorem A4_0_s (best_3 : Int) (w : World) (R : Ending → World → Prop) : (q3 std R) (.exit 0) (x0 best_3) w = (
  R (.returned (vI best_3)) w) := A4_0_eq std best_3 w R
theorem E_eq (pr : Prims) (p_0 : Sl) (w : World) (R : Ending → World → Prop) : E pr p_0 w R = (
  pr.sem1 .sl PP (Instr.buildSlice T_Sint 0 #[]) w fun (ρ0 : Sl) ω1 =>
  L4 pr p_0 0 ρ0 0 ω1 (q3 pr R)) := by kernel_rfl
theorem E_s (p_0 : Sl) (w : World) (R : Ending → World → Prop) : E std p_0 w R = (
  sem1 .sl PP (Instr.buildSlice T_Sint 0 #[]) w fun (ρ0 : Sl) ω1 =>
  L4 std p_0 0 ρ0 0 ω1 (q3 std R)) := E_eq std p_0 w R
theorem drawsOk : drawsOk PP cfg okD (codeOf Tryz.f51) = true := by kernel_rfl
theorem calls (p_0 : Sl) {w : World} {R : Ending → World → Prop} (h : E std p_0 w R) : Calls PP F.spec_l20Up #[Sl.v p_0] w R :=
  calls_of noCount mixed drawOk Tryz.func51 rfl (c := cfg) (args := [Sl.v p_0]) rfl (Nat.le_of_ble_eq_true (by kernel_rfl)) drawsOk h
end spec_l20Up

end Go.Proofs.YtlcemelmnkipmaaGreat

/- Plain law: ascending chains, told from their ends. -/
namespace Go.Proofs.YtlcemelmnkipmaaGreat
open Go Go.RowKit
set_option maxRecDepth 100000

/-- An ascending chain of m places that begins at i. -/
inductive Fr (L : List Int) : Nat → Nat → Prop
  | one {i : Nat} : i < L.length → Fr L i 1
  | cons {i k m : Nat} : i < k → k < L.length → L.getD i 0 < L.getD k 0 → Fr L k m → Fr L i (m + 1)
/-- An ascending chain of m places that ends at k. -/
inductive En (L : List Int) : Nat → Nat → Prop
  | one {k : Nat} : k < L.length → En L k 1
  | snoc {i k m : Nat} : i < k → k < L.length → L.getD i 0 < L.getD k 0 → En L i m → En L k (m + 1)
theorem Fr.pos {L i m} (h : Fr L i m) : 1 ≤ m := by cases h <;> omega
theorem En.pos {L i m} (h : En L i m) : 1 ≤ m := by cases h <;> omega
theorem Fr.lt {L i m} (h : Fr L i m) : i < L.length := by cases h <;> omega
theorem Fr.toEn {L : List Int} {i m : Nat} (h : Fr L i m) : ∀ p, En L i p → ∃ k, En L k (p + m - 1) := by
  induction h with
  | one hi => exact fun p hp => ⟨_, by simpa using hp⟩
  | @cons i k m hik hk hlt _ ih =>
    intro p hp
    obtain ⟨k', h⟩ := ih (p + 1) (.snoc hik hk hlt hp)
    exact ⟨k', by rw [show p + (m + 1) - 1 = p + 1 + m - 1 by omega]; exact h⟩
theorem En.toFr {L : List Int} {k m : Nat} (h : En L k m) : ∀ p, Fr L k p → ∃ i, Fr L i (p + m - 1) := by
  induction h with
  | one hi => exact fun p hp => ⟨_, by simpa using hp⟩
  | @snoc i k m hik hk hlt _ ih =>
    intro p hp
    obtain ⟨k', h⟩ := ih (p + 1) (.cons hik hk hlt hp)
    exact ⟨k', by rw [show p + (m + 1) - 1 = p + 1 + m - 1 by omega]; exact h⟩
theorem Fr.le {L i m} (h : Fr L i m) : i + m ≤ L.length := by
  induction h with
  | one h => omega
  | cons h1 _ _ _ ih => omega
theorem En.le {L i m} (h : En L i m) : m ≤ i + 1 := by
  induction h with
  | one h => omega
  | snoc h1 _ _ _ ih => omega

/-- A number is the greatest m with a property. -/
def Most (P : Nat → Prop) (x : Int) : Prop := ∃ m : Nat, x = m ∧ P m ∧ ∀ m', P m' → m' ≤ m

/-- The greatest of the first k numbers, 0 at least. -/
def mx (f : Nat → Int) : Nat → Int
  | 0 => 0
  | k + 1 => max (mx f k) (f k)
theorem mx_ge {f : Nat → Int} {n k : Nat} (h : k < n) : f k ≤ mx f n := by
  induction n with
  | zero => omega
  | succ n ih =>
    simp only [mx]
    by_cases hk : k < n
    · have := ih hk; omega
    · have : k = n := by omega
      subst this; omega
theorem mx_mem {f : Nat → Int} {n : Nat} : mx f n = 0 ∨ ∃ k, k < n ∧ mx f n = f k := by
  induction n with
  | zero => exact .inl rfl
  | succ n ih =>
    simp only [mx]
    rcases Int.le_total (mx f n) (f n) with h | h
    · exact .inr ⟨n, by omega, by omega⟩
    · rcases ih with ih | ⟨k, hk, he⟩
      · exact .inl (by omega)
      · exact .inr ⟨k, by omega, by omega⟩
theorem mx_nonneg {f : Nat → Int} {n : Nat} : 0 ≤ mx f n := by
  induction n with
  | zero => exact Int.le_refl _
  | succ n ih => simp only [mx]; omega
def enI (L : List Int) (f : Nat → Int) (k : Nat) : Nat → Int
  | 0 => 1
  | i + 1 => if L.getD i 0 < L.getD k 0 then max (enI L f k i) (w64 (f i + 1)) else enI L f k i
def enT (L : List Int) : Nat → Nat → Int
  | 0, _ => 0
  | k + 1, j => if j = k then enI L (enT L k) k k else enT L k j
theorem enI_spec {L : List Int} (hL : L.length < 2^38) {f : Nat → Int} {k : Nat} (hk : k < L.length) (hv : ∀ i, i < k → Most (En L i) (f i)) : ∀ c, c ≤ k →
    1 ≤ enI L f k c ∧ (enI L f k c = 1 ∨ ∃ i, i < c ∧ L.getD i 0 < L.getD k 0 ∧ enI L f k c = f i + 1) ∧ ∀ i, i < c → L.getD i 0 < L.getD k 0 → f i + 1 ≤ enI L f k c
  | 0, _ => ⟨by simp [enI], .inl rfl, fun i hi => by omega⟩
  | c + 1, hc => by
    obtain ⟨h1, h2, h3⟩ := enI_spec hL hk hv c (by omega)
    obtain ⟨m, hm, hf, _⟩ := hv c (by omega)
    have hle := hf.le
    have hw : w64 (f c + 1) = f c + 1 := w64_id (by omega) (by omega)
    rw [enI, hw]
    split
    · rename_i hlt
      refine ⟨by omega, ?_, fun i hi hl => ?_⟩
      · rcases Int.le_total (enI L f k c) (f c + 1) with h | h
        · exact .inr ⟨c, by omega, hlt, by omega⟩
        · rcases h2 with h2 | ⟨i, a, b, d⟩
          · exact .inl (by omega)
          · exact .inr ⟨i, by omega, b, by omega⟩
      · by_cases hic : i < c
        · have := h3 i hic hl; omega
        · have : i = c := by omega
          subst this; omega
    · rename_i hlt
      refine ⟨h1, h2.imp id (fun ⟨i, a, b, d⟩ => ⟨i, by omega, b, d⟩), fun i hi hl => ?_⟩
      by_cases hic : i < c
      · exact h3 i hic hl
      · have : i = c := by omega
        subst this; exact absurd hl hlt
theorem enT_spec {L : List Int} (hL : L.length < 2^38) : ∀ d, d ≤ L.length → ∀ j, j < d → Most (En L j) (enT L d j)
  | 0, _, j, h => by omega
  | d + 1, hd, j, hj => by
    rw [enT]
    split
    · rename_i he
      subst he
      obtain ⟨a1, a2, a3⟩ := enI_spec hL (k := j) (by omega) (f := enT L j) (fun i hi => enT_spec hL j (by omega) i hi) j (Nat.le_refl _)
      refine ⟨(enI L (enT L j) j j).toNat, by omega, ?_, fun m' hm' => ?_⟩
      · rcases a2 with a2 | ⟨i, b1, b2, b3⟩
        · rw [a2]; exact .one (by omega)
        · obtain ⟨m, hm, hf, _⟩ := enT_spec hL j (by omega) i b1
          rw [b3, show (enT L j i + 1).toNat = m + 1 by omega]
          exact .snoc b1 (by omega) b2 hf
      · cases hm' with
        | one _ => omega
        | snoc c1 c2 c3 c4 =>
          rename_i i m
          have := a3 i c1 c3
          obtain ⟨m2, hm2, _, hmax⟩ := enT_spec hL j (by omega) i c1
          have := hmax m c4
          omega
    · exact enT_spec hL d (by omega) j (by omega)
end Go.Proofs.YtlcemelmnkipmaaGreat

/- The length of a longest ascending part: the model text's. -/
namespace Go.Proofs.YtlcemelmnkipmaaGreat
open Go Go.RowKit
set_option maxRecDepth 100000

theorem c_l1Max (a b : Int) : Pure F.spec_l1Max #[vI a, vI b] (vI (max a b)) := by
  intro w
  refine spec_l1Max.calls a b ?_
  rw [spec_l1Max.E_s]
  refine bif_dec (fun h => ?_) (fun h => ?_)
  · exact ⟨by rw [Int.max_eq_left (by omega)], rfl⟩
  · exact ⟨by rw [Int.max_eq_right (by omega)], rfl⟩

/-- The length of a longest ascending pattern. -/
def luV (L : List Int) : Int := mx (enT L L.length) L.length
theorem PermOk.ne {L : List Int} (h : PermOk L) : ∀ i j, i < j → j < L.length → L.getD i 0 ≠ L.getD j 0 := fun i j hij hj => (h j hj).2.2 i hij

theorem mx_congr {f g : Nat → Int} {n : Nat} (h : ∀ j, j < n → f j = g j) : mx f n = mx g n := by
  induction n with
  | zero => rfl
  | succ n ih => simp only [mx]; rw [ih (fun j hj => h j (by omega)), h n (by omega)]

theorem enT_stable (L : List Int) : ∀ d j, j < d → ∀ e, d ≤ e → enT L e j = enT L d j := by
  intro d j hj e he
  induction e with
  | zero => omega
  | succ e ih =>
    by_cases h : d = e + 1
    · rw [h]
    · rw [enT, if_neg (by omega), ih (by omega)]


theorem c_l20Up {w : World} {a : Sl} {L : List Int} (ha : RowI w a L) (hL : L.length < 2^38) :
    Calls PP F.spec_l20Up #[a.v] w fun e w' => e = .returned (vI (luV L)) ∧ Below w.heap.size w w' := by
  have han : a.n = L.length := by have := ha.n; simpa using this
  refine spec_l20Up.calls a ?_
  rw [spec_l20Up.E_s]
  refine lit0 oneInt (B := w.heap.size) (Nat.le_refl _) ?_
  intro t0 w1 hown hg _
  refine spec_l20Up.L4_rule _ _ _ _ _ _ (I := fun be t k w' => 0 ≤ k ∧ k ≤ L.length ∧ be = mx (enT L L.length) k.toNat ∧ OwnI w' w.heap.size t (tab k.toNat (enT L k.toNat)) ∧ Below w.heap.size w w') (μ := fun _ _ k _ => (L.length - k).toNat)
    ⟨by omega, by omega, rfl, hown, below_of_grow hg⟩ ?_
  rintro be t k w' ⟨h0, hk, hbe, ht, hb⟩
  rw [spec_l20Up.B4_s]
  refine bif_dec (fun h3 => ?_) (fun h3 => ?_)
  · refine spec_l20Up.L8_rule _ _ _ _ _ _ _ _ (I := fun n i w2 => 0 ≤ i ∧ i ≤ k ∧ n = enI L (enT L k.toNat) k.toNat i.toNat ∧ Drew w' w2) (μ := fun _ i _ => (k - i).toNat) ⟨by omega, by omega, rfl, Drew.refl _⟩ ?_
    rintro n i w2 ⟨hi0, hi, hn, hd⟩
    have hb2 : Below w.heap.size w w2 := hb.trans (hd.below _)
    have ht2 : OwnI w2 w.heap.size t (tab k.toNat (enT L k.toNat)) := ht.heap hd.heap'
    rw [spec_l20Up.B8_s]
    refine bif_dec (fun h4 => ?_) (fun h4 => ?_)
    · refine RowI.get (ha.grow hb2) hi0 (by omega) ?_
      refine RowI.get (ha.grow hb2) h0 (by omega) ?_
      refine drew_intro fun w3 hd3 => ?_
      have es : (i + 1).toNat = i.toNat + 1 := by omega
      refine bif_dec (fun h5 => ?_) (fun h5 => ?_)
      · refine RowI.get (ht2.heap hd3.heap').row hi0 (by rw [tab_length]; omega) ?_
        rw [tab_getD _ (by omega)]
        refine Pure.pcall1 (s := .int .i64) (c_l1Max _ _) ?_
        refine ⟨_, i + 1, by rw [w64_succ hi0 (by omega)], ⟨by omega, by omega, ?_, hd.trans hd3⟩, by omega⟩
        rw [es, enI, if_pos h5, hn]
      · refine ⟨n, i + 1, by rw [w64_succ hi0 (by omega)], ⟨by omega, by omega, ?_, hd.trans hd3⟩, by omega⟩
        rw [es, enI, if_neg h5, hn]
    · rw [spec_l20Up.A8_2_s]
      have ei : i.toNat = k.toNat := by omega
      rw [ei] at hn
      refine append_int ht2 hb2.size (by rw [tab_length]; omega) ?_
      intro t' w3 ht3 hg3 _
      refine Pure.pcall1 (s := .int .i64) (c_l1Max _ _) ?_
      have es : (k + 1).toNat = k.toNat + 1 := by omega
      have e1 : enT L (k.toNat + 1) k.toNat = n := by rw [enT, if_pos rfl, hn]
      refine ⟨_, t', k + 1, by rw [w64_succ h0 (by omega)], ⟨by omega, by omega, ?_, ?_, hb2.grown hg3 hb2.size (fun g hg => (ht2.lt g hg).1)⟩, by omega⟩
      · rw [es, mx, ← hbe, enT_stable L (k.toNat + 1) k.toNat (by omega) L.length (by omega), e1]
      · rw [es, tab_succ, e1, tab_congr (g := enT L k.toNat) (fun j hj => enT_stable L k.toNat j hj (k.toNat + 1) (by omega))]
        exact ht3
  · rw [spec_l20Up.A4_0_s]
    have e : k.toNat = L.length := by omega
    rw [e] at hbe
    exact ⟨by rw [hbe, luV], hb⟩

end Go.Proofs.YtlcemelmnkipmaaGreat

/- CountReturns and PathHeight of a path's text: both texts. -/
namespace Go.Proofs.YtlcemelmnkipmaaGreat
open Go Go.RowKit
set_option maxRecDepth 100000

theorem c_specHeights (s : ByteArray) (hsz : s.size < 2 ^ 39) (w : World) :
    Calls PP F.spec_l18Heights #[.string s] w fun e w' => ∃ t : Sl, e = .returned t.v ∧ Below w.heap.size w w' ∧ RowI w' t (hsL s s.size) := by
  refine spec_l18Heights.calls s ?_
  rw [spec_l18Heights.E_s]
  refine lit0 oneInt (B := w.heap.size) (Nat.le_refl _) ?_
  intro t0 w1 hown hg hc
  refine spec_l18Heights.L4_rule _ _ _ _ _ _
    (I := fun t h k w' => 0 ≤ k ∧ k ≤ s.size ∧ h = hs s k.toNat ∧ OwnI w' w.heap.size t (hsL s k.toNat) ∧ Below w.heap.size w w')
    (μ := fun _ _ k _ => (s.size - k).toNat) ⟨by omega, by omega, rfl, hown, below_of_grow hg⟩ ?_
  rintro t h k w' ⟨h0, hk, hh, hown, hb⟩
  have hbd := hs_bound s k.toNat
  have hsucc : (k + 1).toNat = k.toNat + 1 := by omega
  have hm : w.heap.size ≤ w'.heap.size := hb.size
  rw [spec_l18Heights.B4_s]
  refine bif_dec (fun h3 => ?_) (fun h3 => ?_)
  · refine strIdx_intro h0 h3 ?_
    refine Pure.pcall1 (s := .int .i64) (c_l1Bit _) ?_
    have e1 : w64 (w64 (h + w64 (2 * (if (bt s k.toNat == 85) = true then 1 else 0))) - 1) = hs s (k.toNat + 1) := by
      have hb2 := hs_bound s (k.toNat + 1)
      rw [hh]
      simp only [hs] at hb2 ⊢
      by_cases h4 : bt s k.toNat = 85
      · simp only [h4, beq_self_eq_true, if_true] at hb2 ⊢
        rw [w64_id (n := 2 * 1) (by omega) (by omega), w64_id (n := hs s k.toNat + 2 * 1) (by omega) (by omega), w64_id (by omega) (by omega)]; omega
      · have h5 : (bt s k.toNat == 85) = false := by simpa using h4
        simp only [h5, if_neg h4] at hb2 ⊢
        simp only [Bool.false_eq_true, if_false]
        rw [w64_id (n := 2 * 0) (by omega) (by omega), w64_id (n := hs s k.toNat + 2 * 0) (by omega) (by omega), w64_id (by omega) (by omega)]; omega
    rw [e1]
    refine append_int hown hm (by simp [hsL_length]; omega) ?_
    intro t' w2 h7 h8 h9
    refine ⟨t', hs s (k.toNat + 1), k + 1, by rw [w64_succ h0 (by omega)], ⟨by omega, by omega, by rw [hsucc], ?_, ?_⟩, by omega⟩
    · simp only [hsucc, hsL_succ]; exact h7
    · exact hb.grown h8 hm (fun g hg => (hown.lt g hg).1)
  · rw [spec_l18Heights.A4_0_s]
    have : k.toNat = s.size := by omega
    rw [this] at hown
    exact ⟨t, rfl, hb, hown.row⟩

def cntZ (L : List Int) : Nat → Int
  | 0 => 0
  | k + 1 => w64 (cntZ L k + (if L.getD k 0 = 0 then 1 else 0))
theorem cntZ_bound (L : List Int) : ∀ k : Nat, k < 2 ^ 39 → 0 ≤ cntZ L k ∧ cntZ L k ≤ k
  | 0, _ => by simp [cntZ]
  | k + 1, h => by
    have := cntZ_bound L k (by omega)
    simp only [cntZ]
    split
    · rw [w64_id (by omega) (by omega)]; omega
    · rw [w64_id (by omega) (by omega)]; omega
def maxZ (L : List Int) : Nat → Int
  | 0 => 0
  | k + 1 => max (maxZ L k) (L.getD k 0)
open Classical in
noncomputable def retV (s : ByteArray) : Int := if OkPath s then cntZ (hsL s s.size) s.size else -1
open Classical in
noncomputable def phV (s : ByteArray) : Int := if OkPath s then maxZ (hsL s s.size) s.size else -1

theorem c_implCountReturns (s : ByteArray) (hsz : s.size < 2 ^ 39) (w : World) :
    Calls PP F.impl_CountReturns #[.string s] w fun e w' => e = .returned (vI (retV s)) ∧ Below w.heap.size w w' := by
  refine impl_CountReturns.calls s ?_
  rw [impl_CountReturns.E_s]
  refine (c_implHeights s hsz w).mono ?_
  rintro e w1 ⟨t, b, rfl, hb, hok, hrow⟩
  refine ⟨t, b, rfl, ?_⟩
  refine bif_intro (fun h => ?_) (fun h => ?_)
  · have : ¬ OkPath s := fun hh => by rw [hok.2 hh] at h; simp at h
    exact ⟨by rw [retV, if_neg this], hb⟩
  have hbt : b = true := by simpa using h
  have hok' := hok.1 hbt
  have hrow := hrow hbt
  have htn : t.n = s.size := by rw [hrow.n]; simp [hsL_length]
  refine impl_CountReturns.L6_rule _ _ _ _ _ _ (I := fun m k w' => w' = w1 ∧ 0 ≤ k ∧ k ≤ s.size ∧ m = cntZ (hsL s s.size) k.toNat) (μ := fun _ k _ => (s.size - k).toNat)
    ⟨rfl, by omega, by omega, rfl⟩ ?_
  rintro m k w' ⟨rfl, h0, hk, hm⟩
  have hsucc : (k + 1).toNat = k.toNat + 1 := by omega
  rw [impl_CountReturns.B6_s]
  refine bif_dec (fun h3 => ?_) (fun h3 => ?_)
  · refine hrow.get h0 (by rw [hsL_length]; omega) ?_
    have hbd := cntZ_bound (hsL s s.size) k.toNat (by omega)
    refine bif_intro (fun h4 => ?_) (fun h4 => ?_)
    · have h4 : (hsL s s.size).getD k.toNat 0 = 0 := by simpa using h4
      refine ⟨w64 (m + 1), k + 1, by rw [w64_succ h0 (by omega)], ⟨rfl, by omega, by omega, ?_⟩, by omega⟩
      rw [hsucc, cntZ, if_pos h4, hm]
    · have h4 : ¬ (hsL s s.size).getD k.toNat 0 = 0 := by simpa using h4
      refine ⟨m, k + 1, by rw [w64_succ h0 (by omega)], ⟨rfl, by omega, by omega, ?_⟩, by omega⟩
      rw [hsucc, cntZ, if_neg h4, hm, w64_id (by omega) (by omega)]; omega
  · rw [impl_CountReturns.A6_0_s]
    have : k.toNat = s.size := by omega
    rw [this] at hm
    exact ⟨by rw [retV, if_pos hok', hm], hb⟩

theorem c_specCountReturns (s : ByteArray) (hsz : s.size < 2 ^ 39) (w : World) :
    Calls PP F.spec_CountReturns #[.string s] w fun e w' => e = .returned (vI (retV s)) ∧ Below w.heap.size w w' := by
  refine spec_CountReturns.calls s ?_
  rw [spec_CountReturns.E_s]
  obtain ⟨b, hok, hp⟩ := c_specIsPath s hsz
  refine Pure.call1 (s := .bool) hp ?_
  refine bif_intro (fun h => ?_) (fun h => ?_)
  · have : ¬ OkPath s := fun hh => by rw [hok.2 hh] at h; simp at h
    exact ⟨by rw [retV, if_neg this], Below.refl _ _⟩
  have hok' := hok.1 (by simpa using h)
  refine (c_specHeights s hsz w).mono ?_
  rintro e w1 ⟨t, rfl, hb, hrow⟩
  refine ⟨t, rfl, ?_⟩
  have htn : t.n = s.size := by rw [hrow.n]; simp [hsL_length]
  refine spec_CountReturns.L6_rule _ _ _ _ _ (I := fun m k w' => w' = w1 ∧ 0 ≤ k ∧ k ≤ s.size ∧ m = cntZ (hsL s s.size) k.toNat) (μ := fun _ k _ => (s.size - k).toNat)
    ⟨rfl, by omega, by omega, rfl⟩ ?_
  rintro m k w' ⟨rfl, h0, hk, hm⟩
  have hsucc : (k + 1).toNat = k.toNat + 1 := by omega
  rw [spec_CountReturns.B6_s]
  refine bif_dec (fun h3 => ?_) (fun h3 => ?_)
  · refine hrow.get h0 (by rw [hsL_length]; omega) ?_
    refine Pure.pcall1 (s := .int .i64) (c_l1Bit _) ?_
    refine ⟨_, k + 1, by rw [w64_succ h0 (by omega)], ⟨rfl, by omega, by omega, ?_⟩, by omega⟩
    rw [hsucc, cntZ, hm]
    simp only [beq_iff_eq]
  · rw [spec_CountReturns.A6_0_s]
    have : k.toNat = s.size := by omega
    rw [this] at hm
    exact ⟨by rw [retV, if_pos hok', hm], hb⟩

theorem c_implPathHeight (s : ByteArray) (hsz : s.size < 2 ^ 39) (w : World) :
    Calls PP F.impl_PathHeight #[.string s] w fun e w' => e = .returned (vI (phV s)) ∧ Below w.heap.size w w' := by
  refine impl_PathHeight.calls s ?_
  rw [impl_PathHeight.E_s]
  refine (c_implHeights s hsz w).mono ?_
  rintro e w1 ⟨t, b, rfl, hb, hok, hrow⟩
  refine ⟨t, b, rfl, ?_⟩
  refine bif_intro (fun h => ?_) (fun h => ?_)
  · have : ¬ OkPath s := fun hh => by rw [hok.2 hh] at h; simp at h
    exact ⟨by rw [phV, if_neg this], hb⟩
  have hbt : b = true := by simpa using h
  have hok' := hok.1 hbt
  have hrow := hrow hbt
  have htn : t.n = s.size := by rw [hrow.n]; simp [hsL_length]
  refine impl_PathHeight.L6_rule _ _ _ _ _ _ (I := fun m k w' => w' = w1 ∧ 0 ≤ k ∧ k ≤ s.size ∧ m = maxZ (hsL s s.size) k.toNat) (μ := fun _ k _ => (s.size - k).toNat)
    ⟨rfl, by omega, by omega, rfl⟩ ?_
  rintro m k w' ⟨rfl, h0, hk, hm⟩
  have hsucc : (k + 1).toNat = k.toNat + 1 := by omega
  rw [impl_PathHeight.B6_s]
  refine bif_dec (fun h3 => ?_) (fun h3 => ?_)
  · refine hrow.get h0 (by rw [hsL_length]; omega) ?_
    refine ⟨_, k + 1, by rw [w64_succ h0 (by omega)], ⟨rfl, by omega, by omega, ?_⟩, by omega⟩
    rw [hsucc, maxZ, hm]
    simp only [Int.max_def]
    split <;> split <;> omega
  · rw [impl_PathHeight.A6_0_s]
    have : k.toNat = s.size := by omega
    rw [this] at hm
    exact ⟨by rw [phV, if_pos hok', hm], hb⟩

theorem c_specPathHeight (s : ByteArray) (hsz : s.size < 2 ^ 39) (w : World) :
    Calls PP F.spec_PathHeight #[.string s] w fun e w' => e = .returned (vI (phV s)) ∧ Below w.heap.size w w' := by
  refine spec_PathHeight.calls s ?_
  rw [spec_PathHeight.E_s]
  obtain ⟨b, hok, hp⟩ := c_specIsPath s hsz
  refine Pure.call1 (s := .bool) hp ?_
  refine bif_intro (fun h => ?_) (fun h => ?_)
  · have : ¬ OkPath s := fun hh => by rw [hok.2 hh] at h; simp at h
    exact ⟨by rw [phV, if_neg this], Below.refl _ _⟩
  have hok' := hok.1 (by simpa using h)
  refine (c_specHeights s hsz w).mono ?_
  rintro e w1 ⟨t, rfl, hb, hrow⟩
  refine ⟨t, rfl, ?_⟩
  have htn : t.n = s.size := by rw [hrow.n]; simp [hsL_length]
  refine spec_PathHeight.L6_rule _ _ _ _ _ (I := fun m k w' => w' = w1 ∧ 0 ≤ k ∧ k ≤ s.size ∧ m = maxZ (hsL s s.size) k.toNat) (μ := fun _ k _ => (s.size - k).toNat)
    ⟨rfl, by omega, by omega, rfl⟩ ?_
  rintro m k w' ⟨rfl, h0, hk, hm⟩
  have hsucc : (k + 1).toNat = k.toNat + 1 := by omega
  rw [spec_PathHeight.B6_s]
  refine bif_dec (fun h3 => ?_) (fun h3 => ?_)
  · refine hrow.get h0 (by rw [hsL_length]; omega) ?_
    refine Pure.pcall1 (s := .int .i64) (c_l1Max _ _) ?_
    refine ⟨_, k + 1, by rw [w64_succ h0 (by omega)], ⟨rfl, by omega, by omega, ?_⟩, by omega⟩
    rw [hsucc, maxZ, hm]
  · rw [spec_PathHeight.A6_0_s]
    have : k.toNat = s.size := by omega
    rw [this] at hm
    exact ⟨by rw [phV, if_pos hok', hm], hb⟩

end Go.Proofs.YtlcemelmnkipmaaGreat

/- A pass through a stack, as lists: plain facts. -/
namespace Go.Proofs.YtlcemelmnkipmaaGreat
open Go
set_option maxRecDepth 100000

/-- The stack stands with its top first. -/
def popW (v : Int) : List Int → List Int → List Int × List Int
  | o, [] => (o, [])
  | o, x :: r => if x < v then popW v (o ++ [x]) r else (o, x :: r)
def stpW (s : List Int × List Int) (v : Int) : List Int × List Int := ((popW v s.1 s.2).1, v :: (popW v s.1 s.2).2)
def runW (L : List Int) : List Int × List Int := L.foldl stpW ([], [])
def passV (L : List Int) : List Int := (runW L).1 ++ (runW L).2
theorem runW_snoc (L : List Int) (v : Int) : runW (L ++ [v]) = stpW (runW L) v := by simp [runW, List.foldl_append]
theorem popW_perm (v : Int) : ∀ (r o : List Int), (popW v o r).1 ++ (popW v o r).2 = o ++ r
  | [], o => by simp [popW]
  | x :: r, o => by
    simp only [popW]
    split
    · rw [popW_perm v r (o ++ [x])]; simp
    · rfl
theorem passV_perm (L : List Int) : (passV L).Perm L := by
  suffices h : ∀ n, ∀ L : List Int, L.length = n → (passV L).Perm L from h _ L rfl
  intro n
  induction n with
  | zero => intro L hL; have : L = [] := List.eq_nil_of_length_eq_zero hL
            subst this; exact List.Perm.refl _
  | succ n ih =>
    intro L hL
    obtain ⟨M, v, rfl⟩ : ∃ M v, L = M ++ [v] := ⟨L.dropLast, L.getLast (by rintro rfl; simp at hL), (List.dropLast_concat_getLast _).symm⟩
    have h1 := ih M (by simpa using hL)
    unfold passV at h1 ⊢
    rw [runW_snoc]
    simp only [stpW]
    have h2 := popW_perm v (runW M).2 (runW M).1
    rw [← h2] at h1
    exact List.perm_middle.trans ((List.Perm.cons v h1).trans (List.perm_append_singleton v M).symm)
theorem passV_length (L : List Int) : (passV L).length = L.length := (passV_perm L).length_eq
theorem popW_all (v : Int) : ∀ (r o : List Int), (∀ x ∈ r, x < v) → popW v o r = (o ++ r, [])
  | [], o, _ => by simp [popW]
  | x :: r, o, h => by
    rw [popW, if_pos (h x (by simp)), popW_all v r _ (fun y hy => h y (by simp [hy]))]
    simp
/-- A number greater than all before it comes last. -/
theorem passV_great {M : List Int} {v : Int} (h : ∀ x ∈ M, x < v) : passV (M ++ [v]) = passV M ++ [v] := by
  have h1 : ∀ x ∈ (runW M).2, x < v := fun x hx => h x ((passV_perm M).mem_iff.1 (by unfold passV; simp [hx]))
  unfold passV
  rw [runW_snoc, stpW, popW_all v _ _ h1]
theorem passV_tail {A : List Int} : ∀ (n : Nat) (T : List Int), T.length = n → (∀ x ∈ A, ∀ y ∈ T, x < y) → T.Pairwise (· < ·) → passV (A ++ T) = passV A ++ T := by
  intro n
  induction n with
  | zero => intro T hT _ _; have : T = [] := List.eq_nil_of_length_eq_zero hT
            subst this; simp
  | succ n ih =>
    intro T hT h1 h2
    obtain ⟨M, v, rfl⟩ : ∃ M v, T = M ++ [v] := ⟨T.dropLast, T.getLast (by rintro rfl; simp at hT), (List.dropLast_concat_getLast _).symm⟩
    rw [List.pairwise_append] at h2
    rw [← List.append_assoc, passV_great, ih M (by simpa using hT) (fun x hx y hy => h1 x hx y (by simp [hy])) h2.1, List.append_assoc]
    intro x hx
    rcases List.mem_append.1 hx with h3 | h3
    · exact h1 x h3 v (by simp)
    · exact h2.2.2 x h3 v (by simp)
/-- What stands at the bottom of the stack stays there while only lesser numbers come. -/
theorem popW_keep (v m : Int) (hv : ¬ m < v) : ∀ (r o : List Int), ∃ r', (popW v o (r ++ [m])).2 = r' ++ [m]
  | [], o => ⟨[], by simp [popW, hv]⟩
  | x :: r, o => by
    simp only [List.cons_append, popW]
    split
    · exact popW_keep v m hv r _
    · exact ⟨x :: r, rfl⟩
theorem fold_keep (m : Int) : ∀ (C : List Int), (∀ x ∈ C, ¬ m < x) → ∀ o r, ∃ r', (C.foldl stpW (o, r ++ [m])).2 = r' ++ [m]
  | [], _, o, r => ⟨r, rfl⟩
  | v :: C, h, o, r => by
    obtain ⟨r', hr⟩ := popW_keep v m (h v (by simp)) r o
    rw [List.foldl_cons]
    have e : stpW (o, r ++ [m]) v = ((popW v o (r ++ [m])).1, (v :: r') ++ [m]) := by simp [stpW, hr]
    rw [e]
    exact fold_keep m C (fun x hx => h x (by simp [hx])) _ _
theorem passV_max {M : List Int} {m : Int} (hm : m ∈ M) (hn : M.Nodup) (h : ∀ x ∈ M, x ≤ m) : ∃ M', passV M = M' ++ [m] := by
  obtain ⟨A, C, rfl⟩ := List.append_of_mem hm
  have h1 : ∀ x ∈ A, x < m := fun x hx => by
    have h2 := h x (by simp [hx])
    have h3 : x ≠ m := by
      rintro rfl
      rw [List.nodup_iff_pairwise_ne, List.pairwise_append] at hn
      exact hn.2.2 x hx x (by simp) rfl
    omega
  have h4 : runW (A ++ m :: C) = C.foldl stpW (stpW (runW A) m) := by simp [runW, List.foldl_append]
  have h5 : ∀ x ∈ (runW A).2, x < m := fun x hx => h1 x ((passV_perm A).mem_iff.1 (by unfold passV; simp [hx]))
  have e : stpW (runW A) m = ((runW A).1 ++ (runW A).2, [] ++ [m]) := by rw [stpW, popW_all m _ _ h5]; rfl
  obtain ⟨r', hr⟩ := fold_keep m C (fun x hx => by have := h x (by simp [hx]); omega) ((runW A).1 ++ (runW A).2) []
  unfold passV
  rw [h4, e, hr]
  exact ⟨_, (List.append_assoc _ _ _).symm⟩

def itW : Nat → List Int → List Int
  | 0, L => L
  | k + 1, L => passV (itW k L)
theorem itW_perm (L : List Int) : ∀ k, (itW k L).Perm L
  | 0 => List.Perm.refl _
  | k + 1 => (passV_perm _).trans (itW_perm L k)
/-- k+1, .., n -/
def seg (k n : Nat) : List Int := (List.range (n - k)).map fun (i : Nat) => (k : Int) + i + 1
theorem mem_seg {k n : Nat} {x : Int} : x ∈ seg k n ↔ (k : Int) < x ∧ x ≤ n := by
  simp only [seg, List.mem_map, List.mem_range]
  constructor
  · rintro ⟨i, hi, rfl⟩; omega
  · rintro ⟨h1, h2⟩; exact ⟨(x - k - 1).toNat, by omega, by omega⟩
theorem seg_pairwise (k n : Nat) : (seg k n).Pairwise (· < ·) := by
  simp only [seg, List.pairwise_map]
  exact List.Pairwise.imp (fun h => by omega) List.pairwise_lt_range
theorem seg_pred {k n : Nat} (h : k < n) : seg k n = ((k : Int) + 1) :: seg (k + 1) n := by
  have : n - k = (n - (k + 1)) + 1 := by omega
  unfold seg
  rw [this, List.range_succ_eq_map, List.map_cons, List.map_map]
  simp only [List.cons.injEq]
  refine ⟨by omega, ?_⟩
  apply List.map_congr_left
  intro i _
  simp only [Function.comp_apply]
  omega
theorem it_shape {L : List Int} {n : Nat} (h : L.Perm (idn n)) : ∀ k, k ≤ n → ∃ M, itW k L = M ++ seg (n - k) n ∧ M.Perm (idn (n - k))
  | 0, _ => ⟨L, by simp [itW, seg], by simpa using h⟩
  | k + 1, hk => by
    obtain ⟨M, h1, h2⟩ := it_shape h k (by omega)
    have hmem : ∀ x, x ∈ M ↔ 1 ≤ x ∧ x ≤ ((n - k : Nat) : Int) := fun x => by rw [h2.mem_iff, mem_idn]
    obtain ⟨M', h3⟩ := passV_max (M := M) (m := ((n - k : Nat) : Int)) ((hmem _).2 (by omega)) (h2.nodup_iff.2 (idn_nodup _)) (fun x hx => ((hmem x).1 hx).2)
    refine ⟨M', ?_, ?_⟩
    · rw [itW, h1, passV_tail _ (seg (n - k) n) rfl (fun x hx y hy => by
        have := (hmem x).1 hx; rw [mem_seg] at hy; omega) (seg_pairwise _ _), h3, List.append_assoc]
      congr 1
      rw [show n - k = (n - (k + 1)) + 1 by omega]
      have := seg_pred (k := n - (k + 1)) (n := n) (by omega)
      rw [this]
      simp
    · have h4 : (M' ++ [((n - k : Nat) : Int)]).Perm (idn (n - k)) := by rw [← h3]; exact (passV_perm M).trans h2
      rw [show n - k = (n - (k + 1)) + 1 by omega, idn_succ] at h4
      have h5 := (List.perm_append_singleton _ _).symm.trans (h4.trans (List.perm_append_singleton _ _))
      rw [show (((n - (k + 1) + 1 : Nat)) : Int) = ((n - (k + 1) : Nat) : Int) + 1 by omega] at h5
      exact List.Perm.cons_inv h5
theorem it_last {L : List Int} (h : IsP L) : itW L.length L = idn L.length := by
  obtain ⟨M, h1, h2⟩ := it_shape h.perm L.length (Nat.le_refl _)
  have : M = [] := by have := h2.length_eq; rw [idn_length] at this; exact List.eq_nil_of_length_eq_zero (by omega)
  subst this
  rw [h1]
  simp [seg, idn]
/-- How often it has to be applied. -/
def Tm (L : List Int) (m : Nat) : Prop := Rising (itW m L) ∧ ∀ j, j < m → ¬ Rising (itW j L)
theorem Tm.unique {L : List Int} {m k : Nat} (h : Tm L m) (h' : Tm L k) : m = k := by
  rcases Nat.lt_trichotomy m k with h1 | h1 | h1
  · exact absurd h.1 (h'.2 m h1)
  · exact h1
  · exact absurd h'.1 (h.2 k h1)
open Classical in
noncomputable def tmV (L : List Int) : Nat := if h : ∃ m, Tm L m then h.choose else 0
theorem Tm.eq {L : List Int} {m : Nat} (h : Tm L m) : tmV L = m := by
  have he : ∃ m, Tm L m := ⟨m, h⟩
  unfold tmV
  rw [dif_pos he]
  exact he.choose_spec.unique h
theorem it_not {L : List Int} (h : IsP L) {k : Nat} (hk : ∀ j, j < k → ¬ Rising (itW j L)) : k ≤ L.length := by
  rcases Nat.lt_or_ge L.length k with h1 | h1
  · exact absurd (by rw [it_last h]; exact rising_idn _) (hk L.length h1)
  · exact h1
end Go.Proofs.YtlcemelmnkipmaaGreat

/- What a stack sorts: plain facts (who comes ahead of whom after a pass). -/
namespace Go.Proofs.YtlcemelmnkipmaaGreat
open Go
set_option maxRecDepth 100000

theorem sub_snoc {l L : List Int} {a v : Int} : (l ++ [a]).Sublist (L ++ [v]) ↔ (l ++ [a]).Sublist L ∨ (a = v ∧ l.Sublist L) := by
  rw [← List.reverse_sublist, List.reverse_append, List.reverse_append, List.reverse_singleton, List.reverse_singleton, List.singleton_append, List.singleton_append, List.sublist_cons_iff]
  constructor
  · rintro (h | ⟨r, h1, h2⟩)
    · left
      rw [← List.reverse_sublist, List.reverse_append]; simpa using h
    · simp at h1
      right
      exact ⟨h1.1, by rw [← h1.2] at h2; exact List.reverse_sublist.1 h2⟩
  · rintro (h | ⟨rfl, h⟩)
    · left
      have := List.reverse_sublist.2 h
      simpa using this
    · right
      exact ⟨l.reverse, rfl, List.reverse_sublist.2 h⟩
theorem sub2 {L : List Int} {a b v : Int} : [b, a].Sublist (L ++ [v]) ↔ [b, a].Sublist L ∨ (a = v ∧ b ∈ L) := by
  have := sub_snoc (l := [b]) (L := L) (a := a) (v := v)
  simpa using this
theorem sub3 {L : List Int} {a b c v : Int} : [b, c, a].Sublist (L ++ [v]) ↔ [b, c, a].Sublist L ∨ (a = v ∧ [b, c].Sublist L) := by
  have := sub_snoc (l := [b, c]) (L := L) (a := a) (v := v)
  simpa using this
/-- Two of a list that is put together: where they stand. -/
theorem sub_app {b a : Int} : ∀ {A B : List Int}, [b, a].Sublist (A ++ B) ↔ [b, a].Sublist A ∨ [b, a].Sublist B ∨ (b ∈ A ∧ a ∈ B)
  | [], B => by simp
  | x :: A, B => by
    rw [List.cons_append, List.sublist_cons_iff, List.sublist_cons_iff, sub_app]
    simp only [List.mem_cons]
    constructor
    · rintro ((h | h | h) | ⟨r, h1, h2⟩)
      · exact .inl (.inl h)
      · exact .inr (.inl h)
      · exact .inr (.inr ⟨.inr h.1, h.2⟩)
      · simp at h1
        obtain ⟨rfl, rfl⟩ := h1
        rw [List.singleton_sublist, List.mem_append] at h2
        rcases h2 with h2 | h2
        · exact .inl (.inr ⟨[a], rfl, List.singleton_sublist.2 h2⟩)
        · exact .inr (.inr ⟨.inl rfl, h2⟩)
    · rintro ((h | ⟨r, h1, h2⟩) | h | ⟨h | h, h2⟩)
      · exact .inl (.inl h)
      · exact .inr ⟨r, h1, h2.trans (List.sublist_append_left ..)⟩
      · exact .inl (.inr (.inl h))
      · subst h; exact .inr ⟨[a], rfl, List.singleton_sublist.2 (List.mem_append.2 (.inr h2))⟩
      · exact .inl (.inr (.inr ⟨h, h2⟩))
theorem popW_split (v : Int) : ∀ (r o : List Int), r.Pairwise (· < ·) → ∃ r1 r2, r = r1 ++ r2 ∧ popW v o r = (o ++ r1, r2) ∧ (∀ x ∈ r1, x < v) ∧ (∀ x ∈ r2, v ≤ x)
  | [], o, _ => ⟨[], [], rfl, by simp [popW], by simp, by simp⟩
  | x :: r, o, h => by
    obtain ⟨h1, h2⟩ := List.pairwise_cons.1 h
    by_cases hx : x < v
    · obtain ⟨r1, r2, e, h3, h4, h5⟩ := popW_split v r (o ++ [x]) h2
      refine ⟨x :: r1, r2, by rw [e]; rfl, by rw [popW, if_pos hx, h3]; simp, fun y hy => ?_, h5⟩
      rcases List.mem_cons.1 hy with rfl | hy
      · exact hx
      · exact h4 y hy
    · refine ⟨[], x :: r, rfl, by rw [popW, if_neg hx]; simp, by simp, fun y hy => ?_⟩
      rcases List.mem_cons.1 hy with rfl | hy
      · omega
      · have := h1 y hy; omega
/-- While a list goes through the stack. -/
structure Run (L O S : List Int) : Prop where
  inc : S.Pairwise (· < ·)
  mem : ∀ x, x ∈ O ++ S ↔ x ∈ L
  out : ∀ x, x ∈ O ↔ ∃ c, x < c ∧ [x, c].Sublist L
  ord : ∀ a b, a < b → ([b, a].Sublist (O ++ S) ↔ ∃ c, b < c ∧ [b, c, a].Sublist L)
theorem run_nil : Run [] [] [] := ⟨List.Pairwise.nil, by simp, by simp, by simp⟩
theorem run_snoc {L O S : List Int} {v : Int} (h : Run L O S) (hv : v ∉ L) (hn : (O ++ S).Nodup) : Run (L ++ [v]) (popW v O S).1 (v :: (popW v O S).2) := by
  obtain ⟨S1, S2, rfl, hp, h1, h2⟩ := popW_split v S O h.inc
  rw [hp]
  have hS2v : ∀ x ∈ S2, v < x := fun x hx => by
    have h3 := h2 x hx
    have : x ≠ v := fun e => hv (by rw [← e]; exact (h.mem x).1 (by simp [hx]))
    omega
  have hsame : ∀ a b, a ≠ v → b ≠ v → ([b, a].Sublist ((O ++ S1) ++ (v :: S2)) ↔ [b, a].Sublist (O ++ (S1 ++ S2))) := fun a b ha hb => by
    rw [← List.append_assoc, sub_app, sub_app (A := O ++ S1) (B := S2), List.sublist_cons_iff]
    constructor
    · rintro (h3 | (h3 | ⟨r, h3, _⟩) | ⟨h3, h4⟩)
      · exact .inl h3
      · exact .inr (.inl h3)
      · simp at h3; exact absurd h3.1 hb
      · rcases List.mem_cons.1 h4 with h4 | h4
        · exact absurd h4 ha
        · exact .inr (.inr ⟨h3, h4⟩)
    · rintro (h3 | h3 | ⟨h3, h4⟩)
      · exact .inl h3
      · exact .inr (.inl (.inl h3))
      · exact .inr (.inr ⟨h3, List.mem_cons.2 (.inr h4)⟩)
  refine ⟨List.pairwise_cons.2 ⟨hS2v, (List.pairwise_append.1 h.inc).2.1⟩, fun x => ?_, fun x => ?_, fun a b hab => ?_⟩
  · have := h.mem x
    simp only [List.mem_append, List.mem_cons, List.not_mem_nil, or_false] at this ⊢
    rw [← this]
    constructor
    · rintro ((h | h) | h | h) <;> simp [h]
    · rintro ((h | h | h) | h) <;> simp [h]
  · show x ∈ O ++ S1 ↔ _
    rw [List.mem_append]
    constructor
    · rintro (hx | hx)
      · obtain ⟨c, hc, hs⟩ := (h.out x).1 hx
        exact ⟨c, hc, hs.trans (List.sublist_append_left ..)⟩
      · exact ⟨v, h1 x hx, sub2.2 (.inr ⟨rfl, (h.mem x).1 (by simp [hx])⟩)⟩
    · rintro ⟨c, hc, hs⟩
      rcases sub2.1 hs with hs | ⟨rfl, hx⟩
      · exact .inl ((h.out x).2 ⟨c, hc, hs⟩)
      · have := (h.mem x).2 hx
        simp only [List.mem_append] at this
        rcases this with h3 | h3 | h3
        · exact .inl h3
        · exact .inr h3
        · have := h2 x h3; omega
  · show [b, a].Sublist ((O ++ S1) ++ (v :: S2)) ↔ _
    by_cases hbv : b = v
    · subst hbv
      constructor
      · intro hs
        rw [sub_app] at hs
        rcases hs with hs | hs | ⟨hs, _⟩
        · have hb : b ∈ O ++ S1 := hs.subset (by simp)
          exact absurd ((h.mem b).1 (by simp only [List.mem_append] at hb ⊢; rcases hb with hb | hb <;> simp [hb])) hv
        · have ha : a ∈ S2 := by
            rcases List.sublist_cons_iff.1 hs with h3 | ⟨r, h3, h4⟩
            · exact h3.subset (by simp)
            · simp at h3; rw [← h3] at h4; exact List.singleton_sublist.1 h4
          have := hS2v a ha; omega
        · exact absurd ((h.mem b).1 (by simp only [List.mem_append] at hs ⊢; rcases hs with hb | hb <;> simp [hb])) hv
      · rintro ⟨c, hc, hs⟩
        rcases sub3.1 hs with hs | ⟨_, hs⟩
        · exact absurd (hs.subset (by simp)) hv
        · exact absurd (hs.subset (by simp)) hv
    by_cases hav : a = v
    · subst hav
      constructor
      · intro hs
        rw [sub_app] at hs
        have hb : b ∈ O ++ S1 := by
          rcases hs with hs | hs | ⟨hs, _⟩
          · exact hs.subset (by simp)
          · rcases List.sublist_cons_iff.1 hs with h3 | ⟨r, h3, h4⟩
            · have : a ∈ S2 := h3.subset (by simp)
              exact absurd ((h.mem a).1 (by simp [this])) hv
            · simp at h3; exact absurd h3.1 hbv
          · exact hs
        rcases List.mem_append.1 hb with hb | hb
        · obtain ⟨c, hc, hs⟩ := (h.out b).1 hb
          exact ⟨c, hc, sub3.2 (.inr ⟨rfl, hs⟩)⟩
        · have := h1 b hb; omega
      · rintro ⟨c, hc, hs⟩
        rcases sub3.1 hs with hs | ⟨_, hs⟩
        · exact absurd (hs.subset (by simp)) hv
        · have := (h.out b).2 ⟨c, hc, hs⟩
          exact sub_app.2 (.inr (.inr ⟨by simp [this], by simp⟩))
    rw [hsame a b hav hbv, h.ord a b hab]
    constructor
    · rintro ⟨c, hc, hs⟩; exact ⟨c, hc, hs.trans (List.sublist_append_left ..)⟩
    · rintro ⟨c, hc, hs⟩
      rcases sub3.1 hs with hs | ⟨h3, _⟩
      · exact ⟨c, hc, hs⟩
      · exact absurd h3 hav
theorem run_all : ∀ (n : Nat) (L : List Int), L.length = n → L.Nodup → Run L (runW L).1 (runW L).2
  | 0, L, h, _ => by
    obtain rfl : L = [] := List.eq_nil_of_length_eq_zero h
    exact run_nil
  | n + 1, L, h, hn => by
    obtain ⟨M, v, rfl⟩ : ∃ M v, L = M ++ [v] := ⟨L.dropLast, L.getLast (by intro e; rw [e] at h; simp at h), (List.dropLast_concat_getLast _).symm⟩
    have hM : M.length = n := by simpa using h
    have hn2 := List.nodup_append.1 hn
    have hv : v ∉ M := fun hv => hn2.2.2 v hv v (by simp) rfl
    have := run_all n M hM hn2.1
    rw [runW_snoc]
    exact run_snoc this hv (by rw [show (runW M).1 ++ (runW M).2 = passV M from rfl]; exact (passV_perm M).nodup_iff.2 hn2.1)
/-- Who comes ahead of a smaller one after a pass. -/
theorem pass_ord {L : List Int} (hn : L.Nodup) {a b : Int} (hab : a < b) : [b, a].Sublist (passV L) ↔ ∃ c, b < c ∧ [b, c, a].Sublist L := (run_all _ L rfl hn).ord a b hab
theorem rising_pair {M : List Int} : Rising M ↔ M.Pairwise (· ≤ ·) := by
  constructor
  · intro h
    refine List.pairwise_iff_getElem.2 fun i j hi hj hij => ?_
    have := h.all j i (by omega) hj
    simpa [List.getD_eq_getElem?_getD, List.getElem?_eq_getElem hi, List.getElem?_eq_getElem hj] using this
  · intro h i hi
    have := List.pairwise_iff_getElem.1 h i (i + 1) (by omega) hi (by omega)
    simpa [List.getD_eq_getElem?_getD, List.getElem?_eq_getElem (show i < M.length by omega), List.getElem?_eq_getElem hi] using this
theorem rising_sub {M : List Int} : Rising M ↔ ∀ a b, a < b → ¬ [b, a].Sublist M := by
  rw [rising_pair, List.pairwise_iff_forall_sublist]
  constructor
  · intro h a b hab hs
    have := h hs; omega
  · intro h a b hs
    by_cases h1 : b < a
    · exact absurd hs (h b a h1)
    · omega
/-- A stack sorts what has no 231. -/
theorem sorted_iff {L : List Int} (hn : L.Nodup) : Rising (passV L) ↔ ¬ ∃ a b c, a < b ∧ b < c ∧ [b, c, a].Sublist L := by
  rw [rising_sub]
  constructor
  · rintro h ⟨a, b, c, hab, hbc, hs⟩
    exact h a b hab ((pass_ord hn hab).2 ⟨c, hbc, hs⟩)
  · intro h a b hab hs
    obtain ⟨c, hbc, hs⟩ := (pass_ord hn hab).1 hs
    exact h ⟨a, b, c, hab, hbc, hs⟩
/-! ### Sublists by places -/
theorem sub_nth2 {x y : Int} : ∀ {L : List Int}, [x, y].Sublist L ↔ ∃ i j : Nat, i < j ∧ L[i]? = some x ∧ L[j]? = some y
  | [] => by simp
  | w :: L => by
    rw [List.sublist_cons_iff, sub_nth2]
    constructor
    · rintro (⟨i, j, hij, h1, h2⟩ | ⟨r, h1, h2⟩)
      · exact ⟨i + 1, j + 1, by omega, by simpa using h1, by simpa using h2⟩
      · simp at h1
        obtain ⟨rfl, rfl⟩ := h1
        obtain ⟨j, hj, e⟩ := List.getElem_of_mem (List.singleton_sublist.1 h2)
        exact ⟨0, j + 1, by omega, rfl, by simp [List.getElem?_eq_getElem hj, e]⟩
    · rintro ⟨i, j, hij, h1, h2⟩
      obtain ⟨j, rfl⟩ : ∃ j', j = j' + 1 := ⟨j - 1, by omega⟩
      rw [List.getElem?_cons_succ] at h2
      cases i with
      | zero => simp at h1; subst h1; exact .inr ⟨[y], rfl, List.singleton_sublist.2 (List.mem_of_getElem? h2)⟩
      | succ i => rw [List.getElem?_cons_succ] at h1; exact .inl ⟨i, j, by omega, h1, h2⟩
theorem sub_nth3 {x y z : Int} : ∀ {L : List Int}, [x, y, z].Sublist L ↔ ∃ i j k : Nat, i < j ∧ j < k ∧ L[i]? = some x ∧ L[j]? = some y ∧ L[k]? = some z
  | [] => by simp
  | w :: L => by
    rw [List.sublist_cons_iff, sub_nth3]
    constructor
    · rintro (⟨i, j, k, hij, hjk, h1, h2, h3⟩ | ⟨r, h1, h2⟩)
      · exact ⟨i + 1, j + 1, k + 1, by omega, by omega, by simpa using h1, by simpa using h2, by simpa using h3⟩
      · simp at h1
        obtain ⟨rfl, rfl⟩ := h1
        obtain ⟨j, k, hjk, e1, e2⟩ := sub_nth2.1 h2
        exact ⟨0, j + 1, k + 1, by omega, by omega, rfl, by simpa using e1, by simpa using e2⟩
    · rintro ⟨i, j, k, hij, hjk, h1, h2, h3⟩
      obtain ⟨j, rfl⟩ : ∃ j', j = j' + 1 := ⟨j - 1, by omega⟩
      obtain ⟨k, rfl⟩ : ∃ k', k = k' + 1 := ⟨k - 1, by omega⟩
      rw [List.getElem?_cons_succ] at h2 h3
      cases i with
      | zero => simp at h1; subst h1; exact .inr ⟨[y, z], rfl, sub_nth2.2 ⟨j, k, by omega, h2, h3⟩⟩
      | succ i => rw [List.getElem?_cons_succ] at h1; exact .inl ⟨i, j, k, by omega, by omega, h1, h2, h3⟩
theorem nth_inj {L : List Int} (hn : L.Nodup) {i j : Nat} {x : Int} (h1 : L[i]? = some x) (h2 : L[j]? = some x) : i = j := by
  obtain ⟨hi, e1⟩ := List.getElem?_eq_some_iff.1 h1
  obtain ⟨hj, e2⟩ := List.getElem?_eq_some_iff.1 h2
  have hp := List.pairwise_iff_getElem.1 hn
  rcases Nat.lt_trichotomy i j with h | h | h
  · exact absurd (e1.trans e2.symm) (hp i j hi hj h)
  · exact h
  · exact absurd (e2.trans e1.symm) (hp j i hj hi h)
/-! ### Two passes -/
/-- 2341, or 3241 with nothing greater than the four between the three and the two. -/
def Bad2 (L : List Int) : Prop :=
  (∃ i j k l : Nat, i < j ∧ j < k ∧ k < l ∧ ∃ a b c d, a < b ∧ b < c ∧ c < d ∧ L[i]? = some b ∧ L[j]? = some c ∧ L[k]? = some d ∧ L[l]? = some a) ∨
  (∃ i j k l : Nat, i < j ∧ j < k ∧ k < l ∧ ∃ a b c d, a < b ∧ b < c ∧ c < d ∧ L[i]? = some c ∧ L[j]? = some b ∧ L[k]? = some d ∧ L[l]? = some a ∧ ∀ (m : Nat) x, i < m → m < j → L[m]? = some x → ¬ d < x)
theorem pass_nodup {L : List Int} (hn : L.Nodup) : (passV L).Nodup := (passV_perm L).nodup_iff.2 hn
/-- b ahead of a greater one after a pass. -/
theorem pass_keep {L : List Int} (hn : L.Nodup) {b c : Int} (hb : b ∈ L) (hc : c ∈ L) (hbc : b < c) : [b, c].Sublist (passV L) ↔ ¬ ∃ d, c < d ∧ [c, d, b].Sublist L := by
  rw [← pass_ord hn hbc]
  have hn2 := pass_nodup hn
  have hb2 := (passV_perm L).mem_iff.2 hb
  have hc2 := (passV_perm L).mem_iff.2 hc
  obtain ⟨i, hi, rfl⟩ := List.getElem_of_mem hb2
  obtain ⟨j, hj, rfl⟩ := List.getElem_of_mem hc2
  have hij : i ≠ j := fun e => by subst e; omega
  constructor
  · intro h1 h2
    obtain ⟨a1, a2, h3, h4, h5⟩ := sub_nth2.1 h1
    obtain ⟨b1, b2, h6, h7, h8⟩ := sub_nth2.1 h2
    have := nth_inj hn2 h4 h8
    have := nth_inj hn2 h5 h7
    omega
  · intro h
    rcases Nat.lt_or_gt_of_ne hij with h1 | h1
    · exact sub_nth2.2 ⟨i, j, h1, List.getElem?_eq_getElem hi, List.getElem?_eq_getElem hj⟩
    · exact absurd (sub_nth2.2 ⟨j, i, h1, List.getElem?_eq_getElem hj, List.getElem?_eq_getElem hi⟩) h
theorem twice_bad {L : List Int} (hn : L.Nodup) : ¬ Rising (passV (passV L)) ↔ ∃ a b c, a < b ∧ b < c ∧ [b, c, a].Sublist (passV L) := by
  rw [sorted_iff (pass_nodup hn), Classical.not_not]
/-- Three in a row, of a list without repetition. -/
theorem three {M : List Int} (hn : M.Nodup) {b c a : Int} : [b, c, a].Sublist M ↔ [b, c].Sublist M ∧ [c, a].Sublist M := by
  constructor
  · intro h
    obtain ⟨i, j, k, hij, hjk, h1, h2, h3⟩ := sub_nth3.1 h
    exact ⟨sub_nth2.2 ⟨i, j, hij, h1, h2⟩, sub_nth2.2 ⟨j, k, hjk, h2, h3⟩⟩
  · rintro ⟨h, h'⟩
    obtain ⟨i, j, hij, h1, h2⟩ := sub_nth2.1 h
    obtain ⟨j', k, hjk, h3, h4⟩ := sub_nth2.1 h'
    have := nth_inj hn h2 h3
    subst this
    exact sub_nth3.2 ⟨i, j, k, hij, hjk, h1, h2, h4⟩
/-- The greatest of some places. -/
theorem great_at {L : List Int} {i : Nat} : ∀ (n : Nat), i + n < L.length → ∃ (m : Nat) (c : Int), i ≤ m ∧ m ≤ i + n ∧ L[m]? = some c ∧ ∀ (k : Nat) (x : Int), i ≤ k → k ≤ i + n → L[k]? = some x → x ≤ c
  | 0, h => ⟨i, L[i]'(by omega), by omega, by omega, List.getElem?_eq_getElem (by omega), fun k x h1 h2 h3 => by
      have : k = i := by omega
      subst this
      rw [List.getElem?_eq_getElem (by omega)] at h3; cases h3; exact Int.le_refl _⟩
  | n + 1, h => by
    obtain ⟨m, c, h1, h2, h3, h4⟩ := great_at (L := L) (i := i) n (by omega)
    have hl : L[i + (n + 1)]? = some L[i + (n + 1)] := List.getElem?_eq_getElem h
    by_cases hc : c < L[i + (n + 1)]
    · refine ⟨i + (n + 1), _, by omega, by omega, hl, fun k x h5 h6 h7 => ?_⟩
      by_cases hk : k = i + (n + 1)
      · subst hk; rw [hl] at h7; cases h7; exact Int.le_refl _
      · have := h4 k x h5 (by omega) h7; omega
    · refine ⟨m, c, h1, by omega, h3, fun k x h5 h6 h7 => ?_⟩
      by_cases hk : k = i + (n + 1)
      · subst hk; rw [hl] at h7; cases h7; omega
      · exact h4 k x h5 (by omega) h7
theorem twice_iff {L : List Int} (hn : L.Nodup) : ¬ Rising (passV (passV L)) ↔ Bad2 L := by
  rw [twice_bad hn]
  have hn2 := pass_nodup hn
  constructor
  · rintro ⟨a, b, c, hab, hbc, hs⟩
    obtain ⟨h1, h2⟩ := (three hn2).1 hs
    have hb : b ∈ L := (passV_perm L).mem_iff.1 (h1.subset (by simp))
    have hc : c ∈ L := (passV_perm L).mem_iff.1 (h1.subset (by simp))
    have h3 := (pass_keep hn hb hc hbc).1 h1
    obtain ⟨d, hcd, hs1⟩ := (pass_ord hn (by omega)).1 h2
    have h4 : [b, a].Sublist (passV L) := by
      obtain ⟨i, j, k, hij, hjk, e1, e2, e3⟩ := sub_nth3.1 hs
      exact sub_nth2.2 ⟨i, k, by omega, e1, e3⟩
    obtain ⟨e, hbe, hs2⟩ := (pass_ord hn hab).1 h4
    obtain ⟨pc, pd, pa, q1, q2, e1, e2, e3⟩ := sub_nth3.1 hs1
    obtain ⟨pb, pe, pa', q3, q4, e4, e5, e6⟩ := sub_nth3.1 hs2
    have := nth_inj hn e3 e6
    subst this
    rcases Nat.lt_trichotomy pb pc with h5 | h5 | h5
    · exact .inl ⟨pb, pc, pd, pa, h5, q1, q2, a, b, c, d, hab, hbc, hcd, e4, e1, e2, e3⟩
    · subst h5; rw [e1] at e4; cases e4; omega
    · have hdb : pb < pd := by
        rcases Nat.lt_trichotomy pb pd with h6 | h6 | h6
        · exact h6
        · subst h6; rw [e2] at e4; cases e4; omega
        · exact absurd ⟨d, hcd, sub_nth3.2 ⟨pc, pd, pb, q1, h6, e1, e2, e4⟩⟩ h3
      refine .inr ⟨pc, pb, pd, pa, h5, hdb, q2, a, b, c, d, hab, hbc, hcd, e1, e4, e2, e3, fun m x h7 h8 h9 hdx => h3 ⟨x, by omega, sub_nth3.2 ⟨pc, m, pb, h7, h8, e1, h9, e4⟩⟩⟩
  · rintro (⟨i, j, k, l, hij, hjk, hkl, a, b, c, d, hab, hbc, hcd, e1, e2, e3, e4⟩ | ⟨i, j, k, l, hij, hjk, hkl, a, b, c, d, hab, hbc, hcd, e1, e2, e3, e4, hno⟩)
    · refine ⟨a, b, c, hab, hbc, (three hn2).2 ⟨(pass_keep hn (List.mem_of_getElem? e1) (List.mem_of_getElem? e2) hbc).2 ?_, (pass_ord hn (by omega)).2 ⟨d, hcd, sub_nth3.2 ⟨j, k, l, hjk, hkl, e2, e3, e4⟩⟩⟩⟩
      rintro ⟨d', _, hs⟩
      obtain ⟨p, q, r, h1, h2, f1, f2, f3⟩ := sub_nth3.1 hs
      have := nth_inj hn f1 e2
      have := nth_inj hn f3 e1
      omega
    · have hjl : j < L.length := (List.getElem?_eq_some_iff.1 e2).1
      obtain ⟨m, c', h1, h2, h3, h4⟩ := great_at (L := L) (i := i) (j - 1 - i) (by omega)
      have hcc : c ≤ c' := h4 i c (by omega) (by omega) e1
      have hc'd : c' < d := by
        by_cases hmi : m = i
        · subst hmi; rw [e1] at h3; cases h3; exact hcd
        · have h5 := hno m c' (by omega) (by omega) h3
          have : c' ≠ d := fun e => by
            subst e
            have := nth_inj hn h3 e3
            omega
          omega
      refine ⟨a, b, c', hab, by omega, (three hn2).2 ⟨(pass_keep hn (List.mem_of_getElem? e2) (List.mem_of_getElem? h3) (by omega)).2 ?_, (pass_ord hn (by omega)).2 ⟨d, hc'd, sub_nth3.2 ⟨m, k, l, by omega, hkl, h3, e3, e4⟩⟩⟩⟩
      rintro ⟨x, hx, hs⟩
      obtain ⟨p, q, r, h5, h6, f1, f2, f3⟩ := sub_nth3.1 hs
      have := nth_inj hn f1 h3
      have := nth_inj hn f3 e2
      have := h4 q x (by omega) (by omega) f2
      omega
/-- The times that a stack wants. -/
theorem it_enough {L : List Int} {n : Nat} (h : L.Perm (idn n)) (hn : 0 < n) : Rising (itW (n - 1) L) := by
  obtain ⟨M, h1, h2⟩ := it_shape h (n - 1) (by omega)
  rw [show n - (n - 1) = 1 by omega] at h1 h2
  have hM : M = [1] := by
    have : idn 1 = [1] := by decide
    rw [this] at h2
    exact List.perm_singleton.1 h2
  rw [h1, hM, rising_pair, List.singleton_append, List.pairwise_cons]
  refine ⟨fun x hx => by have := (mem_seg.1 hx).1; omega, (seg_pairwise 1 n).imp fun h => Int.le_of_lt h⟩
end Go.Proofs.YtlcemelmnkipmaaGreat

/- Patterns of three and four by their places: plain facts. -/
namespace Go.Proofs.YtlcemelmnkipmaaGreat
open Go
set_option maxRecDepth 100000

theorem fits_iff {P Q h : List Int} {x : Int} : fitsB P Q h x = true ↔ ∀ k, k < h.length → (P.getD (h.getD k 0 - 1).toNat 0 < P.getD (x - 1).toNat 0 ↔ Q.getD k 0 < Q.getD h.length 0) := by
  rw [fitsB_iff]
  constructor
  · intro h1 k hk
    have := h1 k hk
    rw [fitsAt, beq_iff_eq, decide_eq_decide] at this
    exact this
  · intro h1 k hk
    rw [fitsAt, beq_iff_eq, decide_eq_decide]
    exact h1 k hk
theorem has3 {P : List Int} {q1 q2 q3 : Int} : hasP P [q1, q2, q3] = true ↔ ∃ i j k : Nat, i < j ∧ j < k ∧ k < P.length ∧
    (P.getD i 0 < P.getD j 0 ↔ q1 < q2) ∧ (P.getD i 0 < P.getD k 0 ↔ q1 < q3) ∧ (P.getD j 0 < P.getD k 0 ↔ q2 < q3) := by
  unfold hasP
  rw [show [q1, q2, q3].length = 2 + 1 from rfl, hasB_succ]
  constructor
  · rintro ⟨x, h1, h2, _, h3⟩
    obtain ⟨y, h4, h5, h6, h7⟩ := hasB_succ.1 h3
    obtain ⟨z, h8, h9, h10, _⟩ := hasB_succ.1 h7
    rw [lastD_nil] at h1
    rw [List.nil_append] at h4 h6 h8 h10
    have e1 : lastD [x] = x := rfl
    have e2 : lastD ([x] ++ [y]) = y := lastD_snoc _ _
    rw [e1] at h4
    rw [e2] at h8
    have f1 := fits_iff.1 h6 0 (by simp)
    have f2 := fits_iff.1 h10 0 (by simp)
    have f3 := fits_iff.1 h10 1 (by simp)
    simp at f1 f2 f3
    refine ⟨(x - 1).toNat, (y - 1).toNat, (z - 1).toNat, by omega, by omega, by omega, ?_, ?_, ?_⟩
    · simpa using f1
    · simpa using f2
    · simpa using f3
  · rintro ⟨i, j, k, hij, hjk, hk, f1, f2, f3⟩
    refine ⟨i + 1, by rw [lastD_nil]; omega, by omega, fits_iff.2 (fun k hk => by simp at hk), hasB_succ.2 ⟨j + 1, ?_, by omega, fits_iff.2 fun k hk => ?_, hasB_succ.2 ⟨k + 1, ?_, by omega, fits_iff.2 fun m hm => ?_, hasB_zero ..⟩⟩⟩
    · rw [lastD_snoc]; omega
    · simp at hk
      subst hk
      simpa using f1
    · rw [lastD_snoc]; omega
    · simp at hm
      rcases (show m = 0 ∨ m = 1 by omega) with rfl | rfl
      · simpa using f2
      · simpa using f3
theorem has4 {P : List Int} {q1 q2 q3 q4 : Int} : hasP P [q1, q2, q3, q4] = true ↔ ∃ i j k l : Nat, i < j ∧ j < k ∧ k < l ∧ l < P.length ∧
    (P.getD i 0 < P.getD j 0 ↔ q1 < q2) ∧ (P.getD i 0 < P.getD k 0 ↔ q1 < q3) ∧ (P.getD j 0 < P.getD k 0 ↔ q2 < q3) ∧ (P.getD i 0 < P.getD l 0 ↔ q1 < q4) ∧ (P.getD j 0 < P.getD l 0 ↔ q2 < q4) ∧ (P.getD k 0 < P.getD l 0 ↔ q3 < q4) := by
  unfold hasP
  rw [show [q1, q2, q3, q4].length = 3 + 1 from rfl, hasB_succ]
  constructor
  · rintro ⟨x, h1, h2, _, h3⟩
    obtain ⟨y, h4, h5, h6, h7⟩ := hasB_succ.1 h3
    obtain ⟨z, h8, h9, h10, h11⟩ := hasB_succ.1 h7
    obtain ⟨u, h12, h13, h14, _⟩ := hasB_succ.1 h11
    rw [lastD_nil] at h1
    rw [List.nil_append] at h4 h6 h8 h10 h12 h14
    have e1 : lastD [x] = x := rfl
    have e2 : lastD ([x] ++ [y]) = y := lastD_snoc _ _
    have e3 : lastD ([x] ++ [y] ++ [z]) = z := lastD_snoc _ _
    rw [e1] at h4
    rw [e2] at h8
    rw [e3] at h12
    have f1 := fits_iff.1 h6 0 (by simp)
    have f2 := fits_iff.1 h10 0 (by simp)
    have f3 := fits_iff.1 h10 1 (by simp)
    have f4 := fits_iff.1 h14 0 (by simp)
    have f5 := fits_iff.1 h14 1 (by simp)
    have f6 := fits_iff.1 h14 2 (by simp)
    simp at f1 f2 f3 f4 f5 f6
    refine ⟨(x - 1).toNat, (y - 1).toNat, (z - 1).toNat, (u - 1).toNat, by omega, by omega, by omega, by omega, ?_, ?_, ?_, ?_, ?_, ?_⟩
    · simpa using f1
    · simpa using f2
    · simpa using f3
    · simpa using f4
    · simpa using f5
    · simpa using f6
  · rintro ⟨i, j, k, l, hij, hjk, hkl, hl, f1, f2, f3, f4, f5, f6⟩
    refine ⟨i + 1, by rw [lastD_nil]; omega, by omega, fits_iff.2 (fun k hk => by simp at hk), hasB_succ.2 ⟨j + 1, ?_, by omega, fits_iff.2 fun k hk => ?_, hasB_succ.2 ⟨k + 1, ?_, by omega, fits_iff.2 fun m hm => ?_, hasB_succ.2 ⟨l + 1, ?_, by omega, fits_iff.2 fun m hm => ?_, hasB_zero ..⟩⟩⟩⟩
    · rw [lastD_snoc]; omega
    · simp at hk
      subst hk
      simpa using f1
    · rw [lastD_snoc]; omega
    · simp at hm
      rcases (show m = 0 ∨ m = 1 by omega) with rfl | rfl
      · simpa using f2
      · simpa using f3
    · rw [lastD_snoc]; omega
    · simp at hm
      rcases (show m = 0 ∨ m = 1 ∨ m = 2 by omega) with rfl | rfl | rfl
      · simpa using f4
      · simpa using f5
      · simpa using f6
theorem nth_getD {P : List Int} {i : Nat} {x : Int} (h : P[i]? = some x) : i < P.length ∧ P.getD i 0 = x := by
  obtain ⟨hi, e⟩ := List.getElem?_eq_some_iff.1 h
  exact ⟨hi, by rw [getD_lt hi]; exact e⟩
theorem nth_of {P : List Int} {i : Nat} (h : i < P.length) : P[i]? = some (P.getD i 0) := by rw [getD_lt h]; exact List.getElem?_eq_getElem h
theorem getD_ne {P : List Int} (hn : P.Nodup) {i j : Nat} (hij : i < j) (hj : j < P.length) : P.getD i 0 ≠ P.getD j 0 := fun e => by
  have := nth_inj hn (nth_of (show i < P.length by omega)) (by rw [e]; exact nth_of hj)
  omega
/-- 231 by values. -/
theorem has231 {P : List Int} (hn : P.Nodup) : hasP P [2, 3, 1] = true ↔ ∃ a b c, a < b ∧ b < c ∧ [b, c, a].Sublist P := by
  rw [has3]
  constructor
  · rintro ⟨i, j, k, hij, hjk, hk, f1, f2, f3⟩
    have n2 := getD_ne hn (show i < k by omega) hk
    refine ⟨P.getD k 0, P.getD i 0, P.getD j 0, ?_, f1.2 (by decide), sub_nth3.2 ⟨i, j, k, hij, hjk, nth_of (by omega), nth_of (by omega), nth_of hk⟩⟩
    have : ¬ P.getD i 0 < P.getD k 0 := fun h => absurd (f2.1 h) (by decide)
    omega
  · rintro ⟨a, b, c, hab, hbc, hs⟩
    obtain ⟨i, j, k, hij, hjk, h1, h2, h3⟩ := sub_nth3.1 hs
    obtain ⟨l1, e1⟩ := nth_getD h1
    obtain ⟨l2, e2⟩ := nth_getD h2
    obtain ⟨l3, e3⟩ := nth_getD h3
    exact ⟨i, j, k, hij, hjk, l3, by omega, by omega, by omega⟩
theorem isP_len4 {P : List Int} (hn : P.Nodup) : (hasP P [2, 3, 4, 1] = true ∨ ∃ i j k l : Nat, i < j ∧ j < k ∧ k < l ∧ l < P.length ∧ P.getD l 0 < P.getD j 0 ∧ P.getD j 0 < P.getD i 0 ∧ P.getD i 0 < P.getD k 0 ∧ ∀ m, i < m → m < j → ¬ P.getD k 0 < P.getD m 0) ↔ Bad2 P := by
  constructor
  · rintro (h | ⟨i, j, k, l, hij, hjk, hkl, hl, h1, h2, h3, h4⟩)
    · obtain ⟨i, j, k, l, hij, hjk, hkl, hl, f1, f2, f3, f4, f5, f6⟩ := has4.1 h
      have n1 := getD_ne hn (show i < l by omega) hl
      exact .inl ⟨i, j, k, l, hij, hjk, hkl, P.getD l 0, P.getD i 0, P.getD j 0, P.getD k 0, by omega, by omega, by omega, nth_of (by omega), nth_of (by omega), nth_of (by omega), nth_of hl⟩
    · refine .inr ⟨i, j, k, l, hij, hjk, hkl, P.getD l 0, P.getD j 0, P.getD i 0, P.getD k 0, h1, h2, h3, nth_of (by omega), nth_of (by omega), nth_of (by omega), nth_of hl, fun m x hm1 hm2 hx => ?_⟩
      rw [← (nth_getD hx).2]
      exact h4 m hm1 hm2
  · rintro (⟨i, j, k, l, hij, hjk, hkl, a, b, c, d, hab, hbc, hcd, h1, h2, h3, h4⟩ | ⟨i, j, k, l, hij, hjk, hkl, a, b, c, d, hab, hbc, hcd, h1, h2, h3, h4, h5⟩)
    · obtain ⟨l1, e1⟩ := nth_getD h1
      obtain ⟨l2, e2⟩ := nth_getD h2
      obtain ⟨l3, e3⟩ := nth_getD h3
      obtain ⟨l4, e4⟩ := nth_getD h4
      exact .inl (has4.2 ⟨i, j, k, l, hij, hjk, hkl, l4, by omega, by omega, by omega, by omega, by omega, by omega⟩)
    · obtain ⟨l1, e1⟩ := nth_getD h1
      obtain ⟨l2, e2⟩ := nth_getD h2
      obtain ⟨l3, e3⟩ := nth_getD h3
      obtain ⟨l4, e4⟩ := nth_getD h4
      refine .inr ⟨i, j, k, l, hij, hjk, hkl, l4, by omega, by omega, by omega, fun m hm1 hm2 => ?_⟩
      rw [e3]
      exact h5 m _ hm1 hm2 (nth_of (by omega))
/-- Two passes sort (West): in the words of IsTwicePattern. -/
theorem twice_says {P : List Int} (hn : P.Nodup) : Rising (passV (passV P)) ↔ hasP P [2, 3, 4, 1] = false ∧
    ∀ a b c d : Int, 1 ≤ a → a < b → b < c → c < d → d ≤ P.length → P.getD (d - 1).toNat 0 < P.getD (b - 1).toNat 0 → P.getD (b - 1).toNat 0 < P.getD (a - 1).toNat 0 → P.getD (a - 1).toNat 0 < P.getD (c - 1).toNat 0 →
      ∃ e, a < e ∧ e < b ∧ P.getD (c - 1).toNat 0 < P.getD (e - 1).toNat 0 := by
  have h0 := twice_iff hn
  rw [← isP_len4 hn] at h0
  constructor
  · intro h
    have h1 := fun hh => (h0.2 hh) h
    refine ⟨?_, fun a b c d g1 g2 g3 g4 g5 g6 g7 g8 => ?_⟩
    · cases hc : hasP P [2, 3, 4, 1]
      · rfl
      · exact (h1 (.inl hc)).elim
    · refine Classical.byContradiction fun hno => h1 (.inr ⟨(a - 1).toNat, (b - 1).toNat, (c - 1).toNat, (d - 1).toNat, by omega, by omega, by omega, by omega, g6, g7, g8, fun m hm1 hm2 hlt => hno ⟨(m : Int) + 1, by omega, by omega, ?_⟩⟩)
      rw [show ((m : Int) + 1 - 1).toNat = m by omega]; exact hlt
  · rintro ⟨h1, h2⟩
    refine Classical.byContradiction fun hno => ?_
    rcases h0.1 hno with h3 | ⟨i, j, k, l, hij, hjk, hkl, hl, g1, g2, g3, g4⟩
    · rw [h1] at h3; cases h3
    · have e : ∀ x : Nat, ((x : Int) + 1 - 1).toNat = x := fun x => by omega
      obtain ⟨m, hm1, hm2, hm3⟩ := h2 (i + 1) (j + 1) (k + 1) (l + 1) (by omega) (by omega) (by omega) (by omega) (by omega) (by rw [e, e]; exact g1) (by rw [e, e]; exact g2) (by rw [e, e]; exact g3)
      rw [e] at hm3
      exact g4 (m - 1).toNat (by omega) (by omega) hm3
end Go.Proofs.YtlcemelmnkipmaaGreat

/- All permutations without 132, one by one: plain facts. -/
namespace Go.Proofs.YtlcemelmnkipmaaGreat
open Go
set_option maxRecDepth 100000

def no13 (x : Int) : List Int → Bool
  | [] => true
  | z :: r => (if x < z then r.all (fun y => !(decide (x < y) && decide (y < z))) else true) && no13 x r
def avB : List Int → Bool
  | [] => true
  | x :: r => no13 x r && avB r
def insA (n : Int) : List Int → List (List Int)
  | [] => [[n]]
  | x :: r => (n :: x :: r) :: (insA n r).map (x :: ·)
def avL : Nat → List (List Int)
  | 0 => [[]]
  | n + 1 => (avL n).flatMap fun p => (insA ((n : Int) + 1) p).filter avB
theorem no13_iff {x : Int} : ∀ {L : List Int}, no13 x L = true ↔ ∀ z y, [z, y].Sublist L → ¬ (x < y ∧ y < z)
  | [] => by simp [no13]
  | w :: L => by
    rw [no13, Bool.and_eq_true, no13_iff]
    constructor
    · rintro ⟨h1, h2⟩ z y hs ⟨h3, h4⟩
      rcases List.sublist_cons_iff.1 hs with hs | ⟨r, e, hs⟩
      · exact h2 z y hs ⟨h3, h4⟩
      · simp at e
        obtain ⟨rfl, rfl⟩ := e
        rw [if_pos (by omega)] at h1
        have := List.all_eq_true.1 h1 y (List.singleton_sublist.1 hs)
        simp at this
        omega
    · intro h
      refine ⟨?_, fun z y hs => h z y (hs.trans (List.sublist_cons_self ..))⟩
      split
      · refine List.all_eq_true.2 fun y hy => ?_
        have := h w y (List.sublist_cons_iff.2 (.inr ⟨[y], rfl, List.singleton_sublist.2 hy⟩))
        simp
        omega
      · rfl
theorem avB_iff : ∀ {L : List Int}, avB L = true ↔ ∀ x z y, [x, z, y].Sublist L → ¬ (x < y ∧ y < z)
  | [] => by simp [avB]
  | w :: L => by
    rw [avB, Bool.and_eq_true, avB_iff, no13_iff]
    constructor
    · rintro ⟨h1, h2⟩ x z y hs
      rcases List.sublist_cons_iff.1 hs with hs | ⟨r, e, hs⟩
      · exact h2 x z y hs
      · simp at e
        obtain ⟨rfl, rfl⟩ := e
        exact h1 z y hs
    · intro h
      exact ⟨fun z y hs => h w z y (List.sublist_cons_iff.2 (.inr ⟨[z, y], rfl, hs⟩)), fun x z y hs => h x z y (hs.trans (List.sublist_cons_self ..))⟩
theorem mem_insA {n : Int} : ∀ {S T : List Int}, (S ++ n :: T) ∈ insA n (S ++ T)
  | [], [] => by simp [insA]
  | [], y :: T => by simp [insA]
  | x :: S, T => by
    rw [List.cons_append, List.cons_append, insA]
    exact List.mem_cons.2 (.inr (List.mem_map.2 ⟨_, mem_insA, rfl⟩))
theorem avB_sub {A B : List Int} (h : A.Sublist B) (hB : avB B = true) : avB A = true := avB_iff.2 fun x z y hs => avB_iff.1 hB x z y (hs.trans h)
theorem avL_mem : ∀ (n : Nat) {p : List Int}, p.Perm (idn n) → avB p = true → p ∈ avL n
  | 0, p, h, _ => by
    have : p = [] := List.Perm.eq_nil (by simpa [idn] using h)
    subst this; simp [avL]
  | n + 1, p, h, ha => by
    have hi : idn (n + 1) = idn n ++ [((n : Int) + 1)] := by simp [idn, List.range_succ]
    have hm : ((n : Int) + 1) ∈ p := h.mem_iff.2 (by rw [hi]; simp)
    obtain ⟨S, T, rfl⟩ := List.append_of_mem hm
    have hp : (S ++ T).Perm (idn n) := by
      have h1 : (((n : Int) + 1) :: (S ++ T)).Perm (((n : Int) + 1) :: idn n) := (List.perm_middle.symm.trans h).trans (by rw [hi]; exact List.perm_append_singleton _ _)
      exact List.Perm.cons_inv h1
    have hs : (S ++ T).Sublist (S ++ ((n : Int) + 1) :: T) := List.Sublist.append (List.Sublist.refl _) (List.sublist_cons_self ..)
    rw [avL, List.mem_flatMap]
    exact ⟨S ++ T, avL_mem n hp (avB_sub hs ha), List.mem_filter.2 ⟨mem_insA, ha⟩⟩
end Go.Proofs.YtlcemelmnkipmaaGreat

/- 132 by values: plain facts. -/
namespace Go.Proofs.YtlcemelmnkipmaaGreat
open Go
set_option maxRecDepth 100000

theorem has132 {P : List Int} (hn : P.Nodup) : hasP P [1, 3, 2] = !avB P := by
  have h : hasP P [1, 3, 2] = true ↔ ¬ avB P = true := by
    rw [has3, avB_iff]
    constructor
    · rintro ⟨i, j, k, hij, hjk, hk, f1, f2, f3⟩ hno
      have n3 := getD_ne hn hjk hk
      have : ¬ P.getD j 0 < P.getD k 0 := fun h => absurd (f3.1 h) (by decide)
      exact hno _ _ _ (sub_nth3.2 ⟨i, j, k, hij, hjk, nth_of (by omega), nth_of (by omega), nth_of hk⟩) ⟨f2.2 (by decide), by omega⟩
    · intro hno
      refine Classical.byContradiction fun hx => hno fun x z y hs hxy => hx ?_
      obtain ⟨i, j, k, hij, hjk, h1, h2, h3⟩ := sub_nth3.1 hs
      obtain ⟨l1, e1⟩ := nth_getD h1
      obtain ⟨l2, e2⟩ := nth_getD h2
      obtain ⟨l3, e3⟩ := nth_getD h3
      exact ⟨i, j, k, hij, hjk, l3, by omega, by omega, by omega⟩
  cases ha : avB P
  · exact h.2 (by rw [ha]; decide)
  · cases hb : hasP P [1, 3, 2]
    · rfl
    · exact absurd ha (h.1 hb)
theorem has123 {P : List Int} : hasP P [1, 2, 3] = true ↔ ∃ a b c, a < b ∧ b < c ∧ [a, b, c].Sublist P := by
  rw [has3]
  constructor
  · rintro ⟨i, j, k, hij, hjk, hk, f1, f2, f3⟩
    exact ⟨P.getD i 0, P.getD j 0, P.getD k 0, f1.2 (by decide), f3.2 (by decide), sub_nth3.2 ⟨i, j, k, hij, hjk, nth_of (by omega), nth_of (by omega), nth_of hk⟩⟩
  · rintro ⟨a, b, c, hab, hbc, hs⟩
    obtain ⟨i, j, k, hij, hjk, h1, h2, h3⟩ := sub_nth3.1 hs
    obtain ⟨l1, e1⟩ := nth_getD h1
    obtain ⟨l2, e2⟩ := nth_getD h2
    obtain ⟨l3, e3⟩ := nth_getD h3
    exact ⟨i, j, k, hij, hjk, l3, by omega, by omega, by omega⟩
end Go.Proofs.YtlcemelmnkipmaaGreat

/- Texts of paths and permutations without 132, by values that a check can list: plain facts. -/
namespace Go.Proofs.YtlcemelmnkipmaaGreat
open Go
set_option maxRecDepth 100000

def bts (l : List Bool) : ByteArray := ⟨(l.map fun b => if b then (85 : UInt8) else 68).toArray⟩
theorem bts_size (l : List Bool) : (bts l).size = l.length := by simp [bts, ByteArray.size]
theorem bts_append (a b : List Bool) : bts (a ++ b) = bts a ++ bts b := by
  apply ByteArray.ext
  simp [bts]
theorem bt_bts {l : List Bool} {k : Nat} (h : k < l.length) : bt (bts l) k = if l[k] then 85 else 68 := by
  have hs : k < (bts l).size := by rw [bts_size]; exact h
  unfold bt
  rw [getElem?_pos (bts l) k hs]
  have e : (bts l)[k] = if l[k] then (85 : UInt8) else 68 := by
    have h2 : ∀ (A : Array UInt8) (h3 : k < A.size), A = (l.map fun b => if b then (85 : UInt8) else 68).toArray → A[k] = if l[k] then (85 : UInt8) else 68 := fun A h3 e => by
      subst e; simp
    exact h2 (bts l).data hs rfl
  simp only [e]
  cases l[k] <;> rfl
/-- A path from height h to 0 that never goes under 0. -/
def okL : Nat → List Bool → Bool
  | h, [] => h == 0
  | h, true :: r => okL (h + 1) r
  | 0, false :: _ => false
  | h + 1, false :: r => okL h r
def popB : Nat → List Int → List Bool → List Int
  | _, _, [] => []
  | h, rest, true :: r => popB (h + 1) rest r
  | h, rest, false :: r => rest.getD (rest.length - 1 - (h - 1)) 0 :: popB (h - 1) (rest.take (rest.length - 1 - (h - 1)) ++ rest.drop (rest.length - 1 - (h - 1) + 1)) r
def retW : Nat → List Bool → Nat
  | _, [] => 0
  | h, true :: r => retW (h + 1) r
  | h, false :: r => (bif h == 1 then 1 else 0) + retW (h - 1) r
def maxW : Nat → List Bool → Nat
  | _, [] => 0
  | h, true :: r => max (h + 1) (maxW (h + 1) r)
  | h, false :: r => max (h - 1) (maxW (h - 1) r)
def pathW : Nat → List Int → List Bool
  | _, [] => []
  | h, x :: r => List.replicate (r.countP (fun y => decide (x < y)) + 1 - h) true ++ false :: pathW (max h (r.countP (fun y => decide (x < y)) + 1) - 1) r
def upsW : List Int → Nat
  | [] => 0
  | x :: r => (bif r.all (fun y => decide (y < x)) then 1 else 0) + upsW r
theorem hs_step {l : List Bool} {k : Nat} (h : k < l.length) : hs (bts l) (k + 1) = hs (bts l) k + (if l[k] then 1 else -1) := by
  rw [hs, bt_bts h]
  cases l[k] <;> rfl
theorem drop_at {l : List Bool} {k : Nat} (h : k < l.length) : l.drop k = l[k] :: l.drop (k + 1) := List.drop_eq_getElem_cons h
theorem okL_drop (l : List Bool) : ∀ (d k h : Nat), k + d = l.length → hs (bts l) k = (h : Int) →
    (okL h (l.drop k) = true ↔ (∀ j, k ≤ j → j < l.length → 0 ≤ hs (bts l) (j + 1)) ∧ hs (bts l) l.length = 0)
  | 0, k, h, hk, he => by
    have hk : k = l.length := by omega
    subst hk
    rw [List.drop_length, okL, he]
    constructor
    · intro h1
      exact ⟨fun j h1 h2 => by omega, by simpa using h1⟩
    · intro h1
      simpa using h1.2
  | d + 1, k, h, hk, he => by
    have hlt : k < l.length := by omega
    have hst := hs_step hlt
    rw [drop_at hlt]
    cases hb : l[k]
    · rw [hb] at hst
      simp only [Bool.false_eq_true, if_false] at hst
      cases h with
      | zero =>
        rw [okL]
        exact ⟨fun h => by simp at h, fun h => by have := h.1 k (Nat.le_refl _) hlt; omega⟩
      | succ h =>
        rw [okL, okL_drop l d (k + 1) h (by omega) (by omega)]
        exact ⟨fun h1 => ⟨fun j h2 h3 => by
          rcases Nat.eq_or_lt_of_le h2 with h4 | h4
          · subst h4; omega
          · exact h1.1 j h4 h3, h1.2⟩, fun h1 => ⟨fun j h2 h3 => h1.1 j (by omega) h3, h1.2⟩⟩
    · rw [hb] at hst
      simp only [if_true] at hst
      rw [okL, okL_drop l d (k + 1) (h + 1) (by omega) (by omega)]
      exact ⟨fun h1 => ⟨fun j h2 h3 => by
          rcases Nat.eq_or_lt_of_le h2 with h4 | h4
          · subst h4; omega
          · exact h1.1 j h4 h3, h1.2⟩, fun h1 => ⟨fun j h2 h3 => h1.1 j (by omega) h3, h1.2⟩⟩
theorem okPath_bts {l : List Bool} : OkPath (bts l) ↔ okL 0 l = true ∧ l.length ≤ 16 := by
  have h := okL_drop l l.length 0 0 (by omega) rfl
  rw [List.drop_zero] at h
  rw [h]
  unfold OkPath
  rw [bts_size]
  constructor
  · rintro ⟨h1, h2, h3⟩
    exact ⟨⟨fun j _ hj => (h1 j hj).2, h2⟩, h3⟩
  · rintro ⟨⟨h1, h2⟩, h3⟩
    refine ⟨fun j hj => ⟨?_, h1 j (by omega) hj⟩, h2, h3⟩
    rw [bt_bts hj]
    cases l[j]
    · exact .inr rfl
    · exact .inl rfl
theorem pst_pop (l : List Bool) : ∀ (d k h : Nat), k + d = l.length → hs (bts l) k = (h : Int) → okL h (l.drop k) = true →
    (pst (bts l) l.length).2 = (pst (bts l) k).2 ++ popB h (pst (bts l) k).1 (l.drop k)
  | 0, k, h, hk, he, _ => by
    have hk : k = l.length := by omega
    subst hk
    rw [List.drop_length, popB, List.append_nil]
  | d + 1, k, h, hk, he, ho => by
    have hlt : k < l.length := by omega
    have hst := hs_step hlt
    have hbt := bt_bts hlt
    rw [drop_at hlt] at ho ⊢
    cases hb : l[k]
    · rw [hb] at hst hbt ho
      simp only [Bool.false_eq_true, if_false] at hst hbt
      cases h with
      | zero => rw [okL] at ho; simp at ho
      | succ h =>
        rw [okL] at ho
        have he1 : hs (bts l) (k + 1) = (h : Int) := by omega
        have ih := pst_pop l d (k + 1) h (by omega) he1 ho
        rw [ih, pst, if_pos hbt, he1, popB]
        simp
    · rw [hb] at hst hbt ho
      simp only [if_true] at hst hbt
      rw [okL] at ho
      have ih := pst_pop l d (k + 1) (h + 1) (by omega) (by omega) ho
      rw [ih, pst, if_neg (by rw [hbt]; decide), popB]
theorem perm_of_path {l : List Bool} (h : okL 0 l = true) (h16 : l.length ≤ 16) : PermOfPathV (bts l) = popB 0 (idn (l.length / 2)) l ∧ PermOfPathV1 (bts l) = true := by
  have hok := okPath_bts.2 ⟨h, h16⟩
  classical
  refine ⟨?_, by unfold PermOfPathV1; exact decide_eq_true hok⟩
  rw [PermOfPathV, if_pos hok, bts_size, pst_pop l l.length 0 0 (by omega) rfl (by rw [List.drop_zero]; exact h)]
  rw [List.drop_zero]
  show [] ++ popB 0 (idn ((bts l).size / 2)) l = _
  rw [bts_size, List.nil_append]
theorem hsL_getD {s : ByteArray} {n k : Nat} (h : k < n) : (hsL s n).getD k 0 = hs s (k + 1) := by simp [hsL, List.getD_eq_getElem?_getD, h]
theorem cnt_ret (l : List Bool) (h16 : l.length ≤ 16) : ∀ (d k h : Nat), k + d = l.length → hs (bts l) k = (h : Int) → okL h (l.drop k) = true →
    cntZ (hsL (bts l) l.length) l.length = cntZ (hsL (bts l) l.length) k + (retW h (l.drop k) : Nat)
  | 0, k, h, hk, he, _ => by
    have hk : k = l.length := by omega
    subst hk
    rw [List.drop_length, retW]; simp
  | d + 1, k, h, hk, he, ho => by
    have hlt : k < l.length := by omega
    have hst := hs_step hlt
    have hbd := cntZ_bound (hsL (bts l) l.length) k (by omega)
    rw [drop_at hlt] at ho ⊢
    cases hb : l[k]
    · rw [hb] at hst ho
      simp only [Bool.false_eq_true, if_false] at hst
      cases h with
      | zero => rw [okL] at ho; simp at ho
      | succ h =>
        rw [okL] at ho
        have he1 : hs (bts l) (k + 1) = (h : Int) := by omega
        rw [cnt_ret l h16 d (k + 1) h (by omega) he1 ho, cntZ, hsL_getD hlt, he1, retW]
        cases h with
        | zero => rw [w64_id (by simp; omega) (by simp; omega)]; simp; omega
        | succ h =>
          rw [if_neg (by omega), w64_id (by omega) (by omega)]
          simp
    · rw [hb] at hst ho
      simp only [if_true] at hst
      rw [okL] at ho
      have he1 : hs (bts l) (k + 1) = ((h + 1 : Nat) : Int) := by omega
      rw [cnt_ret l h16 d (k + 1) (h + 1) (by omega) he1 ho, cntZ, hsL_getD hlt, he1, retW, if_neg (by omega), w64_id (by omega) (by omega)]
      omega
theorem max_w (l : List Bool) : ∀ (d k h : Nat), k + d = l.length → hs (bts l) k = (h : Int) → okL h (l.drop k) = true →
    maxZ (hsL (bts l) l.length) l.length = max (maxZ (hsL (bts l) l.length) k) (maxW h (l.drop k) : Nat)
  | 0, k, h, hk, he, _ => by
    have hk : k = l.length := by omega
    subst hk
    have : ∀ m, 0 ≤ maxZ (hsL (bts l) l.length) m := fun m => by
      induction m with
      | zero => simp [maxZ]
      | succ m ih => rw [maxZ]; omega
    have := this l.length
    rw [List.drop_length, maxW]; omega
  | d + 1, k, h, hk, he, ho => by
    have hlt : k < l.length := by omega
    have hst := hs_step hlt
    rw [drop_at hlt] at ho ⊢
    cases hb : l[k]
    · rw [hb] at hst ho
      simp only [Bool.false_eq_true, if_false] at hst
      cases h with
      | zero => rw [okL] at ho; simp at ho
      | succ h =>
        rw [okL] at ho
        have he1 : hs (bts l) (k + 1) = (h : Int) := by omega
        rw [max_w l d (k + 1) h (by omega) he1 ho, maxZ, hsL_getD hlt, he1, maxW]
        simp only [Nat.add_sub_cancel]
        omega
    · rw [hb] at hst ho
      simp only [if_true] at hst
      rw [okL] at ho
      have he1 : hs (bts l) (k + 1) = ((h + 1 : Nat) : Int) := by omega
      rw [max_w l d (k + 1) (h + 1) (by omega) he1 ho, maxZ, hsL_getD hlt, he1, maxW]
      omega
theorem ret_of {l : List Bool} (h : okL 0 l = true) (h16 : l.length ≤ 16) : retV (bts l) = (retW 0 l : Nat) := by
  classical
  rw [retV, if_pos (okPath_bts.2 ⟨h, h16⟩), bts_size, cnt_ret l h16 l.length 0 0 (by omega) rfl (by rw [List.drop_zero]; exact h), List.drop_zero, cntZ]
  omega
theorem ph_of {l : List Bool} (h : okL 0 l = true) (h16 : l.length ≤ 16) : phV (bts l) = (maxW 0 l : Nat) := by
  classical
  rw [phV, if_pos (okPath_bts.2 ⟨h, h16⟩), bts_size, max_w l l.length 0 0 (by omega) rfl (by rw [List.drop_zero]; exact h), List.drop_zero, maxZ]
  omega
/-! ### The path of a permutation -/
theorem later_cnt {L : List Int} {k : Nat} : ∀ m, m + (k + 1) ≤ L.length → laterT L k m = (((L.drop (k + 1)).take m).countP fun y => decide (L.getD k 0 < y) : Nat)
  | 0, _ => by simp [laterT]
  | m + 1, h => by
    have hlt : m < (L.drop (k + 1)).length := by simp; omega
    rw [laterT, later_cnt m (by omega), List.take_succ_eq_append_getElem hlt, List.countP_append, List.getElem_drop]
    have e : L.getD (k + 1 + m) 0 = L[k + 1 + m]'(by omega) := by simp [List.getD_eq_getElem?_getD, List.getElem?_eq_getElem (show k + 1 + m < L.length by omega)]
    rw [e]
    by_cases hc : L.getD k 0 < L[k + 1 + m]'(by omega)
    · rw [if_pos hc, List.countP_singleton, if_pos (decide_eq_true hc)]; omega
    · rw [if_neg hc, List.countP_singleton, if_neg (by simpa using hc)]; omega
theorem laterV_cnt {L : List Int} {k : Nat} (h : k < L.length) : laterV L k = ((L.drop (k + 1)).countP fun y => decide (L.getD k 0 < y) : Nat) := by
  rw [laterV, later_cnt _ (by omega), List.take_of_length_le (by simp)]
theorem us_bts (o : ByteArray) : ∀ c, us o c = o ++ bts (List.replicate c true)
  | 0 => by apply ByteArray.ext; simp [us, bts]
  | c + 1 => by
    rw [us, us_bts o c, List.replicate_succ', bts_append]
    apply ByteArray.ext
    simp [bts]
theorem pV_path (L : List Int) : ∀ (d k h : Nat), k + d = L.length → hV L k = (h : Int) → pV L L.length = pV L k ++ bts (pathW h (L.drop k))
  | 0, k, h, hk, he => by
    have hk : k = L.length := by omega
    subst hk
    rw [List.drop_length, pathW]
    apply ByteArray.ext; simp [bts]
  | d + 1, k, h, hk, he => by
    have hlt : k < L.length := by omega
    have hg : L.getD k 0 = L[k] := by simp [List.getD_eq_getElem?_getD, List.getElem?_eq_getElem hlt]
    have hl := laterV_cnt hlt
    have he1 : hV L (k + 1) = ((max h ((L.drop (k + 1)).countP (fun y => decide (L[k] < y)) + 1) - 1 : Nat) : Int) := by
      rw [hV, hl, he, hg]; omega
    rw [pV_path L d (k + 1) _ (by omega) he1, List.drop_eq_getElem_cons hlt, pathW, pV, us_bts, hl, he, hg]
    rw [show (((((L.drop (k + 1)).countP fun y => decide (L[k] < y) : Nat) : Int) + 1 - (h : Int)).toNat) = (L.drop (k + 1)).countP (fun y => decide (L[k] < y)) + 1 - h by omega]
    rw [bts_append]
    apply ByteArray.ext
    simp [bts]
theorem pV_of (L : List Int) : pV L L.length = bts (pathW 0 L) := by
  rw [pV_path L L.length 0 0 (by omega) rfl, List.drop_zero]
  apply ByteArray.ext
  simp [pV]
end Go.Proofs.YtlcemelmnkipmaaGreat

/- The lengths of longest ascending patterns, as the program reckons them. -/
namespace Go.Proofs.YtlcemelmnkipmaaGreat
open Go Go.RowKit
set_option maxRecDepth 100000

def inn (L : List Int) (val : Nat → Int × Int) (i : Nat) : Nat → Int × Int
  | 0 => (1, 1)
  | c + 1 =>
    if L.getD (i + 1 + c) 0 < L.getD i 0 ∨ w64 ((val (i + 1 + c)).1 + 1) < (inn L val i c).1 then inn L val i c
    else if (inn L val i c).1 < w64 ((val (i + 1 + c)).1 + 1) then (w64 ((val (i + 1 + c)).1 + 1), (val (i + 1 + c)).2)
    else ((inn L val i c).1, w64 ((inn L val i c).2 + (val (i + 1 + c)).2))
/-- What stands behind the last d places. -/
def gl (L : List Int) : Nat → Nat → Int × Int
  | 0, _ => (0, 0)
  | d + 1, j => if j = L.length - 1 - d then inn L (gl L d) j d else gl L d j

end Go.Proofs.YtlcemelmnkipmaaGreat

/- Plain law: the longest ascending pattern, told from both ends. -/
namespace Go.Proofs.YtlcemelmnkipmaaGreat
open Go Go.RowKit
set_option maxRecDepth 100000

theorem inn_spec {L : List Int} (hp : ∀ i j, i < j → j < L.length → L.getD i 0 ≠ L.getD j 0) {val : Nat → Int × Int} {i : Nat} (hi : i < L.length) (hL : L.length < 2^38)
    (hv : ∀ k, i < k → k < L.length → Most (Fr L k) (val k).1) : ∀ c, i + c < L.length →
    1 ≤ (inn L val i c).1 ∧ (inn L val i c).1 ≤ L.length ∧ ((inn L val i c).1 = 1 ∨ ∃ k, i < k ∧ k < i + 1 + c ∧ L.getD i 0 < L.getD k 0 ∧ (inn L val i c).1 = (val k).1 + 1) ∧
    ∀ k, i < k → k < i + 1 + c → L.getD i 0 < L.getD k 0 → (val k).1 + 1 ≤ (inn L val i c).1
  | 0, _ => ⟨by simp [inn], by simp [inn]; omega, .inl rfl, fun k h1 h2 => by omega⟩
  | c + 1, hc => by
    obtain ⟨h1, h2, h3, h4⟩ := inn_spec hp hi hL hv c (by omega)
    obtain ⟨m, hm, hf, _⟩ := hv (i + 1 + c) (by omega) (by omega)
    have hle := hf.le
    have hpos := hf.pos
    have hw : w64 ((val (i + 1 + c)).1 + 1) = (val (i + 1 + c)).1 + 1 := w64_id (by omega) (by omega)
    have hne := hp i (i + 1 + c) (by omega) (by omega)
    rw [inn, hw]
    split
    · rename_i hs
      refine ⟨h1, h2, h3.imp id (fun ⟨k, a, b, d, e⟩ => ⟨k, a, by omega, d, e⟩), fun k hk1 hk2 hlt => ?_⟩
      by_cases hk : k < i + 1 + c
      · exact h4 k hk1 hk hlt
      · have : k = i + 1 + c := by omega
        subst this
        rcases hs with hs | hs <;> omega
    · rename_i hs
      have hlt : L.getD i 0 < L.getD (i + 1 + c) 0 := by
        have : ¬ L.getD (i + 1 + c) 0 < L.getD i 0 := fun h => hs (.inl h)
        omega
      split
      · rename_i hs2
        refine ⟨by simp only; omega, by simp only; omega, .inr ⟨i + 1 + c, by omega, by omega, hlt, rfl⟩, fun k hk1 hk2 hlt => ?_⟩
        by_cases hk : k < i + 1 + c
        · have := h4 k hk1 hk hlt; simp only; omega
        · have : k = i + 1 + c := by omega
          subst this; simp
      · rename_i hs2
        have hs3 : ¬ ((val (i + 1 + c)).1 + 1 < (inn L val i c).1) := fun h => hs (.inr h)
        refine ⟨h1, h2, h3.imp id (fun ⟨k, a, b, d, e⟩ => ⟨k, a, by omega, d, e⟩), fun k hk1 hk2 hlt => ?_⟩
        by_cases hk : k < i + 1 + c
        · exact h4 k hk1 hk hlt
        · have : k = i + 1 + c := by omega
          subst this; simp only; omega
theorem gl_spec {L : List Int} (hp : ∀ i j, i < j → j < L.length → L.getD i 0 ≠ L.getD j 0) (hL : L.length < 2^38) : ∀ d, d ≤ L.length → ∀ j, L.length ≤ j + d → j < L.length → Most (Fr L j) (gl L d j).1
  | 0, _, j, h1, h2 => by omega
  | d + 1, hd, j, h1, h2 => by
    rw [gl]
    split
    · rename_i hj
      obtain ⟨a1, a2, a3, a4⟩ := inn_spec hp h2 hL (val := gl L d) (fun k hk1 hk2 => gl_spec hp hL d (by omega) k (by omega) hk2) d (by omega)
      refine ⟨(inn L (gl L d) j d).1.toNat, by omega, ?_, fun m' hm' => ?_⟩
      · rcases a3 with a3 | ⟨k, b1, b2, b3, b4⟩
        · rw [a3]; exact .one h2
        · obtain ⟨m, hm, hf, _⟩ := gl_spec hp hL d (by omega) k (by omega) (by omega)
          rw [b4, show ((gl L d k).1 + 1).toNat = m + 1 by omega]
          exact .cons b1 (by omega) b3 hf
      · cases hm' with
        | one _ => omega
        | cons c1 c2 c3 c4 =>
          rename_i k m
          have := a4 k c1 (by omega) c3
          obtain ⟨m2, hm2, _, hmax⟩ := gl_spec hp hL d (by omega) k (by omega) c2
          have := hmax m c4
          omega
    · exact gl_spec hp hL d (by omega) j (by omega) h2

theorem lis_eq {L : List Int} {f g : Nat → Int} (hf : ∀ i, i < L.length → Most (Fr L i) (f i)) (hg : ∀ k, k < L.length → Most (En L k) (g k)) : mx f L.length = mx g L.length := by
  have h1 : mx f L.length ≤ mx g L.length := by
    rcases mx_mem (f := f) (n := L.length) with h | ⟨i, hi, he⟩
    · rw [h]; exact mx_nonneg
    · obtain ⟨m, hm, hfr, _⟩ := hf i hi
      obtain ⟨k, hk⟩ := hfr.toEn 1 (.one hi)
      rw [show 1 + m - 1 = m by omega] at hk
      have hkl : k < L.length := by cases hk <;> omega
      obtain ⟨m2, hm2, _, hmax⟩ := hg k hkl
      have := hmax _ hk
      have := mx_ge (f := g) hkl
      omega
  have h2 : mx g L.length ≤ mx f L.length := by
    rcases mx_mem (f := g) (n := L.length) with h | ⟨i, hi, he⟩
    · rw [h]; exact mx_nonneg
    · obtain ⟨m, hm, hfr, _⟩ := hg i hi
      obtain ⟨k, hk⟩ := hfr.toFr 1 (.one hi)
      obtain ⟨m2, hm2, _, hmax⟩ := hf k hk.lt
      have := hmax _ hk
      have := mx_ge (f := f) hk.lt
      omega
  omega

end Go.Proofs.YtlcemelmnkipmaaGreat

/- The length of a longest ascending pattern: both texts, and the law. -/
namespace Go.Proofs.YtlcemelmnkipmaaGreat
open Go Go.RowKit
set_option maxRecDepth 100000

open Classical in
noncomputable def LongestUpV (L : List Int) : Int := if IsP L then luV L else -1
theorem c_specLongestUp {w : World} {a : Sl} {L : List Int} (ha : RowI w a L) (hL : L.length < 2^38) :
    Calls PP F.spec_LongestUp #[a.v] w fun e w' => e = .returned (vI (LongestUpV L)) ∧ Below w.heap.size w w' := by
  refine spec_LongestUp.calls a ?_
  rw [spec_LongestUp.E_s]
  refine Quiet.call1 (s := .bool) (c_specIsPerm ha hL) ?_
  intro w1 hd
  refine bif_intro (fun h => ?_) (fun h => ?_)
  · have h : ¬ IsP L := by simpa using h
    exact ⟨by rw [LongestUpV, if_neg h], hd.below _⟩
  · have h : IsP L := by simpa using h
    refine (c_l20Up (ha.heap hd.heap') hL).mono ?_
    rintro e w2 ⟨rfl, hb2⟩
    exact ⟨_, rfl, by rw [LongestUpV, if_pos h], (hd.below _).trans (hb2.mono (by rw [hd.heap']; exact Nat.le_refl _))⟩

end Go.Proofs.YtlcemelmnkipmaaGreat

/- Paths and permutations without 132: the checks, one by one. -/
namespace Go.Proofs.YtlcemelmnkipmaaGreat
open Go
set_option maxRecDepth 100000

def goodA (n : Nat) (P : List Int) : Bool := okL 0 (pathW 0 P) && ((pathW 0 P).length == 2 * n) && (popB 0 (idn n) (pathW 0 P) == P) && (retW 0 (pathW 0 P) == upsW P) && decide (((maxW 0 (pathW 0 P) : Nat) : Int) = luV P)
def dy : Nat → Nat → List (List Bool)
  | 0, 0 => [[]]
  | 0, _ + 1 => []
  | f + 1, 0 => (dy f 1).map (true :: ·)
  | f + 1, h + 1 => (dy f (h + 2)).map (true :: ·) ++ (dy f h).map (false :: ·)
def goodB (n : Nat) (l : List Bool) : Bool := avB (popB 0 (idn n) l) && (popB 0 (idn n) l).isPerm (idn n) && (pathW 0 (popB 0 (idn n) l) == l)
theorem chkA0 : (avL 0).all (goodA 0) = true := by kernel_rfl
theorem chkB0 : (dy 0 0).all (goodB 0) = true := by kernel_rfl
theorem chkA1 : (avL 1).all (goodA 1) = true := by kernel_rfl
theorem chkB1 : (dy 2 0).all (goodB 1) = true := by kernel_rfl
theorem chkA2 : (avL 2).all (goodA 2) = true := by kernel_rfl
theorem chkB2 : (dy 4 0).all (goodB 2) = true := by kernel_rfl
theorem chkA3 : (avL 3).all (goodA 3) = true := by kernel_rfl
theorem chkB3 : (dy 6 0).all (goodB 3) = true := by kernel_rfl
theorem chkA4 : (avL 4).all (goodA 4) = true := by kernel_rfl
theorem chkB4 : (dy 8 0).all (goodB 4) = true := by kernel_rfl
theorem chkA5 : (avL 5).all (goodA 5) = true := by kernel_rfl
theorem chkB5 : (dy 10 0).all (goodB 5) = true := by kernel_rfl
theorem chkA6 : (avL 6).all (goodA 6) = true := by kernel_rfl
theorem chkB6 : (dy 12 0).all (goodB 6) = true := by kernel_rfl
theorem chkA7 : (avL 7).all (goodA 7) = true := by kernel_rfl
theorem chkB7 : (dy 14 0).all (goodB 7) = true := by kernel_rfl
end Go.Proofs.YtlcemelmnkipmaaGreat

/- The checks at eight. -/
namespace Go.Proofs.YtlcemelmnkipmaaGreat
open Go
set_option maxRecDepth 100000

theorem chkA8 : (avL 8).all (goodA 8) = true := by kernel_rfl
theorem chkB8 : (dy 16 0).all (goodB 8) = true := by kernel_rfl
end Go.Proofs.YtlcemelmnkipmaaGreat
