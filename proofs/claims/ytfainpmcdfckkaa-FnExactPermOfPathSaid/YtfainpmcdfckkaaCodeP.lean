/- What each function does, step by step, written by a program (Gen.lean); each equation is checked by the kernel. -/
import Derived.Test.YtfainpmcdfckkaaHead
namespace Go.Proofs.Ytfainpmcdfckkaa
open Go
set_option linter.unusedVariables false
set_option maxRecDepth 100000
namespace impl_identity
@[reducible] def cfg : Cfg := ⟨17, [(3, [3, 6, 7])], [(1, [3, 6, 7]), (0, [3])], [], [2], [], [91, 60, 17, 21, 24, 26, 65, 27, 82, 64, 85, 108, 78, 53, 51], [86, 52, 88]⟩
def q2 (pr : Prims) (R : Ending → World → Prop) : Exit → Env → World → Prop := fun ex e w => normQ ex (fun e w => contE pr cfg (sub (codeOf Try.f58) [1, 1, 1]) (fun e w => wpC pr PP cfg (DD pr) (sub (codeOf Try.f58) [1, 1, 1]) (retQ Try.f58.results.toList R) e w) e w) (retQ Try.f58.results.toList R) e w
def q3 (pr : Prims) (R : Ending → World → Prop) : Exit → Env → World → Prop := fun ex e w => blockQ ex 0 (q2 pr R) e w
def emb3 (out_3 : Sl) (t6 : Int) (t7 : Int) : Env := [(3, Sl.v out_3), (6, vI t6), (7, vI t7)]
def x0 (out_3 : Sl) : Env := [(3, Sl.v out_3)]
def S3 (pr : Prims) (Q : Exit → Env → World → Prop) : (Env → World → Prop) → Env → World → Prop := fun k e w => wpC pr PP cfg (DD pr) (sub (codeOf Try.f58) [1, 1, 0, 1, 0, 0]) (fun ex e w => normQ ex (fun e' w' => k (Env.restr e' (lookN cfg.loops (keyOf (sub (codeOf Try.f58) [1, 1, 0, 1, 0, 0])))) w') Q e w) e w
def B3 (pr : Prims) (out_3 : Sl) (t6 : Int) (t7 : Int) (w : World) (k : Env → World → Prop) (Q : Exit → Env → World → Prop) : Prop :=
  S3 pr Q k (emb3 out_3 t6 t7) w
def L3 (pr : Prims) (out_3 : Sl) (t6 : Int) (t7 : Int) (w : World) (Q : Exit → Env → World → Prop) : Prop :=
  pr.loop (S3 pr Q) (emb3 out_3 t6 t7) w
def E (pr : Prims) (n_0 : Int) (w : World) (R : Ending → World → Prop) : Prop :=
  wpC pr PP cfg (DD pr) (codeOf Try.f58) (retQ Try.f58.results.toList R) (argE 0 [vI n_0]) w
theorem B3_eq (pr : Prims) (out_3 : Sl) (t6 : Int) (t7 : Int) (w : World) (k : Env → World → Prop) (Q : Exit → Env → World → Prop) : B3 pr out_3 t6 t7 w k Q = (
  bif decide (t7 < t6) then (
  pr.sem1 .sl PP (Instr.buildSlice T_Sint 1 #[(0, vI (w64 (t7 + 1)))]) w fun (ρ4 : Sl) ω5 =>
  pr.sem1 .sl PP (Builtin.append_ #[T_Sint, T_Sint] T_Sint #[Sl.v out_3, Sl.v ρ4]) ω5 fun (ρ6 : Sl) ω7 =>
  k (emb3 ρ6 t6 (w64 (t7 + 1))) ω7)
  else (
  Q (.exit 0) (x0 out_3) w)) := by kernel_rfl
theorem B3_s (out_3 : Sl) (t6 : Int) (t7 : Int) (w : World) (k : Env → World → Prop) (Q : Exit → Env → World → Prop) : B3 std out_3 t6 t7 w k Q = (
  bif decide (t7 < t6) then (
  sem1 .sl PP (Instr.buildSlice T_Sint 1 #[(0, vI (w64 (t7 + 1)))]) w fun (ρ4 : Sl) ω5 =>
  sem1 .sl PP (Builtin.append_ #[T_Sint, T_Sint] T_Sint #[Sl.v out_3, Sl.v ρ4]) ω5 fun (ρ6 : Sl) ω7 =>
  k (emb3 ρ6 t6 (w64 (t7 + 1))) ω7)
  else (
  Q (.exit 0) (x0 out_3) w)) := B3_eq std out_3 t6 t7 w k Q
theorem L3_rule (out_3 : Sl) (t6 : Int) (t7 : Int) (w : World) (Q : Exit → Env → World → Prop) (I : Sl → Int → World → Prop) (μ : Sl → Int → World → Nat) (h0 : I out_3 t7 w)
    (h : ∀ (out_3 : Sl) (t7 : Int) (w' : World), I out_3 t7 w' → B3 std out_3 t6 t7 w' (fun e2 w2 => ∃ out_3_n t7_n, e2 = emb3 out_3_n t6 t7_n ∧ I out_3_n t7_n w2 ∧ μ out_3_n t7_n w2 < μ out_3 t7 w') Q) :
    L3 std out_3 t6 t7 w Q := by
  unfold L3
  refine LoopE.intro (σ := Sl × Int) (step := S3 std Q) (fun s => emb3 s.1 t6 s.2) (fun s w => I s.1 s.2 w) (fun s w => μ s.1 s.2 w) (out_3, t7) rfl h0 ?_
  intro s w' hI
  have h1 := h s.1 s.2 w' hI
  unfold B3 at h1
  simp only [Prod.exists]
  exact h1
theorem A3_0_eq (pr : Prims) (out_3 : Sl) (w : World) (R : Ending → World → Prop) : (q3 pr R) (.exit 0) (x0 out_3) w = (
  R (.returned (Sl.v out_3)) w) := by kernel_rfl
theorem A3_0_s (out_3 : Sl) (w : World) (R : Ending → World → Prop) : (q3 std R) (.exit 0) (x0 out_3) w = (
  R (.returned (Sl.v out_3)) w) := A3_0_eq std out_3 w R
theorem E_eq (pr : Prims) (n_0 : Int) (w : World) (R : Ending → World → Prop) : E pr n_0 w R = (
  pr.sem1 .sl PP (Instr.buildSlice T_Sint 0 #[]) w fun (ρ0 : Sl) ω1 =>
  L3 pr ρ0 n_0 0 ω1 (q3 pr R)) := by kernel_rfl
theorem E_s (n_0 : Int) (w : World) (R : Ending → World → Prop) : E std n_0 w R = (
  sem1 .sl PP (Instr.buildSlice T_Sint 0 #[]) w fun (ρ0 : Sl) ω1 =>
  L3 std ρ0 n_0 0 ω1 (q3 std R)) := E_eq std n_0 w R
theorem drawsOk : drawsOk PP cfg okD (codeOf Try.f58) = true := by kernel_rfl
theorem calls (n_0 : Int) {w : World} {R : Ending → World → Prop} (h : E std n_0 w R) : Calls PP F.impl_identity #[vI n_0] w R :=
  calls_of noCount mixed drawOk Try.func58 rfl (c := cfg) (args := [vI n_0]) rfl (Nat.le_of_ble_eq_true (by kernel_rfl)) drawsOk h
end impl_identity

namespace spec_IdentityPerm
@[reducible] def cfg : Cfg := ⟨20, [(3, [0, 3, 4])], [(1, [0, 3, 4]), (0, [3])], [], [2], [], [91, 60, 17, 21, 24, 26, 65, 27, 82, 64, 85, 108, 78, 53, 51], [86, 52, 88]⟩
def q2 (pr : Prims) (R : Ending → World → Prop) : Exit → Env → World → Prop := fun ex e w => normQ ex (fun e w => contE pr cfg (sub (codeOf Try.f56) [1, 1, 1]) (fun e w => wpC pr PP cfg (DD pr) (sub (codeOf Try.f56) [1, 1, 1]) (retQ Try.f56.results.toList R) e w) e w) (retQ Try.f56.results.toList R) e w
def q3 (pr : Prims) (R : Ending → World → Prop) : Exit → Env → World → Prop := fun ex e w => blockQ ex 0 (q2 pr R) e w
def emb3 (n_0 : Int) (out_3 : Sl) (k_4 : Int) : Env := [(0, vI n_0), (3, Sl.v out_3), (4, vI k_4)]
def x0 (out_3 : Sl) : Env := [(3, Sl.v out_3)]
def S3 (pr : Prims) (Q : Exit → Env → World → Prop) : (Env → World → Prop) → Env → World → Prop := fun k e w => wpC pr PP cfg (DD pr) (sub (codeOf Try.f56) [1, 1, 0, 1, 0, 0]) (fun ex e w => normQ ex (fun e' w' => k (Env.restr e' (lookN cfg.loops (keyOf (sub (codeOf Try.f56) [1, 1, 0, 1, 0, 0])))) w') Q e w) e w
def B3 (pr : Prims) (n_0 : Int) (out_3 : Sl) (k_4 : Int) (w : World) (k : Env → World → Prop) (Q : Exit → Env → World → Prop) : Prop :=
  S3 pr Q k (emb3 n_0 out_3 k_4) w
def L3 (pr : Prims) (n_0 : Int) (out_3 : Sl) (k_4 : Int) (w : World) (Q : Exit → Env → World → Prop) : Prop :=
  pr.loop (S3 pr Q) (emb3 n_0 out_3 k_4) w
def E (pr : Prims) (n_0 : Int) (w : World) (R : Ending → World → Prop) : Prop :=
  wpC pr PP cfg (DD pr) (codeOf Try.f56) (retQ Try.f56.results.toList R) (argE 0 [vI n_0]) w
theorem B3_eq (pr : Prims) (n_0 : Int) (out_3 : Sl) (k_4 : Int) (w : World) (k : Env → World → Prop) (Q : Exit → Env → World → Prop) : B3 pr n_0 out_3 k_4 w k Q = (
  bif decide (k_4 ≤ n_0) then (
  bif decide (n_0 ≤ 8) then (
  pr.sem1 .sl PP (Instr.buildSlice T_Sint 1 #[(0, vI k_4)]) w fun (ρ4 : Sl) ω5 =>
  pr.sem1 .sl PP (Builtin.append_ #[T_Sint, T_Sint] T_Sint #[Sl.v out_3, Sl.v ρ4]) ω5 fun (ρ6 : Sl) ω7 =>
  k (emb3 n_0 ρ6 (w64 (k_4 + 1))) ω7)
  else (
  Q (.exit 0) (x0 out_3) w))
  else (
  Q (.exit 0) (x0 out_3) w)) := by kernel_rfl
theorem B3_s (n_0 : Int) (out_3 : Sl) (k_4 : Int) (w : World) (k : Env → World → Prop) (Q : Exit → Env → World → Prop) : B3 std n_0 out_3 k_4 w k Q = (
  bif decide (k_4 ≤ n_0) then (
  bif decide (n_0 ≤ 8) then (
  sem1 .sl PP (Instr.buildSlice T_Sint 1 #[(0, vI k_4)]) w fun (ρ4 : Sl) ω5 =>
  sem1 .sl PP (Builtin.append_ #[T_Sint, T_Sint] T_Sint #[Sl.v out_3, Sl.v ρ4]) ω5 fun (ρ6 : Sl) ω7 =>
  k (emb3 n_0 ρ6 (w64 (k_4 + 1))) ω7)
  else (
  Q (.exit 0) (x0 out_3) w))
  else (
  Q (.exit 0) (x0 out_3) w)) := B3_eq std n_0 out_3 k_4 w k Q
theorem L3_rule (n_0 : Int) (out_3 : Sl) (k_4 : Int) (w : World) (Q : Exit → Env → World → Prop) (I : Sl → Int → World → Prop) (μ : Sl → Int → World → Nat) (h0 : I out_3 k_4 w)
    (h : ∀ (out_3 : Sl) (k_4 : Int) (w' : World), I out_3 k_4 w' → B3 std n_0 out_3 k_4 w' (fun e2 w2 => ∃ out_3_n k_4_n, e2 = emb3 n_0 out_3_n k_4_n ∧ I out_3_n k_4_n w2 ∧ μ out_3_n k_4_n w2 < μ out_3 k_4 w') Q) :
    L3 std n_0 out_3 k_4 w Q := by
  unfold L3
  refine LoopE.intro (σ := Sl × Int) (step := S3 std Q) (fun s => emb3 n_0 s.1 s.2) (fun s w => I s.1 s.2 w) (fun s w => μ s.1 s.2 w) (out_3, k_4) rfl h0 ?_
  intro s w' hI
  have h1 := h s.1 s.2 w' hI
  unfold B3 at h1
  simp only [Prod.exists]
  exact h1
theorem A3_0_eq (pr : Prims) (out_3 : Sl) (w : World) (R : Ending → World → Prop) : (q3 pr R) (.exit 0) (x0 out_3) w = (
  R (.returned (Sl.v out_3)) w) := by kernel_rfl
theorem A3_0_s (out_3 : Sl) (w : World) (R : Ending → World → Prop) : (q3 std R) (.exit 0) (x0 out_3) w = (
  R (.returned (Sl.v out_3)) w) := A3_0_eq std out_3 w R
theorem E_eq (pr : Prims) (n_0 : Int) (w : World) (R : Ending → World → Prop) : E pr n_0 w R = (
  pr.sem1 .sl PP (Instr.buildSlice T_Sint 0 #[]) w fun (ρ0 : Sl) ω1 =>
  L3 pr n_0 ρ0 1 ω1 (q3 pr R)) := by kernel_rfl
theorem E_s (n_0 : Int) (w : World) (R : Ending → World → Prop) : E std n_0 w R = (
  sem1 .sl PP (Instr.buildSlice T_Sint 0 #[]) w fun (ρ0 : Sl) ω1 =>
  L3 std n_0 ρ0 1 ω1 (q3 std R)) := E_eq std n_0 w R
theorem drawsOk : drawsOk PP cfg okD (codeOf Try.f56) = true := by kernel_rfl
theorem calls (n_0 : Int) {w : World} {R : Ending → World → Prop} (h : E std n_0 w R) : Calls PP F.spec_IdentityPerm #[vI n_0] w R :=
  calls_of noCount mixed drawOk Try.func56 rfl (c := cfg) (args := [vI n_0]) rfl (Nat.le_of_ble_eq_true (by kernel_rfl)) drawsOk h
end spec_IdentityPerm

namespace impl_PermOfPath
@[reducible] def cfg : Cfg := ⟨53, [(7, [0, 6, 7, 23, 24, 25])], [(1, [0, 6, 7, 23, 24, 25]), (0, [7])], [], [2, 3], [], [91, 60, 17, 21, 24, 26, 65, 27, 82, 64, 85, 108, 78, 53, 51], [86, 52, 88]⟩
def q7 (pr : Prims) (R : Ending → World → Prop) : Exit → Env → World → Prop := fun ex e w => normQ ex (fun e w => contE pr cfg (sub (codeOf Try.f19) [1, 1, 1, 1, 1, 1]) (fun e w => wpC pr PP cfg (DD pr) (sub (codeOf Try.f19) [1, 1, 1, 1, 1, 1]) (retQ Try.f19.results.toList R) e w) e w) (retQ Try.f19.results.toList R) e w
def q8 (pr : Prims) (R : Ending → World → Prop) : Exit → Env → World → Prop := fun ex e w => blockQ ex 0 (q7 pr R) e w
def emb7 (text_0 : ByteArray) (left_6 : Sl) (out_7 : Sl) (t23 : Sl) (t24 : Int) (t25 : Int) : Env := [(0, .string text_0), (6, Sl.v left_6), (7, Sl.v out_7), (23, Sl.v t23), (24, vI t24), (25, vI t25)]
def x0 (out_7 : Sl) : Env := [(7, Sl.v out_7)]
def S7 (pr : Prims) (Q : Exit → Env → World → Prop) : (Env → World → Prop) → Env → World → Prop := fun k e w => wpC pr PP cfg (DD pr) (sub (codeOf Try.f19) [1, 1, 1, 1, 1, 0, 1, 0, 0]) (fun ex e w => normQ ex (fun e' w' => k (Env.restr e' (lookN cfg.loops (keyOf (sub (codeOf Try.f19) [1, 1, 1, 1, 1, 0, 1, 0, 0])))) w') Q e w) e w
def B7 (pr : Prims) (text_0 : ByteArray) (left_6 : Sl) (out_7 : Sl) (t23 : Sl) (t24 : Int) (t25 : Int) (w : World) (k : Env → World → Prop) (Q : Exit → Env → World → Prop) : Prop :=
  S7 pr Q k (emb7 text_0 left_6 out_7 t23 t24 t25) w
def L7 (pr : Prims) (text_0 : ByteArray) (left_6 : Sl) (out_7 : Sl) (t23 : Sl) (t24 : Int) (t25 : Int) (w : World) (Q : Exit → Env → World → Prop) : Prop :=
  pr.loop (S7 pr Q) (emb7 text_0 left_6 out_7 t23 t24 t25) w
def E (pr : Prims) (text_0 : ByteArray) (w : World) (R : Ending → World → Prop) : Prop :=
  wpC pr PP cfg (DD pr) (codeOf Try.f19) (retQ Try.f19.results.toList R) (argE 0 [.string text_0]) w
theorem B7_eq (pr : Prims) (text_0 : ByteArray) (left_6 : Sl) (out_7 : Sl) (t23 : Sl) (t24 : Int) (t25 : Int) (w : World) (k : Env → World → Prop) (Q : Exit → Env → World → Prop) : B7 pr text_0 left_6 out_7 t23 t24 t25 w k Q = (
  bif decide (t25 < t24) then (
  pr.idxK 1 t23 t25 fun (a9 : Addr) =>
  pr.load1 (.int .i64) a9 w fun (ξ10 : Int) =>
  pr.strIdxK text_0 t25 fun (b11 : Int) =>
  bif b11 == 68 then (
  pr.idxK 1 left_6 (w64 ((w64 ((left_6.n : Int) - 1)) - ξ10)) fun (a12 : Addr) =>
  pr.load1 (.int .i64) a12 w fun (ξ13 : Int) =>
  pr.sem1 .sl PP (Instr.buildSlice T_Sint 1 #[(0, vI ξ13)]) w fun (ρ14 : Sl) ω15 =>
  pr.sem1 .sl PP (Builtin.append_ #[T_Sint, T_Sint] T_Sint #[Sl.v out_7, Sl.v ρ14]) ω15 fun (ρ16 : Sl) ω17 =>
  pr.call1 .sl PP F.slices_Delete___int_int_ #[Sl.v left_6, vI (w64 ((w64 ((left_6.n : Int) - 1)) - ξ10)), vI (w64 ((w64 ((w64 ((left_6.n : Int) - 1)) - ξ10)) + 1))] ω17 fun (ρ18 : Sl) ω19 =>
  k (emb7 text_0 ρ18 ρ16 t23 t24 (w64 (t25 + 1))) ω19)
  else (
  k (emb7 text_0 left_6 out_7 t23 t24 (w64 (t25 + 1))) w))
  else (
  Q (.exit 0) (x0 out_7) w)) := by kernel_rfl
theorem B7_s (text_0 : ByteArray) (left_6 : Sl) (out_7 : Sl) (t23 : Sl) (t24 : Int) (t25 : Int) (w : World) (k : Env → World → Prop) (Q : Exit → Env → World → Prop) : B7 std text_0 left_6 out_7 t23 t24 t25 w k Q = (
  bif decide (t25 < t24) then (
  idxK 1 t23 t25 fun (a9 : Addr) =>
  load1 (.int .i64) a9 w fun (ξ10 : Int) =>
  strIdxK text_0 t25 fun (b11 : Int) =>
  bif b11 == 68 then (
  idxK 1 left_6 (w64 ((w64 ((left_6.n : Int) - 1)) - ξ10)) fun (a12 : Addr) =>
  load1 (.int .i64) a12 w fun (ξ13 : Int) =>
  sem1 .sl PP (Instr.buildSlice T_Sint 1 #[(0, vI ξ13)]) w fun (ρ14 : Sl) ω15 =>
  sem1 .sl PP (Builtin.append_ #[T_Sint, T_Sint] T_Sint #[Sl.v out_7, Sl.v ρ14]) ω15 fun (ρ16 : Sl) ω17 =>
  call1 .sl PP F.slices_Delete___int_int_ #[Sl.v left_6, vI (w64 ((w64 ((left_6.n : Int) - 1)) - ξ10)), vI (w64 ((w64 ((w64 ((left_6.n : Int) - 1)) - ξ10)) + 1))] ω17 fun (ρ18 : Sl) ω19 =>
  k (emb7 text_0 ρ18 ρ16 t23 t24 (w64 (t25 + 1))) ω19)
  else (
  k (emb7 text_0 left_6 out_7 t23 t24 (w64 (t25 + 1))) w))
  else (
  Q (.exit 0) (x0 out_7) w)) := B7_eq std text_0 left_6 out_7 t23 t24 t25 w k Q
theorem L7_rule (text_0 : ByteArray) (left_6 : Sl) (out_7 : Sl) (t23 : Sl) (t24 : Int) (t25 : Int) (w : World) (Q : Exit → Env → World → Prop) (I : Sl → Sl → Int → World → Prop) (μ : Sl → Sl → Int → World → Nat) (h0 : I left_6 out_7 t25 w)
    (h : ∀ (left_6 : Sl) (out_7 : Sl) (t25 : Int) (w' : World), I left_6 out_7 t25 w' → B7 std text_0 left_6 out_7 t23 t24 t25 w' (fun e2 w2 => ∃ left_6_n out_7_n t25_n, e2 = emb7 text_0 left_6_n out_7_n t23 t24 t25_n ∧ I left_6_n out_7_n t25_n w2 ∧ μ left_6_n out_7_n t25_n w2 < μ left_6 out_7 t25 w') Q) :
    L7 std text_0 left_6 out_7 t23 t24 t25 w Q := by
  unfold L7
  refine LoopE.intro (σ := Sl × Sl × Int) (step := S7 std Q) (fun s => emb7 text_0 s.1 s.2.1 t23 t24 s.2.2) (fun s w => I s.1 s.2.1 s.2.2 w) (fun s w => μ s.1 s.2.1 s.2.2 w) (left_6, out_7, t25) rfl h0 ?_
  intro s w' hI
  have h1 := h s.1 s.2.1 s.2.2 w' hI
  unfold B7 at h1
  simp only [Prod.exists]
  exact h1
theorem A7_0_eq (pr : Prims) (out_7 : Sl) (w : World) (R : Ending → World → Prop) : (q8 pr R) (.exit 0) (x0 out_7) w = (
  R (.returned (.tuple #[Sl.v out_7, .bool true])) w) := by kernel_rfl
theorem A7_0_s (out_7 : Sl) (w : World) (R : Ending → World → Prop) : (q8 std R) (.exit 0) (x0 out_7) w = (
  R (.returned (.tuple #[Sl.v out_7, .bool true])) w) := A7_0_eq std out_7 w R
theorem E_eq (pr : Prims) (text_0 : ByteArray) (w : World) (R : Ending → World → Prop) : E pr text_0 w R = (
  pr.call2 .sl .bool PP F.impl_heights #[.string text_0] w fun (ρ0 : Sl) (ρ1 : Bool) ω2 =>
  bif !ρ1 then (
  R (.returned (.tuple #[Sl.v Sl.nil, .bool false])) ω2)
  else (
  2 ≠ (0 : Int) ∧
  pr.call1 .sl PP F.impl_identity #[vI (w64 ((text_0.size : Int).tdiv 2))] ω2 fun (ρ3 : Sl) ω4 =>
  pr.sem1 .sl PP (Instr.buildSlice T_Sint 0 #[]) ω4 fun (ρ5 : Sl) ω6 =>
  L7 pr text_0 ρ3 ρ5 ρ0 (ρ0.n : Int) 0 ω6 (q8 pr R))) := by kernel_rfl
theorem E_s (text_0 : ByteArray) (w : World) (R : Ending → World → Prop) : E std text_0 w R = (
  call2 .sl .bool PP F.impl_heights #[.string text_0] w fun (ρ0 : Sl) (ρ1 : Bool) ω2 =>
  bif !ρ1 then (
  R (.returned (.tuple #[Sl.v Sl.nil, .bool false])) ω2)
  else (
  2 ≠ (0 : Int) ∧
  call1 .sl PP F.impl_identity #[vI (w64 ((text_0.size : Int).tdiv 2))] ω2 fun (ρ3 : Sl) ω4 =>
  sem1 .sl PP (Instr.buildSlice T_Sint 0 #[]) ω4 fun (ρ5 : Sl) ω6 =>
  L7 std text_0 ρ3 ρ5 ρ0 (ρ0.n : Int) 0 ω6 (q8 std R))) := E_eq std text_0 w R
theorem drawsOk : drawsOk PP cfg okD (codeOf Try.f19) = true := by kernel_rfl
theorem calls (text_0 : ByteArray) {w : World} {R : Ending → World → Prop} (h : E std text_0 w R) : Calls PP F.impl_PermOfPath #[.string text_0] w R :=
  calls_of noCount mixed drawOk Try.func19 rfl (c := cfg) (args := [.string text_0]) rfl (Nat.le_of_ble_eq_true (by kernel_rfl)) drawsOk h
end impl_PermOfPath

namespace spec_PermOfPath
@[reducible] def cfg : Cfg := ⟨55, [(7, [0, 4, 5, 6, 7])], [(1, [0, 4, 5, 6, 7]), (0, [5])], [], [2, 3], [], [91, 60, 17, 21, 24, 26, 65, 27, 82, 64, 85, 108, 78, 53, 51], [86, 52, 88]⟩
def q8 (pr : Prims) (R : Ending → World → Prop) : Exit → Env → World → Prop := fun ex e w => normQ ex (fun e w => contE pr cfg (sub (codeOf Try.f18) [1, 1, 1, 1, 1, 1]) (fun e w => wpC pr PP cfg (DD pr) (sub (codeOf Try.f18) [1, 1, 1, 1, 1, 1]) (retQ Try.f18.results.toList R) e w) e w) (retQ Try.f18.results.toList R) e w
def q9 (pr : Prims) (R : Ending → World → Prop) : Exit → Env → World → Prop := fun ex e w => blockQ ex 0 (q8 pr R) e w
def emb7 (text_0 : ByteArray) (left_4 : Sl) (out_5 : Sl) (h_6 : Int) (k_7 : Int) : Env := [(0, .string text_0), (4, Sl.v left_4), (5, Sl.v out_5), (6, vI h_6), (7, vI k_7)]
def x0 (out_5 : Sl) : Env := [(5, Sl.v out_5)]
def S7 (pr : Prims) (Q : Exit → Env → World → Prop) : (Env → World → Prop) → Env → World → Prop := fun k e w => wpC pr PP cfg (DD pr) (sub (codeOf Try.f18) [1, 1, 1, 1, 1, 0, 1, 0, 0]) (fun ex e w => normQ ex (fun e' w' => k (Env.restr e' (lookN cfg.loops (keyOf (sub (codeOf Try.f18) [1, 1, 1, 1, 1, 0, 1, 0, 0])))) w') Q e w) e w
def B7 (pr : Prims) (text_0 : ByteArray) (left_4 : Sl) (out_5 : Sl) (h_6 : Int) (k_7 : Int) (w : World) (k : Env → World → Prop) (Q : Exit → Env → World → Prop) : Prop :=
  S7 pr Q k (emb7 text_0 left_4 out_5 h_6 k_7) w
def L7 (pr : Prims) (text_0 : ByteArray) (left_4 : Sl) (out_5 : Sl) (h_6 : Int) (k_7 : Int) (w : World) (Q : Exit → Env → World → Prop) : Prop :=
  pr.loop (S7 pr Q) (emb7 text_0 left_4 out_5 h_6 k_7) w
def E (pr : Prims) (text_0 : ByteArray) (w : World) (R : Ending → World → Prop) : Prop :=
  wpC pr PP cfg (DD pr) (codeOf Try.f18) (retQ Try.f18.results.toList R) (argE 0 [.string text_0]) w
theorem B7_eq (pr : Prims) (text_0 : ByteArray) (left_4 : Sl) (out_5 : Sl) (h_6 : Int) (k_7 : Int) (w : World) (k : Env → World → Prop) (Q : Exit → Env → World → Prop) : B7 pr text_0 left_4 out_5 h_6 k_7 w k Q = (
  bif decide (k_7 < (text_0.size : Int)) then (
  pr.strIdxK text_0 k_7 fun (b10 : Int) =>
  bif b10 == 85 then (
  k (emb7 text_0 left_4 out_5 (w64 (h_6 + 1)) (w64 (k_7 + 1))) w)
  else (
  pr.idxK 1 left_4 (w64 ((w64 ((left_4.n : Int) - 1)) - (w64 (h_6 - 1)))) fun (a11 : Addr) =>
  pr.load1 (.int .i64) a11 w fun (ξ12 : Int) =>
  pr.sem1 .sl PP (Instr.buildSlice T_Sint 1 #[(0, vI ξ12)]) w fun (ρ13 : Sl) ω14 =>
  pr.sem1 .sl PP (Builtin.append_ #[T_Sint, T_Sint] T_Sint #[Sl.v out_5, Sl.v ρ13]) ω14 fun (ρ15 : Sl) ω16 =>
  pr.drewAll ω16 fun ω17 =>
  pr.cutK 1 left_4 none (some (w64 ((w64 ((left_4.n : Int) - 1)) - (w64 (h_6 - 1))))) fun (s18 : Sl) =>
  pr.cutK 1 left_4 (some (w64 ((w64 ((w64 ((left_4.n : Int) - 1)) - (w64 (h_6 - 1)))) + 1))) none fun (s19 : Sl) =>
  pr.sem1 .sl PP (Instr.buildSlice T_Sint 0 #[]) ω17 fun (ρ20 : Sl) ω21 =>
  pr.sem1 .sl PP (Builtin.append_ #[T_Sint, T_Sint] T_Sint #[Sl.v ρ20, Sl.v s18]) ω21 fun (ρ22 : Sl) ω23 =>
  pr.sem1 .sl PP (Builtin.append_ #[T_Sint, T_Sint] T_Sint #[Sl.v ρ22, Sl.v s19]) ω23 fun (ρ24 : Sl) ω25 =>
  k (emb7 text_0 ρ24 ρ15 (w64 (h_6 - 1)) (w64 (k_7 + 1))) ω25))
  else (
  Q (.exit 0) (x0 out_5) w)) := by kernel_rfl
theorem B7_s (text_0 : ByteArray) (left_4 : Sl) (out_5 : Sl) (h_6 : Int) (k_7 : Int) (w : World) (k : Env → World → Prop) (Q : Exit → Env → World → Prop) : B7 std text_0 left_4 out_5 h_6 k_7 w k Q = (
  bif decide (k_7 < (text_0.size : Int)) then (
  strIdxK text_0 k_7 fun (b10 : Int) =>
  bif b10 == 85 then (
  k (emb7 text_0 left_4 out_5 (w64 (h_6 + 1)) (w64 (k_7 + 1))) w)
  else (
  idxK 1 left_4 (w64 ((w64 ((left_4.n : Int) - 1)) - (w64 (h_6 - 1)))) fun (a11 : Addr) =>
  load1 (.int .i64) a11 w fun (ξ12 : Int) =>
  sem1 .sl PP (Instr.buildSlice T_Sint 1 #[(0, vI ξ12)]) w fun (ρ13 : Sl) ω14 =>
  sem1 .sl PP (Builtin.append_ #[T_Sint, T_Sint] T_Sint #[Sl.v out_5, Sl.v ρ13]) ω14 fun (ρ15 : Sl) ω16 =>
  drewAll ω16 fun ω17 =>
  cutK 1 left_4 none (some (w64 ((w64 ((left_4.n : Int) - 1)) - (w64 (h_6 - 1))))) fun (s18 : Sl) =>
  cutK 1 left_4 (some (w64 ((w64 ((w64 ((left_4.n : Int) - 1)) - (w64 (h_6 - 1)))) + 1))) none fun (s19 : Sl) =>
  sem1 .sl PP (Instr.buildSlice T_Sint 0 #[]) ω17 fun (ρ20 : Sl) ω21 =>
  sem1 .sl PP (Builtin.append_ #[T_Sint, T_Sint] T_Sint #[Sl.v ρ20, Sl.v s18]) ω21 fun (ρ22 : Sl) ω23 =>
  sem1 .sl PP (Builtin.append_ #[T_Sint, T_Sint] T_Sint #[Sl.v ρ22, Sl.v s19]) ω23 fun (ρ24 : Sl) ω25 =>
  k (emb7 text_0 ρ24 ρ15 (w64 (h_6 - 1)) (w64 (k_7 + 1))) ω25))
  else (
  Q (.exit 0) (x0 out_5) w)) := B7_eq std text_0 left_4 out_5 h_6 k_7 w k Q
theorem L7_rule (text_0 : ByteArray) (left_4 : Sl) (out_5 : Sl) (h_6 : Int) (k_7 : Int) (w : World) (Q : Exit → Env → World → Prop) (I : Sl → Sl → Int → Int → World → Prop) (μ : Sl → Sl → Int → Int → World → Nat) (h0 : I left_4 out_5 h_6 k_7 w)
    (h : ∀ (left_4 : Sl) (out_5 : Sl) (h_6 : Int) (k_7 : Int) (w' : World), I left_4 out_5 h_6 k_7 w' → B7 std text_0 left_4 out_5 h_6 k_7 w' (fun e2 w2 => ∃ left_4_n out_5_n h_6_n k_7_n, e2 = emb7 text_0 left_4_n out_5_n h_6_n k_7_n ∧ I left_4_n out_5_n h_6_n k_7_n w2 ∧ μ left_4_n out_5_n h_6_n k_7_n w2 < μ left_4 out_5 h_6 k_7 w') Q) :
    L7 std text_0 left_4 out_5 h_6 k_7 w Q := by
  unfold L7
  refine LoopE.intro (σ := Sl × Sl × Int × Int) (step := S7 std Q) (fun s => emb7 text_0 s.1 s.2.1 s.2.2.1 s.2.2.2) (fun s w => I s.1 s.2.1 s.2.2.1 s.2.2.2 w) (fun s w => μ s.1 s.2.1 s.2.2.1 s.2.2.2 w) (left_4, out_5, h_6, k_7) rfl h0 ?_
  intro s w' hI
  have h1 := h s.1 s.2.1 s.2.2.1 s.2.2.2 w' hI
  unfold B7 at h1
  simp only [Prod.exists]
  exact h1
theorem A7_0_eq (pr : Prims) (out_5 : Sl) (w : World) (R : Ending → World → Prop) : (q9 pr R) (.exit 0) (x0 out_5) w = (
  R (.returned (.tuple #[Sl.v out_5, .bool true])) w) := by kernel_rfl
theorem A7_0_s (out_5 : Sl) (w : World) (R : Ending → World → Prop) : (q9 std R) (.exit 0) (x0 out_5) w = (
  R (.returned (.tuple #[Sl.v out_5, .bool true])) w) := A7_0_eq std out_5 w R
theorem E_eq (pr : Prims) (text_0 : ByteArray) (w : World) (R : Ending → World → Prop) : E pr text_0 w R = (
  pr.call1 .bool PP F.spec_IsPath #[.string text_0] w fun (ρ0 : Bool) ω1 =>
  bif !ρ0 then (
  pr.sem1 .sl PP (Instr.buildSlice T_Sint 0 #[]) ω1 fun (ρ2 : Sl) ω3 =>
  R (.returned (.tuple #[Sl.v ρ2, .bool false])) ω3)
  else (
  2 ≠ (0 : Int) ∧
  pr.call1 .sl PP F.spec_IdentityPerm #[vI (w64 ((text_0.size : Int).tdiv 2))] ω1 fun (ρ4 : Sl) ω5 =>
  pr.sem1 .sl PP (Instr.buildSlice T_Sint 0 #[]) ω5 fun (ρ6 : Sl) ω7 =>
  L7 pr text_0 ρ4 ρ6 0 0 ω7 (q9 pr R))) := by kernel_rfl
theorem E_s (text_0 : ByteArray) (w : World) (R : Ending → World → Prop) : E std text_0 w R = (
  call1 .bool PP F.spec_IsPath #[.string text_0] w fun (ρ0 : Bool) ω1 =>
  bif !ρ0 then (
  sem1 .sl PP (Instr.buildSlice T_Sint 0 #[]) ω1 fun (ρ2 : Sl) ω3 =>
  R (.returned (.tuple #[Sl.v ρ2, .bool false])) ω3)
  else (
  2 ≠ (0 : Int) ∧
  call1 .sl PP F.spec_IdentityPerm #[vI (w64 ((text_0.size : Int).tdiv 2))] ω1 fun (ρ4 : Sl) ω5 =>
  sem1 .sl PP (Instr.buildSlice T_Sint 0 #[]) ω5 fun (ρ6 : Sl) ω7 =>
  L7 std text_0 ρ4 ρ6 0 0 ω7 (q9 std R))) := E_eq std text_0 w R
theorem drawsOk : drawsOk PP cfg okD (codeOf Try.f18) = true := by kernel_rfl
theorem calls (text_0 : ByteArray) {w : World} {R : Ending → World → Prop} (h : E std text_0 w R) : Calls PP F.spec_PermOfPath #[.string text_0] w R :=
  calls_of noCount mixed drawOk Try.func18 rfl (c := cfg) (args := [.string text_0]) rfl (Nat.le_of_ble_eq_true (by kernel_rfl)) drawsOk h
end spec_PermOfPath

namespace laws_FnExactPermOfPath
@[reducible] def cfg : Cfg := ⟨66, [], [], [], [2], [], [91, 60, 17, 21, 24, 26, 65, 27, 82, 64, 85, 108, 78, 53, 51], [86, 52, 88]⟩
def E (pr : Prims) (aText_0 : ByteArray) (w : World) (R : Ending → World → Prop) : Prop :=
  wpC pr PP cfg (DD pr) (codeOf Try.f4) (retQ Try.f4.results.toList R) (argE 0 [.string aText_0]) w
theorem E_eq (pr : Prims) (aText_0 : ByteArray) (w : World) (R : Ending → World → Prop) : E pr aText_0 w R = (
  bif decide ((aText_0.size : Int) > 1048576) then (
  R (.returned (.bool true)) w)
  else (
  pr.call2 .sl .bool PP F.spec_PermOfPath #[.string aText_0] w fun (ρ0 : Sl) (ρ1 : Bool) ω2 =>
  pr.call2 .sl .bool PP F.impl_PermOfPath #[.string aText_0] ω2 fun (ρ3 : Sl) (ρ4 : Bool) ω5 =>
  pr.call1 .bool PP F.laws_eqIntS #[Sl.v ρ3, Sl.v ρ0] ω5 fun (ρ6 : Bool) ω7 =>
  bif !ρ6 then (
  R (.returned (.bool false)) ω7)
  else (
  bif !(ρ4 == ρ1) then (
  R (.returned (.bool false)) ω7)
  else (
  pr.call1 (.int .i64) PP F.laws_markIntS #[Sl.v ρ3, vI 1] ω7 fun (ρ8 : Int) ω9 =>
  pr.call1 (.int .i64) PP F.laws_heldIntS #[Sl.v ρ3, vI 1] ω9 fun (ρ10 : Int) ω11 =>
  bif decide (ρ10 < 0) then (
  R (.returned (.bool false)) ω11)
  else (
  bif ρ10 != ρ8 then (
  R (.returned (.bool false)) ω11)
  else (
  pr.call2 .sl .bool PP F.impl_PermOfPath #[.string aText_0] ω11 fun (ρ12 : Sl) (ρ13 : Bool) ω14 =>
  pr.call1 .bool PP F.laws_eqIntS #[Sl.v ρ12, Sl.v ρ0] ω14 fun (ρ15 : Bool) ω16 =>
  bif !ρ15 then (
  R (.returned (.bool false)) ω16)
  else (
  bif !(ρ13 == ρ1) then (
  R (.returned (.bool false)) ω16)
  else (
  pr.call1 (.int .i64) PP F.laws_heldIntS #[Sl.v ρ3, vI 1] ω16 fun (ρ17 : Int) ω18 =>
  bif decide (ρ17 < 0) then (
  R (.returned (.bool false)) ω18)
  else (
  bif ρ17 != ρ8 then (
  R (.returned (.bool false)) ω18)
  else (
  R (.returned (.bool true)) ω18)))))))))) := by kernel_rfl
theorem E_s (aText_0 : ByteArray) (w : World) (R : Ending → World → Prop) : E std aText_0 w R = (
  bif decide ((aText_0.size : Int) > 1048576) then (
  R (.returned (.bool true)) w)
  else (
  call2 .sl .bool PP F.spec_PermOfPath #[.string aText_0] w fun (ρ0 : Sl) (ρ1 : Bool) ω2 =>
  call2 .sl .bool PP F.impl_PermOfPath #[.string aText_0] ω2 fun (ρ3 : Sl) (ρ4 : Bool) ω5 =>
  call1 .bool PP F.laws_eqIntS #[Sl.v ρ3, Sl.v ρ0] ω5 fun (ρ6 : Bool) ω7 =>
  bif !ρ6 then (
  R (.returned (.bool false)) ω7)
  else (
  bif !(ρ4 == ρ1) then (
  R (.returned (.bool false)) ω7)
  else (
  call1 (.int .i64) PP F.laws_markIntS #[Sl.v ρ3, vI 1] ω7 fun (ρ8 : Int) ω9 =>
  call1 (.int .i64) PP F.laws_heldIntS #[Sl.v ρ3, vI 1] ω9 fun (ρ10 : Int) ω11 =>
  bif decide (ρ10 < 0) then (
  R (.returned (.bool false)) ω11)
  else (
  bif ρ10 != ρ8 then (
  R (.returned (.bool false)) ω11)
  else (
  call2 .sl .bool PP F.impl_PermOfPath #[.string aText_0] ω11 fun (ρ12 : Sl) (ρ13 : Bool) ω14 =>
  call1 .bool PP F.laws_eqIntS #[Sl.v ρ12, Sl.v ρ0] ω14 fun (ρ15 : Bool) ω16 =>
  bif !ρ15 then (
  R (.returned (.bool false)) ω16)
  else (
  bif !(ρ13 == ρ1) then (
  R (.returned (.bool false)) ω16)
  else (
  call1 (.int .i64) PP F.laws_heldIntS #[Sl.v ρ3, vI 1] ω16 fun (ρ17 : Int) ω18 =>
  bif decide (ρ17 < 0) then (
  R (.returned (.bool false)) ω18)
  else (
  bif ρ17 != ρ8 then (
  R (.returned (.bool false)) ω18)
  else (
  R (.returned (.bool true)) ω18)))))))))) := E_eq std aText_0 w R
theorem drawsOk : drawsOk PP cfg okD (codeOf Try.f4) = true := by kernel_rfl
theorem calls (aText_0 : ByteArray) {w : World} {R : Ending → World → Prop} (h : E std aText_0 w R) : Calls PP F.laws_FnExactPermOfPath #[.string aText_0] w R :=
  calls_of noCount mixed drawOk Try.func4 rfl (c := cfg) (args := [.string aText_0]) rfl (Nat.le_of_ble_eq_true (by kernel_rfl)) drawsOk h
end laws_FnExactPermOfPath

end Go.Proofs.Ytfainpmcdfckkaa
