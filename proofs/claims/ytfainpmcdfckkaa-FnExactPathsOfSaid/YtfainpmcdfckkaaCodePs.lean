/- What each function does, step by step, written by a program (Gen.lean); each equation is checked by the kernel. -/
import Derived.Test.YtfainpmcdfckkaaHead
namespace Go.Proofs.Ytfainpmcdfckkaa
open Go
set_option linter.unusedVariables false
set_option maxRecDepth 100000
namespace spec_PathsOf
@[reducible] def cfg : Cfg := ⟨10, [], [], [], [2], [], [91, 60, 17, 21, 24, 26, 65, 27, 82, 64, 85, 108, 78, 53, 51], [86, 52, 88]⟩
def E (pr : Prims) (n_0 : Int) (w : World) (R : Ending → World → Prop) : Prop :=
  wpC pr PP cfg (DD pr) (codeOf Try.f46) (retQ Try.f46.results.toList R) (argE 0 [vI n_0]) w
theorem E_eq (pr : Prims) (n_0 : Int) (w : World) (R : Ending → World → Prop) : E pr n_0 w R = (
  pr.pcall1 .bool PP F.spec_l1In #[vI n_0, vI 0, vI 6] fun (ρ0 : Bool) =>
  bif !ρ0 then (
  pr.sem1 .sl PP (Instr.buildSlice T_Sstring 0 #[]) w fun (ρ1 : Sl) ω2 =>
  R (.returned (Sl.v ρ1)) ω2)
  else (
  pr.sem1 .sl PP (Instr.buildSlice T_Sstring 0 #[]) w fun (ρ3 : Sl) ω4 =>
  pr.call1 .sl PP F.spec_l18Fill #[vI n_0, .string (⟨#[]⟩ : ByteArray), vI 0, Sl.v ρ3] ω4 fun (ρ5 : Sl) ω6 =>
  R (.returned (Sl.v ρ5)) ω6)) := by kernel_rfl
theorem E_s (n_0 : Int) (w : World) (R : Ending → World → Prop) : E std n_0 w R = (
  pcall1 .bool PP F.spec_l1In #[vI n_0, vI 0, vI 6] fun (ρ0 : Bool) =>
  bif !ρ0 then (
  sem1 .sl PP (Instr.buildSlice T_Sstring 0 #[]) w fun (ρ1 : Sl) ω2 =>
  R (.returned (Sl.v ρ1)) ω2)
  else (
  sem1 .sl PP (Instr.buildSlice T_Sstring 0 #[]) w fun (ρ3 : Sl) ω4 =>
  call1 .sl PP F.spec_l18Fill #[vI n_0, .string (⟨#[]⟩ : ByteArray), vI 0, Sl.v ρ3] ω4 fun (ρ5 : Sl) ω6 =>
  R (.returned (Sl.v ρ5)) ω6)) := E_eq std n_0 w R
theorem drawsOk : drawsOk PP cfg okD (codeOf Try.f46) = true := by kernel_rfl
theorem calls (n_0 : Int) {w : World} {R : Ending → World → Prop} (h : E std n_0 w R) : Calls PP F.spec_PathsOf #[vI n_0] w R :=
  calls_of noCount mixed drawOk Try.func46 rfl (c := cfg) (args := [vI n_0]) rfl (Nat.le_of_ble_eq_true (by kernel_rfl)) drawsOk h
end spec_PathsOf

namespace spec_l18Fill
@[reducible] def cfg : Cfg := ⟨40, [], [], [(5, [0, 1, 2, 3]), (7, [3])], [8], [], [91, 60, 17, 21, 24, 26, 65, 27, 82, 64, 85, 108, 78, 53, 51], [86, 52, 88]⟩
def q4 (pr : Prims) (R : Ending → World → Prop) : Exit → Env → World → Prop := fun ex e w => normQ ex (fun e w => contE pr cfg (sub (codeOf Try.f87) [1, 1, 1]) (fun e w => wpC pr PP cfg (DD pr) (sub (codeOf Try.f87) [1, 1, 1]) (retQ Try.f87.results.toList R) e w) e w) (retQ Try.f87.results.toList R) e w
def q7 (pr : Prims) (R : Ending → World → Prop) : Exit → Env → World → Prop := fun ex e w => normQ ex (fun e w => contE pr cfg (sub (codeOf Try.f87) [1, 1, 1, 1]) (fun e w => wpC pr PP cfg (DD pr) (sub (codeOf Try.f87) [1, 1, 1, 1]) (retQ Try.f87.results.toList R) e w) e w) (retQ Try.f87.results.toList R) e w
def j5 (n_0 : Int) (head_1 : ByteArray) (up_2 : Int) (out_3 : Sl) : Env := [(0, vI n_0), (1, .string head_1), (2, vI up_2), (3, Sl.v out_3)]
def j7 (out_3 : Sl) : Env := [(3, Sl.v out_3)]
def J7 (pr : Prims) (out_3 : Sl) (w : World) (R : Ending → World → Prop) : Prop :=
  pr.seg (fun e w => wpC pr PP cfg (DD pr) (sub (codeOf Try.f87) [1, 1, 1, 1]) (retQ Try.f87.results.toList R) e w) (j7 out_3) w
def J5 (pr : Prims) (n_0 : Int) (head_1 : ByteArray) (up_2 : Int) (out_3 : Sl) (w : World) (R : Ending → World → Prop) : Prop :=
  pr.seg (fun e w => wpC pr PP cfg (DD pr) (sub (codeOf Try.f87) [1, 1, 1]) (retQ Try.f87.results.toList R) e w) (j5 n_0 head_1 up_2 out_3) w
def E (pr : Prims) (n_0 : Int) (head_1 : ByteArray) (up_2 : Int) (out_3 : Sl) (w : World) (R : Ending → World → Prop) : Prop :=
  wpC pr PP cfg (DD pr) (codeOf Try.f87) (retQ Try.f87.results.toList R) (argE 0 [vI n_0, .string head_1, vI up_2, Sl.v out_3]) w
theorem J7_gen (pr : Prims) (out_3 : Sl) (w : World) (R : Ending → World → Prop) : wpC pr PP cfg (DD pr) (sub (codeOf Try.f87) [1, 1, 1, 1]) (retQ Try.f87.results.toList R) (j7 out_3) w = (
  R (.returned (Sl.v out_3)) w) := by kernel_rfl
theorem J7_s (out_3 : Sl) (w : World) (R : Ending → World → Prop) : J7 std out_3 w R = (
  R (.returned (Sl.v out_3)) w) := J7_gen std out_3 w R
theorem J5_gen (pr : Prims) (n_0 : Int) (head_1 : ByteArray) (up_2 : Int) (out_3 : Sl) (w : World) (R : Ending → World → Prop) : wpC pr PP cfg (DD pr) (sub (codeOf Try.f87) [1, 1, 1]) (retQ Try.f87.results.toList R) (j5 n_0 head_1 up_2 out_3) w = (
  bif decide (up_2 < n_0) then (
  ((head_1.size + (⟨#[85]⟩ : ByteArray).size : Nat) : Int) ≤ IntKind.i64.max ∧
  pr.call1 .sl PP F.spec_l18Fill #[vI n_0, .string (head_1 ++ (⟨#[85]⟩ : ByteArray)), vI (w64 (up_2 + 1)), Sl.v out_3] w fun (ρ8 : Sl) ω9 =>
  J7 pr ρ8 ω9 R)
  else (
  J7 pr out_3 w R)) := by kernel_rfl
theorem J5_s (n_0 : Int) (head_1 : ByteArray) (up_2 : Int) (out_3 : Sl) (w : World) (R : Ending → World → Prop) : J5 std n_0 head_1 up_2 out_3 w R = (
  bif decide (up_2 < n_0) then (
  ((head_1.size + (⟨#[85]⟩ : ByteArray).size : Nat) : Int) ≤ IntKind.i64.max ∧
  call1 .sl PP F.spec_l18Fill #[vI n_0, .string (head_1 ++ (⟨#[85]⟩ : ByteArray)), vI (w64 (up_2 + 1)), Sl.v out_3] w fun (ρ8 : Sl) ω9 =>
  J7 std ρ8 ω9 R)
  else (
  J7 std out_3 w R)) := J5_gen std n_0 head_1 up_2 out_3 w R
theorem E_eq (pr : Prims) (n_0 : Int) (head_1 : ByteArray) (up_2 : Int) (out_3 : Sl) (w : World) (R : Ending → World → Prop) : E pr n_0 head_1 up_2 out_3 w R = (
  bif (head_1.size : Int) == (w64 (2 * n_0)) then (
  pr.sem1 .sl PP (Instr.buildSlice T_Sstring 1 #[(0, .string head_1)]) w fun (ρ0 : Sl) ω1 =>
  pr.sem1 .sl PP (Builtin.append_ #[T_Sstring, T_Sstring] T_Sstring #[Sl.v out_3, Sl.v ρ0]) ω1 fun (ρ2 : Sl) ω3 =>
  R (.returned (Sl.v ρ2)) ω3)
  else (
  bif decide ((w64 (2 * up_2)) > (head_1.size : Int)) then (
  ((head_1.size + (⟨#[68]⟩ : ByteArray).size : Nat) : Int) ≤ IntKind.i64.max ∧
  pr.call1 .sl PP F.spec_l18Fill #[vI n_0, .string (head_1 ++ (⟨#[68]⟩ : ByteArray)), vI up_2, Sl.v out_3] w fun (ρ5 : Sl) ω6 =>
  J5 pr n_0 head_1 up_2 ρ5 ω6 R)
  else (
  J5 pr n_0 head_1 up_2 out_3 w R))) := by kernel_rfl
theorem E_s (n_0 : Int) (head_1 : ByteArray) (up_2 : Int) (out_3 : Sl) (w : World) (R : Ending → World → Prop) : E std n_0 head_1 up_2 out_3 w R = (
  bif (head_1.size : Int) == (w64 (2 * n_0)) then (
  sem1 .sl PP (Instr.buildSlice T_Sstring 1 #[(0, .string head_1)]) w fun (ρ0 : Sl) ω1 =>
  sem1 .sl PP (Builtin.append_ #[T_Sstring, T_Sstring] T_Sstring #[Sl.v out_3, Sl.v ρ0]) ω1 fun (ρ2 : Sl) ω3 =>
  R (.returned (Sl.v ρ2)) ω3)
  else (
  bif decide ((w64 (2 * up_2)) > (head_1.size : Int)) then (
  ((head_1.size + (⟨#[68]⟩ : ByteArray).size : Nat) : Int) ≤ IntKind.i64.max ∧
  call1 .sl PP F.spec_l18Fill #[vI n_0, .string (head_1 ++ (⟨#[68]⟩ : ByteArray)), vI up_2, Sl.v out_3] w fun (ρ5 : Sl) ω6 =>
  J5 std n_0 head_1 up_2 ρ5 ω6 R)
  else (
  J5 std n_0 head_1 up_2 out_3 w R))) := E_eq std n_0 head_1 up_2 out_3 w R
theorem drawsOk : drawsOk PP cfg okD (codeOf Try.f87) = true := by kernel_rfl
theorem calls (n_0 : Int) (head_1 : ByteArray) (up_2 : Int) (out_3 : Sl) {w : World} {R : Ending → World → Prop} (h : E std n_0 head_1 up_2 out_3 w R) : Calls PP F.spec_l18Fill #[vI n_0, .string head_1, vI up_2, Sl.v out_3] w R :=
  calls_of noCount mixed drawOk Try.func87 rfl (c := cfg) (args := [vI n_0, .string head_1, vI up_2, Sl.v out_3]) rfl (Nat.le_of_ble_eq_true (by kernel_rfl)) drawsOk h
end spec_l18Fill

namespace impl_PathsOf
@[reducible] def cfg : Cfg := ⟨49, [(8, [0, 4, 13, 14, 17, 18, 19]), (5, [0, 3, 13, 14])], [(3, [0, 4, 13, 14, 17, 18, 19]), (2, [0, 4, 13, 14]), (1, [0, 3, 13, 14]), (0, [3])], [(13, [0, 4, 6, 7, 13, 14, 17, 18, 19])], [2], [], [91, 60, 17, 21, 24, 26, 65, 27, 82, 64, 85, 108, 78, 53, 51], [86, 52, 88]⟩
def q3 (pr : Prims) (R : Ending → World → Prop) : Exit → Env → World → Prop := fun ex e w => normQ ex (fun e w => contE pr cfg (sub (codeOf Try.f47) [1, 1, 1, 1]) (fun e w => wpC pr PP cfg (DD pr) (sub (codeOf Try.f47) [1, 1, 1, 1]) (retQ Try.f47.results.toList R) e w) e w) (retQ Try.f47.results.toList R) e w
def q4 (pr : Prims) (R : Ending → World → Prop) : Exit → Env → World → Prop := fun ex e w => blockQ ex 0 (q3 pr R) e w
def q5 (pr : Prims) (k : Env → World → Prop) (Q : Exit → Env → World → Prop) : Exit → Env → World → Prop := fun ex e w => normQ ex (fun e w => contE pr cfg (sub (codeOf Try.f47) [1, 1, 1, 0, 1, 0, 0, 1, 1, 1]) (fun e w => wpC pr PP cfg (DD pr) (sub (codeOf Try.f47) [1, 1, 1, 0, 1, 0, 0, 1, 1, 1]) (fun ex e w => normQ ex (fun e' w' => k (Env.restr e' (lookN cfg.loops (keyOf (sub (codeOf Try.f47) [1, 1, 1, 0, 1, 0, 0])))) w') Q e w) e w) e w) (fun ex e w => normQ ex (fun e' w' => k (Env.restr e' (lookN cfg.loops (keyOf (sub (codeOf Try.f47) [1, 1, 1, 0, 1, 0, 0])))) w') Q e w) e w
def q6 (pr : Prims) (k : Env → World → Prop) (Q : Exit → Env → World → Prop) : Exit → Env → World → Prop := fun ex e w => blockQ ex 1 (q5 pr k Q) e w
def q9 (pr : Prims) (k : Env → World → Prop) (Q : Exit → Env → World → Prop) : Exit → Env → World → Prop := fun ex e w => normQ ex (fun e w => contE pr cfg (sub (codeOf Try.f47) [1, 1, 1, 0, 1, 0, 0, 1, 1, 0, 0, 1, 1]) (fun e w => wpC pr PP cfg (DD pr) (sub (codeOf Try.f47) [1, 1, 1, 0, 1, 0, 0, 1, 1, 0, 0, 1, 1]) (q6 pr k Q) e w) e w) (q6 pr k Q) e w
def q10 (pr : Prims) (k : Env → World → Prop) (Q : Exit → Env → World → Prop) : Exit → Env → World → Prop := fun ex e w => blockQ ex 2 (q9 pr k Q) e w
def q11 (pr : Prims) (k : Env → World → Prop) (Q : Exit → Env → World → Prop) : Exit → Env → World → Prop := fun ex e w => normQ ex (fun e w => contE pr cfg (sub (codeOf Try.f47) [1, 1, 1, 0, 1, 0, 0, 1, 1, 0, 0, 1, 0, 1, 0, 0, 1, 1, 1]) (fun e w => wpC pr PP cfg (DD pr) (sub (codeOf Try.f47) [1, 1, 1, 0, 1, 0, 0, 1, 1, 0, 0, 1, 0, 1, 0, 0, 1, 1, 1]) (fun ex e w => normQ ex (fun e' w' => k (Env.restr e' (lookN cfg.loops (keyOf (sub (codeOf Try.f47) [1, 1, 1, 0, 1, 0, 0, 1, 1, 0, 0, 1, 0, 1, 0, 0])))) w') Q e w) e w) e w) (fun ex e w => normQ ex (fun e' w' => k (Env.restr e' (lookN cfg.loops (keyOf (sub (codeOf Try.f47) [1, 1, 1, 0, 1, 0, 0, 1, 1, 0, 0, 1, 0, 1, 0, 0])))) w') Q e w) e w
def q12 (pr : Prims) (k : Env → World → Prop) (Q : Exit → Env → World → Prop) : Exit → Env → World → Prop := fun ex e w => blockQ ex 3 (q11 pr k Q) e w
def q17 (pr : Prims) (k : Env → World → Prop) (Q : Exit → Env → World → Prop) : Exit → Env → World → Prop := fun ex e w => normQ ex (fun e w => contE pr cfg (sub (codeOf Try.f47) [1, 1, 1, 0, 1, 0, 0, 1, 1, 0, 0, 1, 0, 1, 0, 0, 1, 1, 0, 0, 1, 1, 1]) (fun e w => wpC pr PP cfg (DD pr) (sub (codeOf Try.f47) [1, 1, 1, 0, 1, 0, 0, 1, 1, 0, 0, 1, 0, 1, 0, 0, 1, 1, 0, 0, 1, 1, 1]) (q12 pr k Q) e w) e w) (q12 pr k Q) e w
def emb5 (n_0 : Int) (out_3 : Sl) (t13 : Int) (t14 : Int) : Env := [(0, vI n_0), (3, Sl.v out_3), (13, vI t13), (14, vI t14)]
def emb8 (n_0 : Int) (longer_4 : Sl) (t13 : Int) (t14 : Int) (t17 : Sl) (t18 : Int) (t19 : Int) : Env := [(0, vI n_0), (4, Sl.v longer_4), (13, vI t13), (14, vI t14), (17, Sl.v t17), (18, vI t18), (19, vI t19)]
def j13 (n_0 : Int) (longer_4 : Sl) (s_6 : ByteArray) (ups_7 : Int) (t13 : Int) (t14 : Int) (t17 : Sl) (t18 : Int) (t19 : Int) : Env := [(0, vI n_0), (4, Sl.v longer_4), (6, .string s_6), (7, vI ups_7), (13, vI t13), (14, vI t14), (17, Sl.v t17), (18, vI t18), (19, vI t19)]
def x2 (n_0 : Int) (longer_4 : Sl) (t13 : Int) (t14 : Int) : Env := [(0, vI n_0), (4, Sl.v longer_4), (13, vI t13), (14, vI t14)]
def x0 (out_3 : Sl) : Env := [(3, Sl.v out_3)]
def S8 (pr : Prims) (Q : Exit → Env → World → Prop) : (Env → World → Prop) → Env → World → Prop := fun k e w => wpC pr PP cfg (DD pr) (sub (codeOf Try.f47) [1, 1, 1, 0, 1, 0, 0, 1, 1, 0, 0, 1, 0, 1, 0, 0]) (fun ex e w => normQ ex (fun e' w' => k (Env.restr e' (lookN cfg.loops (keyOf (sub (codeOf Try.f47) [1, 1, 1, 0, 1, 0, 0, 1, 1, 0, 0, 1, 0, 1, 0, 0])))) w') Q e w) e w
def S5 (pr : Prims) (Q : Exit → Env → World → Prop) : (Env → World → Prop) → Env → World → Prop := fun k e w => wpC pr PP cfg (DD pr) (sub (codeOf Try.f47) [1, 1, 1, 0, 1, 0, 0]) (fun ex e w => normQ ex (fun e' w' => k (Env.restr e' (lookN cfg.loops (keyOf (sub (codeOf Try.f47) [1, 1, 1, 0, 1, 0, 0])))) w') Q e w) e w
def J13 (pr : Prims) (n_0 : Int) (longer_4 : Sl) (s_6 : ByteArray) (ups_7 : Int) (t13 : Int) (t14 : Int) (t17 : Sl) (t18 : Int) (t19 : Int) (w : World) (k : Env → World → Prop) (Q : Exit → Env → World → Prop) : Prop :=
  pr.seg (fun e w => wpC pr PP cfg (DD pr) (sub (codeOf Try.f47) [1, 1, 1, 0, 1, 0, 0, 1, 1, 0, 0, 1, 0, 1, 0, 0, 1, 1, 0, 0, 1, 1, 1]) (q12 pr k Q) e w) (j13 n_0 longer_4 s_6 ups_7 t13 t14 t17 t18 t19) w
def B8 (pr : Prims) (n_0 : Int) (longer_4 : Sl) (t13 : Int) (t14 : Int) (t17 : Sl) (t18 : Int) (t19 : Int) (w : World) (k : Env → World → Prop) (Q : Exit → Env → World → Prop) : Prop :=
  S8 pr Q k (emb8 n_0 longer_4 t13 t14 t17 t18 t19) w
def L8 (pr : Prims) (n_0 : Int) (longer_4 : Sl) (t13 : Int) (t14 : Int) (t17 : Sl) (t18 : Int) (t19 : Int) (w : World) (Q : Exit → Env → World → Prop) : Prop :=
  pr.loop (S8 pr Q) (emb8 n_0 longer_4 t13 t14 t17 t18 t19) w
def B5 (pr : Prims) (n_0 : Int) (out_3 : Sl) (t13 : Int) (t14 : Int) (w : World) (k : Env → World → Prop) (Q : Exit → Env → World → Prop) : Prop :=
  S5 pr Q k (emb5 n_0 out_3 t13 t14) w
def L5 (pr : Prims) (n_0 : Int) (out_3 : Sl) (t13 : Int) (t14 : Int) (w : World) (Q : Exit → Env → World → Prop) : Prop :=
  pr.loop (S5 pr Q) (emb5 n_0 out_3 t13 t14) w
def E (pr : Prims) (n_0 : Int) (w : World) (R : Ending → World → Prop) : Prop :=
  wpC pr PP cfg (DD pr) (codeOf Try.f47) (retQ Try.f47.results.toList R) (argE 0 [vI n_0]) w
theorem J13_gen (pr : Prims) (n_0 : Int) (longer_4 : Sl) (s_6 : ByteArray) (ups_7 : Int) (t13 : Int) (t14 : Int) (t17 : Sl) (t18 : Int) (t19 : Int) (w : World) (k : Env → World → Prop) (Q : Exit → Env → World → Prop) : wpC pr PP cfg (DD pr) (sub (codeOf Try.f47) [1, 1, 1, 0, 1, 0, 0, 1, 1, 0, 0, 1, 0, 1, 0, 0, 1, 1, 0, 0, 1, 1, 1]) (q12 pr k Q) (j13 n_0 longer_4 s_6 ups_7 t13 t14 t17 t18 t19) w = (
  bif decide (ups_7 < n_0) then (
  ((s_6.size + (⟨#[85]⟩ : ByteArray).size : Nat) : Int) ≤ IntKind.i64.max ∧
  pr.sem1 .sl PP (Instr.buildSlice T_Sstring 1 #[(0, .string (s_6 ++ (⟨#[85]⟩ : ByteArray)))]) w fun (ρ22 : Sl) ω23 =>
  pr.sem1 .sl PP (Builtin.append_ #[T_Sstring, T_Sstring] T_Sstring #[Sl.v longer_4, Sl.v ρ22]) ω23 fun (ρ24 : Sl) ω25 =>
  k (emb8 n_0 ρ24 t13 t14 t17 t18 (w64 (t19 + 1))) ω25)
  else (
  k (emb8 n_0 longer_4 t13 t14 t17 t18 (w64 (t19 + 1))) w)) := by kernel_rfl
theorem J13_s (n_0 : Int) (longer_4 : Sl) (s_6 : ByteArray) (ups_7 : Int) (t13 : Int) (t14 : Int) (t17 : Sl) (t18 : Int) (t19 : Int) (w : World) (k : Env → World → Prop) (Q : Exit → Env → World → Prop) : J13 std n_0 longer_4 s_6 ups_7 t13 t14 t17 t18 t19 w k Q = (
  bif decide (ups_7 < n_0) then (
  ((s_6.size + (⟨#[85]⟩ : ByteArray).size : Nat) : Int) ≤ IntKind.i64.max ∧
  sem1 .sl PP (Instr.buildSlice T_Sstring 1 #[(0, .string (s_6 ++ (⟨#[85]⟩ : ByteArray)))]) w fun (ρ22 : Sl) ω23 =>
  sem1 .sl PP (Builtin.append_ #[T_Sstring, T_Sstring] T_Sstring #[Sl.v longer_4, Sl.v ρ22]) ω23 fun (ρ24 : Sl) ω25 =>
  k (emb8 n_0 ρ24 t13 t14 t17 t18 (w64 (t19 + 1))) ω25)
  else (
  k (emb8 n_0 longer_4 t13 t14 t17 t18 (w64 (t19 + 1))) w)) := J13_gen std n_0 longer_4 s_6 ups_7 t13 t14 t17 t18 t19 w k Q
theorem B8_eq (pr : Prims) (n_0 : Int) (longer_4 : Sl) (t13 : Int) (t14 : Int) (t17 : Sl) (t18 : Int) (t19 : Int) (w : World) (k : Env → World → Prop) (Q : Exit → Env → World → Prop) : B8 pr n_0 longer_4 t13 t14 t17 t18 t19 w k Q = (
  bif decide (t19 < t18) then (
  pr.idxK 1 t17 t19 fun (a13 : Addr) =>
  pr.load1 .str a13 w fun (ξ14 : ByteArray) =>
  pr.call1 (.int .i64) PP F.strings_Count #[.string ξ14, .string (⟨#[85]⟩ : ByteArray)] w fun (ρ15 : Int) ω16 =>
  bif decide ((w64 (2 * ρ15)) > (ξ14.size : Int)) then (
  ((ξ14.size + (⟨#[68]⟩ : ByteArray).size : Nat) : Int) ≤ IntKind.i64.max ∧
  pr.sem1 .sl PP (Instr.buildSlice T_Sstring 1 #[(0, .string (ξ14 ++ (⟨#[68]⟩ : ByteArray)))]) ω16 fun (ρ18 : Sl) ω19 =>
  pr.sem1 .sl PP (Builtin.append_ #[T_Sstring, T_Sstring] T_Sstring #[Sl.v longer_4, Sl.v ρ18]) ω19 fun (ρ20 : Sl) ω21 =>
  J13 pr n_0 ρ20 ξ14 ρ15 t13 t14 t17 t18 t19 ω21 k Q)
  else (
  J13 pr n_0 longer_4 ξ14 ρ15 t13 t14 t17 t18 t19 ω16 k Q))
  else (
  Q (.exit 2) (x2 n_0 longer_4 t13 t14) w)) := by kernel_rfl
theorem B8_s (n_0 : Int) (longer_4 : Sl) (t13 : Int) (t14 : Int) (t17 : Sl) (t18 : Int) (t19 : Int) (w : World) (k : Env → World → Prop) (Q : Exit → Env → World → Prop) : B8 std n_0 longer_4 t13 t14 t17 t18 t19 w k Q = (
  bif decide (t19 < t18) then (
  idxK 1 t17 t19 fun (a13 : Addr) =>
  load1 .str a13 w fun (ξ14 : ByteArray) =>
  call1 (.int .i64) PP F.strings_Count #[.string ξ14, .string (⟨#[85]⟩ : ByteArray)] w fun (ρ15 : Int) ω16 =>
  bif decide ((w64 (2 * ρ15)) > (ξ14.size : Int)) then (
  ((ξ14.size + (⟨#[68]⟩ : ByteArray).size : Nat) : Int) ≤ IntKind.i64.max ∧
  sem1 .sl PP (Instr.buildSlice T_Sstring 1 #[(0, .string (ξ14 ++ (⟨#[68]⟩ : ByteArray)))]) ω16 fun (ρ18 : Sl) ω19 =>
  sem1 .sl PP (Builtin.append_ #[T_Sstring, T_Sstring] T_Sstring #[Sl.v longer_4, Sl.v ρ18]) ω19 fun (ρ20 : Sl) ω21 =>
  J13 std n_0 ρ20 ξ14 ρ15 t13 t14 t17 t18 t19 ω21 k Q)
  else (
  J13 std n_0 longer_4 ξ14 ρ15 t13 t14 t17 t18 t19 ω16 k Q))
  else (
  Q (.exit 2) (x2 n_0 longer_4 t13 t14) w)) := B8_eq std n_0 longer_4 t13 t14 t17 t18 t19 w k Q
theorem L8_rule (n_0 : Int) (longer_4 : Sl) (t13 : Int) (t14 : Int) (t17 : Sl) (t18 : Int) (t19 : Int) (w : World) (Q : Exit → Env → World → Prop) (I : Sl → Int → World → Prop) (μ : Sl → Int → World → Nat) (h0 : I longer_4 t19 w)
    (h : ∀ (longer_4 : Sl) (t19 : Int) (w' : World), I longer_4 t19 w' → B8 std n_0 longer_4 t13 t14 t17 t18 t19 w' (fun e2 w2 => ∃ longer_4_n t19_n, e2 = emb8 n_0 longer_4_n t13 t14 t17 t18 t19_n ∧ I longer_4_n t19_n w2 ∧ μ longer_4_n t19_n w2 < μ longer_4 t19 w') Q) :
    L8 std n_0 longer_4 t13 t14 t17 t18 t19 w Q := by
  unfold L8
  refine LoopE.intro (σ := Sl × Int) (step := S8 std Q) (fun s => emb8 n_0 s.1 t13 t14 t17 t18 s.2) (fun s w => I s.1 s.2 w) (fun s w => μ s.1 s.2 w) (longer_4, t19) rfl h0 ?_
  intro s w' hI
  have h1 := h s.1 s.2 w' hI
  unfold B8 at h1
  simp only [Prod.exists]
  exact h1
theorem A8_2_eq (pr : Prims) (n_0 : Int) (longer_4 : Sl) (t13 : Int) (t14 : Int) (w : World) (k : Env → World → Prop) (Q : Exit → Env → World → Prop) : (q10 pr k Q) (.exit 2) (x2 n_0 longer_4 t13 t14) w = (
  k (emb5 n_0 longer_4 t13 (w64 (t14 + 1))) w) := by kernel_rfl
theorem A8_2_s (n_0 : Int) (longer_4 : Sl) (t13 : Int) (t14 : Int) (w : World) (k : Env → World → Prop) (Q : Exit → Env → World → Prop) : (q10 std k Q) (.exit 2) (x2 n_0 longer_4 t13 t14) w = (
  k (emb5 n_0 longer_4 t13 (w64 (t14 + 1))) w) := A8_2_eq std n_0 longer_4 t13 t14 w k Q
theorem B5_eq (pr : Prims) (n_0 : Int) (out_3 : Sl) (t13 : Int) (t14 : Int) (w : World) (k : Env → World → Prop) (Q : Exit → Env → World → Prop) : B5 pr n_0 out_3 t13 t14 w k Q = (
  bif decide (t14 < t13) then (
  pr.sem1 .sl PP (Instr.buildSlice T_Sstring 0 #[]) w fun (ρ7 : Sl) ω8 =>
  L8 pr n_0 ρ7 t13 t14 out_3 (out_3.n : Int) 0 ω8 (q10 pr k Q))
  else (
  Q (.exit 0) (x0 out_3) w)) := by kernel_rfl
theorem B5_s (n_0 : Int) (out_3 : Sl) (t13 : Int) (t14 : Int) (w : World) (k : Env → World → Prop) (Q : Exit → Env → World → Prop) : B5 std n_0 out_3 t13 t14 w k Q = (
  bif decide (t14 < t13) then (
  sem1 .sl PP (Instr.buildSlice T_Sstring 0 #[]) w fun (ρ7 : Sl) ω8 =>
  L8 std n_0 ρ7 t13 t14 out_3 (out_3.n : Int) 0 ω8 (q10 std k Q))
  else (
  Q (.exit 0) (x0 out_3) w)) := B5_eq std n_0 out_3 t13 t14 w k Q
theorem L5_rule (n_0 : Int) (out_3 : Sl) (t13 : Int) (t14 : Int) (w : World) (Q : Exit → Env → World → Prop) (I : Sl → Int → World → Prop) (μ : Sl → Int → World → Nat) (h0 : I out_3 t14 w)
    (h : ∀ (out_3 : Sl) (t14 : Int) (w' : World), I out_3 t14 w' → B5 std n_0 out_3 t13 t14 w' (fun e2 w2 => ∃ out_3_n t14_n, e2 = emb5 n_0 out_3_n t13 t14_n ∧ I out_3_n t14_n w2 ∧ μ out_3_n t14_n w2 < μ out_3 t14 w') Q) :
    L5 std n_0 out_3 t13 t14 w Q := by
  unfold L5
  refine LoopE.intro (σ := Sl × Int) (step := S5 std Q) (fun s => emb5 n_0 s.1 t13 s.2) (fun s w => I s.1 s.2 w) (fun s w => μ s.1 s.2 w) (out_3, t14) rfl h0 ?_
  intro s w' hI
  have h1 := h s.1 s.2 w' hI
  unfold B5 at h1
  simp only [Prod.exists]
  exact h1
theorem A5_0_eq (pr : Prims) (out_3 : Sl) (w : World) (R : Ending → World → Prop) : (q4 pr R) (.exit 0) (x0 out_3) w = (
  pr.call0  PP F.slices_Sort___string_string_ #[Sl.v out_3] w fun ω26 =>
  R (.returned (Sl.v out_3)) ω26) := by kernel_rfl
theorem A5_0_s (out_3 : Sl) (w : World) (R : Ending → World → Prop) : (q4 std R) (.exit 0) (x0 out_3) w = (
  call0  PP F.slices_Sort___string_string_ #[Sl.v out_3] w fun ω26 =>
  R (.returned (Sl.v out_3)) ω26) := A5_0_eq std out_3 w R
theorem E_eq (pr : Prims) (n_0 : Int) (w : World) (R : Ending → World → Prop) : E pr n_0 w R = (
  pr.pcall1 .bool PP F.impl_isSix #[vI n_0] fun (ρ0 : Bool) =>
  bif !ρ0 then (
  R (.returned (Sl.v Sl.nil)) w)
  else (
  pr.sem1 .sl PP (Instr.buildSlice T_Sstring 1 #[(0, .string (⟨#[]⟩ : ByteArray))]) w fun (ρ1 : Sl) ω2 =>
  L5 pr n_0 ρ1 (w64 (2 * n_0)) 0 ω2 (q4 pr R))) := by kernel_rfl
theorem E_s (n_0 : Int) (w : World) (R : Ending → World → Prop) : E std n_0 w R = (
  pcall1 .bool PP F.impl_isSix #[vI n_0] fun (ρ0 : Bool) =>
  bif !ρ0 then (
  R (.returned (Sl.v Sl.nil)) w)
  else (
  sem1 .sl PP (Instr.buildSlice T_Sstring 1 #[(0, .string (⟨#[]⟩ : ByteArray))]) w fun (ρ1 : Sl) ω2 =>
  L5 std n_0 ρ1 (w64 (2 * n_0)) 0 ω2 (q4 std R))) := E_eq std n_0 w R
theorem drawsOk : drawsOk PP cfg okD (codeOf Try.f47) = true := by kernel_rfl
theorem calls (n_0 : Int) {w : World} {R : Ending → World → Prop} (h : E std n_0 w R) : Calls PP F.impl_PathsOf #[vI n_0] w R :=
  calls_of noCount mixed drawOk Try.func47 rfl (c := cfg) (args := [vI n_0]) rfl (Nat.le_of_ble_eq_true (by kernel_rfl)) drawsOk h
end impl_PathsOf

namespace impl_isSix
@[reducible] def cfg : Cfg := ⟨9, [], [], [], [2], [], [91, 60, 17, 21, 24, 26, 65, 27, 82, 64, 85, 108, 78, 53, 51], [86, 52, 88]⟩
def E (pr : Prims) (n_0 : Int) (w : World) (R : Ending → World → Prop) : Prop :=
  wpC pr PP cfg (DD pr) (codeOf Try.f88) (retQ Try.f88.results.toList R) (argE 0 [vI n_0]) w
theorem E_eq (pr : Prims) (n_0 : Int) (w : World) (R : Ending → World → Prop) : E pr n_0 w R = (
  bif decide (n_0 ≥ 0) then (
  R (.returned (.bool (decide (n_0 ≤ 6)))) w)
  else (
  R (.returned (.bool false)) w)) := by kernel_rfl
theorem E_s (n_0 : Int) (w : World) (R : Ending → World → Prop) : E std n_0 w R = (
  bif decide (n_0 ≥ 0) then (
  R (.returned (.bool (decide (n_0 ≤ 6)))) w)
  else (
  R (.returned (.bool false)) w)) := E_eq std n_0 w R
theorem drawsOk : drawsOk PP cfg okD (codeOf Try.f88) = true := by kernel_rfl
theorem calls (n_0 : Int) {w : World} {R : Ending → World → Prop} (h : E std n_0 w R) : Calls PP F.impl_isSix #[vI n_0] w R :=
  calls_of noCount mixed drawOk Try.func88 rfl (c := cfg) (args := [vI n_0]) rfl (Nat.le_of_ble_eq_true (by kernel_rfl)) drawsOk h
end impl_isSix

namespace laws_FnExactPathsOf
@[reducible] def cfg : Cfg := ⟨41, [], [], [], [2], [], [91, 60, 17, 21, 24, 26, 65, 27, 82, 64, 85, 108, 78, 53, 51], [86, 52, 88]⟩
def E (pr : Prims) (aN_0 : Int) (w : World) (R : Ending → World → Prop) : Prop :=
  wpC pr PP cfg (DD pr) (codeOf Try.f13) (retQ Try.f13.results.toList R) (argE 0 [vI aN_0]) w
theorem E_eq (pr : Prims) (aN_0 : Int) (w : World) (R : Ending → World → Prop) : E pr aN_0 w R = (
  pr.call1 .sl PP F.spec_PathsOf #[vI aN_0] w fun (ρ0 : Sl) ω1 =>
  pr.call1 .sl PP F.impl_PathsOf #[vI aN_0] ω1 fun (ρ2 : Sl) ω3 =>
  pr.call1 .bool PP F.laws_eqStringS #[Sl.v ρ2, Sl.v ρ0] ω3 fun (ρ4 : Bool) ω5 =>
  bif !ρ4 then (
  R (.returned (.bool false)) ω5)
  else (
  pr.call1 (.int .i64) PP F.laws_markStringS #[Sl.v ρ2, vI 1] ω5 fun (ρ6 : Int) ω7 =>
  pr.call1 (.int .i64) PP F.laws_heldStringS #[Sl.v ρ2, vI 1] ω7 fun (ρ8 : Int) ω9 =>
  bif decide (ρ8 < 0) then (
  R (.returned (.bool false)) ω9)
  else (
  bif ρ8 != ρ6 then (
  R (.returned (.bool false)) ω9)
  else (
  pr.call1 .sl PP F.impl_PathsOf #[vI aN_0] ω9 fun (ρ10 : Sl) ω11 =>
  pr.call1 .bool PP F.laws_eqStringS #[Sl.v ρ10, Sl.v ρ0] ω11 fun (ρ12 : Bool) ω13 =>
  bif !ρ12 then (
  R (.returned (.bool false)) ω13)
  else (
  pr.call1 (.int .i64) PP F.laws_heldStringS #[Sl.v ρ2, vI 1] ω13 fun (ρ14 : Int) ω15 =>
  bif decide (ρ14 < 0) then (
  R (.returned (.bool false)) ω15)
  else (
  bif ρ14 != ρ6 then (
  R (.returned (.bool false)) ω15)
  else (
  R (.returned (.bool true)) ω15))))))) := by kernel_rfl
theorem E_s (aN_0 : Int) (w : World) (R : Ending → World → Prop) : E std aN_0 w R = (
  call1 .sl PP F.spec_PathsOf #[vI aN_0] w fun (ρ0 : Sl) ω1 =>
  call1 .sl PP F.impl_PathsOf #[vI aN_0] ω1 fun (ρ2 : Sl) ω3 =>
  call1 .bool PP F.laws_eqStringS #[Sl.v ρ2, Sl.v ρ0] ω3 fun (ρ4 : Bool) ω5 =>
  bif !ρ4 then (
  R (.returned (.bool false)) ω5)
  else (
  call1 (.int .i64) PP F.laws_markStringS #[Sl.v ρ2, vI 1] ω5 fun (ρ6 : Int) ω7 =>
  call1 (.int .i64) PP F.laws_heldStringS #[Sl.v ρ2, vI 1] ω7 fun (ρ8 : Int) ω9 =>
  bif decide (ρ8 < 0) then (
  R (.returned (.bool false)) ω9)
  else (
  bif ρ8 != ρ6 then (
  R (.returned (.bool false)) ω9)
  else (
  call1 .sl PP F.impl_PathsOf #[vI aN_0] ω9 fun (ρ10 : Sl) ω11 =>
  call1 .bool PP F.laws_eqStringS #[Sl.v ρ10, Sl.v ρ0] ω11 fun (ρ12 : Bool) ω13 =>
  bif !ρ12 then (
  R (.returned (.bool false)) ω13)
  else (
  call1 (.int .i64) PP F.laws_heldStringS #[Sl.v ρ2, vI 1] ω13 fun (ρ14 : Int) ω15 =>
  bif decide (ρ14 < 0) then (
  R (.returned (.bool false)) ω15)
  else (
  bif ρ14 != ρ6 then (
  R (.returned (.bool false)) ω15)
  else (
  R (.returned (.bool true)) ω15))))))) := E_eq std aN_0 w R
theorem drawsOk : drawsOk PP cfg okD (codeOf Try.f13) = true := by kernel_rfl
theorem calls (aN_0 : Int) {w : World} {R : Ending → World → Prop} (h : E std aN_0 w R) : Calls PP F.laws_FnExactPathsOf #[vI aN_0] w R :=
  calls_of noCount mixed drawOk Try.func13 rfl (c := cfg) (args := [vI aN_0]) rfl (Nat.le_of_ble_eq_true (by kernel_rfl)) drawsOk h
end laws_FnExactPathsOf

end Go.Proofs.Ytfainpmcdfckkaa
