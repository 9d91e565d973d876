/- The texts CodePs, CodeSt, Str, Shelf, ShelfS, Ps, CodeKn, Choose, CodeHp, Hp, Nd, PaFacts, CodeGP, CodePk1, Dr, Pick, CodeRe, CodeLo, Lows, CodeSo, Sort, Ins15, RestMath, CodeFu, FuI in one (gmerge.py). -/
import Derived.Laws.BytesArg
import Derived.Sort.OwnSorted
import Derived.Shelf.Strings.Count
import Derived.Shelf.LaysM
import Derived.Test.YtlcemelmnkipmaaGreatProg
import Derived.Shelf.Sort.Plain
import Derived.Shelf.Slices.In.SortNone
import Derived.Sort.OwnSortedInts
import Derived.Test.YtlcemelmnkipmaaGreatPaM3
/- What each function does, step by step, written by a program (Gen.lean); each equation is checked by the kernel. -/
namespace Go.Proofs.YtlcemelmnkipmaaGreat
open Go
set_option linter.unusedVariables false
set_option maxRecDepth 100000
namespace spec_PathsOf
@[reducible] def cfg : Cfg := ⟨10, [], [], [], [2], [], [13, 32, 63, 81], [41, 4, 46, 44, 48]⟩
def E (pr : Prims) (n_0 : Int) (w : World) (R : Ending → World → Prop) : Prop :=
  wpC pr PP cfg (DD pr) (codeOf Tryz.f15) (retQ Tryz.f15.results.toList R) (argE 0 [vI n_0]) w
theorem E_eq (pr : Prims) (n_0 : Int) (w : World) (R : Ending → World → Prop) : E pr n_0 w R = (
  pr.pcall1 .bool PP F.spec_l1In #[vI n_0, vI 0, vI 6] fun (ρ0 : Bool) =>
  bif !ρ0 then (
  pr.sem1 .sl PP (Instr.buildSlice T_Sstring 0 #[]) w fun (ρ1 : Sl) ω2 =>
  R (.returned (Sl.v ρ1)) ω2)
  else (
  pr.sem1 .sl PP (Instr.buildSlice T_Sstring 0 #[]) w fun (ρ3 : Sl) ω4 =>
  pr.call1 .sl PP F.spec_l18Fill #[vI n_0, .string (⟨#[]⟩ : ByteArray), vI 0, Sl.v ρ3] ω4 fun (ρ5 : Sl) ω6 =>
  R (.returned (Sl.v ρ5)) ω6)) := by kernel_rfl
theorem E_s (n_0 : Int) (w : World) (R : Ending → World → Prop) : E std n_0 w R = (
  pcall1 .bool PP F.spec_l1In #[vI n_0, vI 0, vI 6] fun (ρ0 : Bool) =>
  bif !ρ0 then (
  sem1 .sl PP (Instr.buildSlice T_Sstring 0 #[]) w fun (ρ1 : Sl) ω2 =>
  R (.returned (Sl.v ρ1)) ω2)
  else (
  sem1 .sl PP (Instr.buildSlice T_Sstring 0 #[]) w fun (ρ3 : Sl) ω4 =>
  call1 .sl PP F.spec_l18Fill #[vI n_0, .string (⟨#[]⟩ : ByteArray), vI 0, Sl.v ρ3] ω4 fun (ρ5 : Sl) ω6 =>
  R (.returned (Sl.v ρ5)) ω6)) := E_eq std n_0 w R
theorem drawsOk : drawsOk PP cfg okD (codeOf Tryz.f15) = true := by kernel_rfl
theorem calls (n_0 : Int) {w : World} {R : Ending → World → Prop} (h : E std n_0 w R) : Calls PP F.spec_PathsOf #[vI n_0] w R :=
  calls_of noCount mixed drawOk Tryz.func15 rfl (c := cfg) (args := [vI n_0]) rfl (Nat.le_of_ble_eq_true (by kernel_rfl)) drawsOk h
end spec_PathsOf

namespace spec_l18Fill
@[reducible] def cfg : Cfg := ⟨40, [], [], [(5, [0, 1, 2, 3]), (7, [3])], [8], [], [13, 32, 63, 81], [41, 4, 46, 44, 48]⟩
def q4 (pr : Prims) (R : Ending → World → Prop) : Exit → Env → World → Prop := fun ex e w => normQ ex (fun e w => contE pr cfg (sub (codeOf Tryz.f45) [1, 1, 1]) (fun e w => wpC pr PP cfg (DD pr) (sub (codeOf Tryz.f45) [1, 1, 1]) (retQ Tryz.f45.results.toList R) e w) e w) (retQ Tryz.f45.results.toList R) e w
def q7 (pr : Prims) (R : Ending → World → Prop) : Exit → Env → World → Prop := fun ex e w => normQ ex (fun e w => contE pr cfg (sub (codeOf Tryz.f45) [1, 1, 1, 1]) (fun e w => wpC pr PP cfg (DD pr) (sub (codeOf Tryz.f45) [1, 1, 1, 1]) (retQ Tryz.f45.results.toList R) e w) e w) (retQ Tryz.f45.results.toList R) e w
def j5 (n_0 : Int) (head_1 : ByteArray) (up_2 : Int) (out_3 : Sl) : Env := [(0, vI n_0), (1, .string head_1), (2, vI up_2), (3, Sl.v out_3)]
def j7 (out_3 : Sl) : Env := [(3, Sl.v out_3)]
def J7 (pr : Prims) (out_3 : Sl) (w : World) (R : Ending → World → Prop) : Prop :=
  pr.seg (fun e w => wpC pr PP cfg (DD pr) (sub (codeOf Tryz.f45) [1, 1, 1, 1]) (retQ Tryz.f45.results.toList R) e w) (j7 out_3) w
def J5 (pr : Prims) (n_0 : Int) (head_1 : ByteArray) (up_2 : Int) (out_3 : Sl) (w : World) (R : Ending → World → Prop) : Prop :=
  pr.seg (fun e w => wpC pr PP cfg (DD pr) (sub (codeOf Tryz.f45) [1, 1, 1]) (retQ Tryz.f45.results.toList R) e w) (j5 n_0 head_1 up_2 out_3) w
def E (pr : Prims) (n_0 : Int) (head_1 : ByteArray) (up_2 : Int) (out_3 : Sl) (w : World) (R : Ending → World → Prop) : Prop :=
  wpC pr PP cfg (DD pr) (codeOf Tryz.f45) (retQ Tryz.f45.results.toList R) (argE 0 [vI n_0, .string head_1, vI up_2, Sl.v out_3]) w
theorem J7_gen (pr : Prims) (out_3 : Sl) (w : World) (R : Ending → World → Prop) : wpC pr PP cfg (DD pr) (sub (codeOf Tryz.f45) [1, 1, 1, 1]) (retQ Tryz.f45.results.toList R) (j7 out_3) w = (
  R (.returned (Sl.v out_3)) w) := by kernel_rfl
theorem J7_s (out_3 : Sl) (w : World) (R : Ending → World → Prop) : J7 std out_3 w R = (
  R (.returned (Sl.v out_3)) w) := J7_gen std out_3 w R
theorem J5_gen (pr : Prims) (n_0 : Int) (head_1 : ByteArray) (up_2 : Int) (out_3 : Sl) (w : World) (R : Ending → World → Prop) : wpC pr PP cfg (DD pr) (sub (codeOf Tryz.f45) [1, 1, 1]) (retQ Tryz.f45.results.toList R) (j5 n_0 head_1 up_2 out_3) w = (
  bif decide (up_2 < n_0) then (
  ((head_1.size + (⟨#[85]⟩ : ByteArray).size : Nat) : Int) ≤ IntKind.i64.max ∧
  pr.call1 .sl PP F.spec_l18Fill #[vI n_0, .string (head_1 ++ (⟨#[85]⟩ : ByteArray)), vI (w64 (up_2 + 1)), Sl.v out_3] w fun (ρ8 : Sl) ω9 =>
  J7 pr ρ8 ω9 R)
  else (
  J7 pr out_3 w R)) := by kernel_rfl
theorem J5_s (n_0 : Int) (head_1 : ByteArray) (up_2 : Int) (out_3 : Sl) (w : World) (R : Ending → World → Prop) : J5 std n_0 head_1 up_2 out_3 w R = (
  bif decide (up_2 < n_0) then (
  ((head_1.size + (⟨#[85]⟩ : ByteArray).size : Nat) : Int) ≤ IntKind.i64.max ∧
  call1 .sl PP F.spec_l18Fill #[vI n_0, .string (head_1 ++ (⟨#[85]⟩ : ByteArray)), vI (w64 (up_2 + 1)), Sl.v out_3] w fun (ρ8 : Sl) ω9 =>
  J7 std ρ8 ω9 R)
  else (
  J7 std out_3 w R)) := J5_gen std n_0 head_1 up_2 out_3 w R
theorem E_eq (pr : Prims) (n_0 : Int) (head_1 : ByteArray) (up_2 : Int) (out_3 : Sl) (w : World) (R : Ending → World → Prop) : E pr n_0 head_1 up_2 out_3 w R = (
  bif (head_1.size : Int) == (w64 (2 * n_0)) then (
  pr.sem1 .sl PP (Instr.buildSlice T_Sstring 1 #[(0, .string head_1)]) w fun (ρ0 : Sl) ω1 =>
  pr.sem1 .sl PP (Builtin.append_ #[T_Sstring, T_Sstring] T_Sstring #[Sl.v out_3, Sl.v ρ0]) ω1 fun (ρ2 : Sl) ω3 =>
  R (.returned (Sl.v ρ2)) ω3)
  else (
  bif decide ((w64 (2 * up_2)) > (head_1.size : Int)) then (
  ((head_1.size + (⟨#[68]⟩ : ByteArray).size : Nat) : Int) ≤ IntKind.i64.max ∧
  pr.call1 .sl PP F.spec_l18Fill #[vI n_0, .string (head_1 ++ (⟨#[68]⟩ : ByteArray)), vI up_2, Sl.v out_3] w fun (ρ5 : Sl) ω6 =>
  J5 pr n_0 head_1 up_2 ρ5 ω6 R)
  else (
  J5 pr n_0 head_1 up_2 out_3 w R))) := by kernel_rfl
theorem E_s (n_0 : Int) (head_1 : ByteArray) (up_2 : Int) (out_3 : Sl) (w : World) (R : Ending → World → Prop) : E std n_0 head_1 up_2 out_3 w R = (
  bif (head_1.size : Int) == (w64 (2 * n_0)) then (
  sem1 .sl PP (Instr.buildSlice T_Sstring 1 #[(0, .string head_1)]) w fun (ρ0 : Sl) ω1 =>
  sem1 .sl PP (Builtin.append_ #[T_Sstring, T_Sstring] T_Sstring #[Sl.v out_3, Sl.v ρ0]) ω1 fun (ρ2 : Sl) ω3 =>
  R (.returned (Sl.v ρ2)) ω3)
  else (
  bif decide ((w64 (2 * up_2)) > (head_1.size : Int)) then (
  ((head_1.size + (⟨#[68]⟩ : ByteArray).size : Nat) : Int) ≤ IntKind.i64.max ∧
  call1 .sl PP F.spec_l18Fill #[vI n_0, .string (head_1 ++ (⟨#[68]⟩ : ByteArray)), vI up_2, Sl.v out_3] w fun (ρ5 : Sl) ω6 =>
  J5 std n_0 head_1 up_2 ρ5 ω6 R)
  else (
  J5 std n_0 head_1 up_2 out_3 w R))) := E_eq std n_0 head_1 up_2 out_3 w R
theorem drawsOk : drawsOk PP cfg okD (codeOf Tryz.f45) = true := by kernel_rfl
theorem calls (n_0 : Int) (head_1 : ByteArray) (up_2 : Int) (out_3 : Sl) {w : World} {R : Ending → World → Prop} (h : E std n_0 head_1 up_2 out_3 w R) : Calls PP F.spec_l18Fill #[vI n_0, .string head_1, vI up_2, Sl.v out_3] w R :=
  calls_of noCount mixed drawOk Tryz.func45 rfl (c := cfg) (args := [vI n_0, .string head_1, vI up_2, Sl.v out_3]) rfl (Nat.le_of_ble_eq_true (by kernel_rfl)) drawsOk h
end spec_l18Fill

namespace impl_PathsOf
@[reducible] def cfg : Cfg := ⟨49, [(8, [0, 4, 13, 14, 17, 18, 19]), (5, [0, 3, 13, 14])], [(3, [0, 4, 13, 14, 17, 18, 19]), (2, [0, 4, 13, 14]), (1, [0, 3, 13, 14]), (0, [3])], [(13, [0, 4, 6, 7, 13, 14, 17, 18, 19])], [2], [], [13, 32, 63, 81], [41, 4, 46, 44, 48]⟩
def q3 (pr : Prims) (R : Ending → World → Prop) : Exit → Env → World → Prop := fun ex e w => normQ ex (fun e w => contE pr cfg (sub (codeOf Tryz.f12) [1, 1, 1, 1]) (fun e w => wpC pr PP cfg (DD pr) (sub (codeOf Tryz.f12) [1, 1, 1, 1]) (retQ Tryz.f12.results.toList R) e w) e w) (retQ Tryz.f12.results.toList R) e w
def q4 (pr : Prims) (R : Ending → World → Prop) : Exit → Env → World → Prop := fun ex e w => blockQ ex 0 (q3 pr R) e w
def q5 (pr : Prims) (k : Env → World → Prop) (Q : Exit → Env → World → Prop) : Exit → Env → World → Prop := fun ex e w => normQ ex (fun e w => contE pr cfg (sub (codeOf Tryz.f12) [1, 1, 1, 0, 1, 0, 0, 1, 1, 1]) (fun e w => wpC pr PP cfg (DD pr) (sub (codeOf Tryz.f12) [1, 1, 1, 0, 1, 0, 0, 1, 1, 1]) (fun ex e w => normQ ex (fun e' w' => k (Env.restr e' (lookN cfg.loops (keyOf (sub (codeOf Tryz.f12) [1, 1, 1, 0, 1, 0, 0])))) w') Q e w) e w) e w) (fun ex e w => normQ ex (fun e' w' => k (Env.restr e' (lookN cfg.loops (keyOf (sub (codeOf Tryz.f12) [1, 1, 1, 0, 1, 0, 0])))) w') Q e w) e w
def q6 (pr : Prims) (k : Env → World → Prop) (Q : Exit → Env → World → Prop) : Exit → Env → World → Prop := fun ex e w => blockQ ex 1 (q5 pr k Q) e w
def q9 (pr : Prims) (k : Env → World → Prop) (Q : Exit → Env → World → Prop) : Exit → Env → World → Prop := fun ex e w => normQ ex (fun e w => contE pr cfg (sub (codeOf Tryz.f12) [1, 1, 1, 0, 1, 0, 0, 1, 1, 0, 0, 1, 1]) (fun e w => wpC pr PP cfg (DD pr) (sub (codeOf Tryz.f12) [1, 1, 1, 0, 1, 0, 0, 1, 1, 0, 0, 1, 1]) (q6 pr k Q) e w) e w) (q6 pr k Q) e w
def q10 (pr : Prims) (k : Env → World → Prop) (Q : Exit → Env → World → Prop) : Exit → Env → World → Prop := fun ex e w => blockQ ex 2 (q9 pr k Q) e w
def q11 (pr : Prims) (k : Env → World → Prop) (Q : Exit → Env → World → Prop) : Exit → Env → World → Prop := fun ex e w => normQ ex (fun e w => contE pr cfg (sub (codeOf Tryz.f12) [1, 1, 1, 0, 1, 0, 0, 1, 1, 0, 0, 1, 0, 1, 0, 0, 1, 1, 1]) (fun e w => wpC pr PP cfg (DD pr) (sub (codeOf Tryz.f12) [1, 1, 1, 0, 1, 0, 0, 1, 1, 0, 0, 1, 0, 1, 0, 0, 1, 1, 1]) (fun ex e w => normQ ex (fun e' w' => k (Env.restr e' (lookN cfg.loops (keyOf (sub (codeOf Tryz.f12) [1, 1, 1, 0, 1, 0, 0, 1, 1, 0, 0, 1, 0, 1, 0, 0])))) w') Q e w) e w) e w) (fun ex e w => normQ ex (fun e' w' => k (Env.restr e' (lookN cfg.loops (keyOf (sub (codeOf Tryz.f12) [1, 1, 1, 0, 1, 0, 0, 1, 1, 0, 0, 1, 0, 1, 0, 0])))) w') Q e w) e w
def q12 (pr : Prims) (k : Env → World → Prop) (Q : Exit → Env → World → Prop) : Exit → Env → World → Prop := fun ex e w => blockQ ex 3 (q11 pr k Q) e w
def q17 (pr : Prims) (k : Env → World → Prop) (Q : Exit → Env → World → Prop) : Exit → Env → World → Prop := fun ex e w => normQ ex (fun e w => contE pr cfg (sub (codeOf Tryz.f12) [1, 1, 1, 0, 1, 0, 0, 1, 1, 0, 0, 1, 0, 1, 0, 0, 1, 1, 0, 0, 1, 1, 1]) (fun e w => wpC pr PP cfg (DD pr) (sub (codeOf Tryz.f12) [1, 1, 1, 0, 1, 0, 0, 1, 1, 0, 0, 1, 0, 1, 0, 0, 1, 1, 0, 0, 1, 1, 1]) (q12 pr k Q) e w) e w) (q12 pr k Q) e w
def emb5 (n_0 : Int) (out_3 : Sl) (t13 : Int) (t14 : Int) : Env := [(0, vI n_0), (3, Sl.v out_3), (13, vI t13), (14, vI t14)]
def emb8 (n_0 : Int) (longer_4 : Sl) (t13 : Int) (t14 : Int) (t17 : Sl) (t18 : Int) (t19 : Int) : Env := [(0, vI n_0), (4, Sl.v longer_4), (13, vI t13), (14, vI t14), (17, Sl.v t17), (18, vI t18), (19, vI t19)]
def j13 (n_0 : Int) (longer_4 : Sl) (s_6 : ByteArray) (ups_7 : Int) (t13 : Int) (t14 : Int) (t17 : Sl) (t18 : Int) (t19 : Int) : Env := [(0, vI n_0), (4, Sl.v longer_4), (6, .string s_6), (7, vI ups_7), (13, vI t13), (14, vI t14), (17, Sl.v t17), (18, vI t18), (19, vI t19)]
def x2 (n_0 : Int) (longer_4 : Sl) (t13 : Int) (t14 : Int) : Env := [(0, vI n_0), (4, Sl.v longer_4), (13, vI t13), (14, vI t14)]
def x0 (out_3 : Sl) : Env := [(3, Sl.v out_3)]
def S8 (pr : Prims) (Q : Exit → Env → World → Prop) : (Env → World → Prop) → Env → World → Prop := fun k e w => wpC pr PP cfg (DD pr) (sub (codeOf Tryz.f12) [1, 1, 1, 0, 1, 0, 0, 1, 1, 0, 0, 1, 0, 1, 0, 0]) (fun ex e w => normQ ex (fun e' w' => k (Env.restr e' (lookN cfg.loops (keyOf (sub (codeOf Tryz.f12) [1, 1, 1, 0, 1, 0, 0, 1, 1, 0, 0, 1, 0, 1, 0, 0])))) w') Q e w) e w
def S5 (pr : Prims) (Q : Exit → Env → World → Prop) : (Env → World → Prop) → Env → World → Prop := fun k e w => wpC pr PP cfg (DD pr) (sub (codeOf Tryz.f12) [1, 1, 1, 0, 1, 0, 0]) (fun ex e w => normQ ex (fun e' w' => k (Env.restr e' (lookN cfg.loops (keyOf (sub (codeOf Tryz.f12) [1, 1, 1, 0, 1, 0, 0])))) w') Q e w) e w
def J13 (pr : Prims) (n_0 : Int) (longer_4 : Sl) (s_6 : ByteArray) (ups_7 : Int) (t13 : Int) (t14 : Int) (t17 : Sl) (t18 : Int) (t19 : Int) (w : World) (k : Env → World → Prop) (Q : Exit → Env → World → Prop) : Prop :=
  pr.seg (fun e w => wpC pr PP cfg (DD pr) (sub (codeOf Tryz.f12) [1, 1, 1, 0, 1, 0, 0, 1, 1, 0, 0, 1, 0, 1, 0, 0, 1, 1, 0, 0, 1, 1, 1]) (q12 pr k Q) e w) (j13 n_0 longer_4 s_6 ups_7 t13 t14 t17 t18 t19) w
def B8 (pr : Prims) (n_0 : Int) (longer_4 : Sl) (t13 : Int) (t14 : Int) (t17 : Sl) (t18 : Int) (t19 : Int) (w : World) (k : Env → World → Prop) (Q : Exit → Env → World → Prop) : Prop :=
  S8 pr Q k (emb8 n_0 longer_4 t13 t14 t17 t18 t19) w
def L8 (pr : Prims) (n_0 : Int) (longer_4 : Sl) (t13 : Int) (t14 : Int) (t17 : Sl) (t18 : Int) (t19 : Int) (w : World) (Q : Exit → Env → World → Prop) : Prop :=
  pr.loop (S8 pr Q) (emb8 n_0 longer_4 t13 t14 t17 t18 t19) w
def B5 (pr : Prims) (n_0 : Int) (out_3 : Sl) (t13 : Int) (t14 : Int) (w : World) (k : Env → World → Prop) (Q : Exit → Env → World → Prop) : Prop :=
  S5 pr Q k (emb5 n_0 out_3 t13 t14) w
def L5 (pr : Prims) (n_0 : Int) (out_3 : Sl) (t13 : Int) (t14 : Int) (w : World) (Q : Exit → Env → World → Prop) : Prop :=
  pr.loop (S5 pr Q) (emb5 n_0 out_3 t13 t14) w
def E (pr : Prims) (n_0 : Int) (w : World) (R : Ending → World → Prop) : Prop :=
  wpC pr PP cfg (DD pr) (codeOf Tryz.f12) (retQ Tryz.f12.results.toList R) (argE 0 [vI n_0]) w
theorem J13_gen (pr : Prims) (n_0 : Int) (longer_4 : Sl) (s_6 : ByteArray) (ups_7 : Int) (t13 : Int) (t14 : Int) (t17 : Sl) (t18 : Int) (t19 : Int) (w : World) (k : Env → World → Prop) (Q : Exit → Env → World → Prop) : wpC pr PP cfg (DD pr) (sub (codeOf Tryz.f12) [1, 1, 1, 0, 1, 0, 0, 1, 1, 0, 0, 1, 0, 1, 0, 0, 1, 1, 0, 0, 1, 1, 1]) (q12 pr k Q) (j13 n_0 longer_4 s_6 ups_7 t13 t14 t17 t18 t19) w = (
  bif decide (ups_7 < n_0) then (
  ((s_6.size + (⟨#[85]⟩ : ByteArray).size : Nat) : Int) ≤ IntKind.i64.max ∧
  pr.sem1 .sl PP (Instr.buildSlice T_Sstring 1 #[(0, .string (s_6 ++ (⟨#[85]⟩ : ByteArray)))]) w fun (ρ22 : Sl) ω23 =>
  pr.sem1 .sl PP (Builtin.append_ #[T_Sstring, T_Sstring] T_Sstring #[Sl.v longer_4, Sl.v ρ22]) ω23 fun (ρ24 : Sl) ω25 =>
  k (emb8 n_0 ρ24 t13 t14 t17 t18 (w64 (t19 + 1))) ω25)
  else (
  k (emb8 n_0 longer_4 t13 t14 t17 t18 (w64 (t19 + 1))) w)) := by kernel_rfl
theorem J13_s (n_0 : Int) (longer_4 : Sl) (s_6 : ByteArray) (ups_7 : Int) (t13 : Int) (t14 : Int) (t17 : Sl) (t18 : Int) (t19 : Int) (w : World) (k : Env → World → Prop) (Q : Exit → Env → World → Prop) : J13 std n_0 longer_4 s_6 ups_7 t13 t14 t17 t18 t19 w k Q = (
  bif decide (ups_7 < n_0) then (
  ((s_6.size + (⟨#[85]⟩ : ByteArray).size : Nat) : Int) ≤ IntKind.i64.max ∧
  sem1 .sl PP (Instr.buildSlice T_Sstring 1 #[(0, .string (s_6 ++ (⟨#[85]⟩ : ByteArray)))]) w fun (ρ22 : Sl) ω23 =>
  sem1 .sl PP (Builtin.append_ #[T_Sstring, T_Sstring] T_Sstring #[Sl.v longer_4, Sl.v ρ22]) ω23 fun (ρ24 : Sl) ω25 =>
  k (emb8 n_0 ρ24 t13 t14 t17 t18 (w64 (t19 + 1))) ω25)
  else (
  k (emb8 n_0 longer_4 t13 t14 t17 t18 (w64 (t19 + 1))) w)) := J13_gen std n_0 longer_4 s_6 ups_7 t13 t14 t17 t18 t19 w k Q
theorem B8_eq (pr : Prims) (n_0 : Int) (longer_4 : Sl) (t13 : Int) (t14 : Int) (t17 : Sl) (t18 : Int) (t19 : Int) (w : World) (k : Env → World → Prop) (Q : Exit → Env → World → Prop) : B8 pr n_0 longer_4 t13 t14 t17 t18 t19 w k Q = (
  bif decide (t19 < t18) then (
  pr.idxK 1 t17 t19 fun (a13 : Addr) =>
  pr.load1 .str a13 w fun (ξ14 : ByteArray) =>
  pr.call1 (.int .i64) PP F.strings_Count #[.string ξ14, .string (⟨#[85]⟩ : ByteArray)] w fun (ρ15 : Int) ω16 =>
  bif decide ((w64 (2 * ρ15)) > (ξ14.size : Int)) then (
  ((ξ14.size + (⟨#[68]⟩ : ByteArray).size : Nat) : Int) ≤ IntKind.i64.max ∧
  pr.sem1 .sl PP (Instr.buildSlice T_Sstring 1 #[(0, .string (ξ14 ++ (⟨#[68]⟩ : ByteArray)))]) ω16 fun (ρ18 : Sl) ω19 =>
  pr.sem1 .sl PP (Builtin.append_ #[T_Sstring, T_Sstring] T_Sstring #[Sl.v longer_4, Sl.v ρ18]) ω19 fun (ρ20 : Sl) ω21 =>
  J13 pr n_0 ρ20 ξ14 ρ15 t13 t14 t17 t18 t19 ω21 k Q)
  else (
  J13 pr n_0 longer_4 ξ14 ρ15 t13 t14 t17 t18 t19 ω16 k Q))
  else (
  Q (.exit 2) (x2 n_0 longer_4 t13 t14) w)) := by kernel_rfl
theorem B8_s (n_0 : Int) (longer_4 : Sl) (t13 : Int) (t14 : Int) (t17 : Sl) (t18 : Int) (t19 : Int) (w : World) (k : Env → World → Prop) (Q : Exit → Env → World → Prop) : B8 std n_0 longer_4 t13 t14 t17 t18 t19 w k Q = (
  bif decide (t19 < t18) then (
  idxK 1 t17 t19 fun (a13 : Addr) =>
  load1 .str a13 w fun (ξ14 : ByteArray) =>
  call1 (.int .i64) PP F.strings_Count #[.string ξ14, .string (⟨#[85]⟩ : ByteArray)] w fun (ρ15 : Int) ω16 =>
  bif decide ((w64 (2 * ρ15)) > (ξ14.size : Int)) then (
  ((ξ14.size + (⟨#[68]⟩ : ByteArray).size : Nat) : Int) ≤ IntKind.i64.max ∧
  sem1 .sl PP (Instr.buildSlice T_Sstring 1 #[(0, .string (ξ14 ++ (⟨#[68]⟩ : ByteArray)))]) ω16 fun (ρ18 : Sl) ω19 =>
  sem1 .sl PP (Builtin.append_ #[T_Sstring, T_Sstring] T_Sstring #[Sl.v longer_4, Sl.v ρ18]) ω19 fun (ρ20 : Sl) ω21 =>
  J13 std n_0 ρ20 ξ14 ρ15 t13 t14 t17 t18 t19 ω21 k Q)
  else (
  J13 std n_0 longer_4 ξ14 ρ15 t13 t14 t17 t18 t19 ω16 k Q))
  else (
  Q (.exit 2) (x2 n_0 longer_4 t13 t14) w)) := B8_eq std n_0 longer_4 t13 t14 t17 t18 t19 w k Q
theorem L8_rule (n_0 : Int) (longer_4 : Sl) (t13 : Int) (t14 : Int) (t17 : Sl) (t18 : Int) (t19 : Int) (w : World) (Q : Exit → Env → World → Prop) (I : Sl → Int → World → Prop) (μ : Sl → Int → World → Nat) (h0 : I longer_4 t19 w)
    (h : ∀ (longer_4 : Sl) (t19 : Int) (w' : World), I longer_4 t19 w' → B8 std n_0 longer_4 t13 t14 t17 t18 t19 w' (fun e2 w2 => ∃ longer_4_n t19_n, e2 = emb8 n_0 longer_4_n t13 t14 t17 t18 t19_n ∧ I longer_4_n t19_n w2 ∧ μ longer_4_n t19_n w2 < μ longer_4 t19 w') Q) :
    L8 std n_0 longer_4 t13 t14 t17 t18 t19 w Q := by
  unfold L8
  refine LoopE.intro (σ := Sl × Int) (step := S8 std Q) (fun s => emb8 n_0 s.1 t13 t14 t17 t18 s.2) (fun s w => I s.1 s.2 w) (fun s w => μ s.1 s.2 w) (longer_4, t19) rfl h0 ?_
  intro s w' hI
  have h1 := h s.1 s.2 w' hI
  unfold B8 at h1
  simp only [Prod.exists]
  exact h1
theorem A8_2_eq (pr : Prims) (n_0 : Int) (longer_4 : Sl) (t13 : Int) (t14 : Int) (w : World) (k : Env → World → Prop) (Q : Exit → Env → World → Prop) : (q10 pr k Q) (.exit 2) (x2 n_0 longer_4 t13 t14) w = (
  k (emb5 n_0 longer_4 t13 (w64 (t14 + 1))) w) := by kernel_rfl
theorem A8_2_s (n_0 : Int) (longer_4 : Sl) (t13 : Int) (t14 : Int) (w : World) (k : Env → World → Prop) (Q : Exit → Env → World → Prop) : (q10 std k Q) (.exit 2) (x2 n_0 longer_4 t13 t14) w = (
  k (emb5 n_0 longer_4 t13 (w64 (t14 + 1))) w) := A8_2_eq std n_0 longer_4 t13 t14 w k Q
theorem B5_eq (pr : Prims) (n_0 : Int) (out_3 : Sl) (t13 : Int) (t14 : Int) (w : World) (k : Env → World → Prop) (Q : Exit → Env → World → Prop) : B5 pr n_0 out_3 t13 t14 w k Q = (
  bif decide (t14 < t13) then (
  pr.sem1 .sl PP (Instr.buildSlice T_Sstring 0 #[]) w fun (ρ7 : Sl) ω8 =>
  L8 pr n_0 ρ7 t13 t14 out_3 (out_3.n : Int) 0 ω8 (q10 pr k Q))
  else (
  Q (.exit 0) (x0 out_3) w)) := by kernel_rfl
theorem B5_s (n_0 : Int) (out_3 : Sl) (t13 : Int) (t14 : Int) (w : World) (k : Env → World → Prop) (Q : Exit → Env → World → Prop) : B5 std n_0 out_3 t13 t14 w k Q = (
  bif decide (t14 < t13) then (
  sem1 .sl PP (Instr.buildSlice T_Sstring 0 #[]) w fun (ρ7 : Sl) ω8 =>
  L8 std n_0 ρ7 t13 t14 out_3 (out_3.n : Int) 0 ω8 (q10 std k Q))
  else (
  Q (.exit 0) (x0 out_3) w)) := B5_eq std n_0 out_3 t13 t14 w k Q
theorem L5_rule (n_0 : Int) (out_3 : Sl) (t13 : Int) (t14 : Int) (w : World) (Q : Exit → Env → World → Prop) (I : Sl → Int → World → Prop) (μ : Sl → Int → World → Nat) (h0 : I out_3 t14 w)
    (h : ∀ (out_3 : Sl) (t14 : Int) (w' : World), I out_3 t14 w' → B5 std n_0 out_3 t13 t14 w' (fun e2 w2 => ∃ out_3_n t14_n, e2 = emb5 n_0 out_3_n t13 t14_n ∧ I out_3_n t14_n w2 ∧ μ out_3_n t14_n w2 < μ out_3 t14 w') Q) :
    L5 std n_0 out_3 t13 t14 w Q := by
  unfold L5
  refine LoopE.intro (σ := Sl × Int) (step := S5 std Q) (fun s => emb5 n_0 s.1 t13 s.2) (fun s w => I s.1 s.2 w) (fun s w => μ s.1 s.2 w) (out_3, t14) rfl h0 ?_
  intro s w' hI
  have h1 := h s.1 s.2 w' hI
  unfold B5 at h1
  simp only [Prod.exists]
  exact h1
theorem A5_0_eq (pr : Prims) (out_3 : Sl) (w : World) (R : Ending → World → Prop) : (q4 pr R) (.exit 0) (x0 out_3) w = (
  pr.call0  PP F.slices_Sort___string_string_ #[Sl.v out_3] w fun ω26 =>
  R (.returned (Sl.v out_3)) ω26) := by kernel_rfl
theorem A5_0_s (out_3 : Sl) (w : World) (R : Ending → World → Prop) : (q4 std R) (.exit 0) (x0 out_3) w = (
  call0  PP F.slices_Sort___string_string_ #[Sl.v out_3] w fun ω26 =>
  R (.returned (Sl.v out_3)) ω26) := A5_0_eq std out_3 w R
theorem E_eq (pr : Prims) (n_0 : Int) (w : World) (R : Ending → World → Prop) : E pr n_0 w R = (
  pr.pcall1 .bool PP F.impl_isSix #[vI n_0] fun (ρ0 : Bool) =>
  bif !ρ0 then (
  R (.returned (Sl.v Sl.nil)) w)
  else (
  pr.sem1 .sl PP (Instr.buildSlice T_Sstring 1 #[(0, .string (⟨#[]⟩ : ByteArray))]) w fun (ρ1 : Sl) ω2 =>
  L5 pr n_0 ρ1 (w64 (2 * n_0)) 0 ω2 (q4 pr R))) := by kernel_rfl
theorem E_s (n_0 : Int) (w : World) (R : Ending → World → Prop) : E std n_0 w R = (
  pcall1 .bool PP F.impl_isSix #[vI n_0] fun (ρ0 : Bool) =>
  bif !ρ0 then (
  R (.returned (Sl.v Sl.nil)) w)
  else (
  sem1 .sl PP (Instr.buildSlice T_Sstring 1 #[(0, .string (⟨#[]⟩ : ByteArray))]) w fun (ρ1 : Sl) ω2 =>
  L5 std n_0 ρ1 (w64 (2 * n_0)) 0 ω2 (q4 std R))) := E_eq std n_0 w R
theorem drawsOk : drawsOk PP cfg okD (codeOf Tryz.f12) = true := by kernel_rfl
theorem calls (n_0 : Int) {w : World} {R : Ending → World → Prop} (h : E std n_0 w R) : Calls PP F.impl_PathsOf #[vI n_0] w R :=
  calls_of noCount mixed drawOk Tryz.func12 rfl (c := cfg) (args := [vI n_0]) rfl (Nat.le_of_ble_eq_true (by kernel_rfl)) drawsOk h
end impl_PathsOf

end Go.Proofs.YtlcemelmnkipmaaGreat

/- What each function does, step by step, written by a program (Gen.lean); each equation is checked by the kernel. -/
namespace Go.Proofs.YtlcemelmnkipmaaGreat
open Go
set_option linter.unusedVariables false
set_option maxRecDepth 100000
end Go.Proofs.YtlcemelmnkipmaaGreat

/- Rows of texts, and the laws' helpers over them. -/
namespace Go.Proofs.YtlcemelmnkipmaaGreat
open Go Go.RowKit Go.Sort
set_option maxRecDepth 100000

@[reducible] def bs (l : List UInt8) : ByteArray := ⟨l.toArray⟩
@[reducible] def RowT (w : World) (s : Sl) (L : List (List UInt8)) : Prop := Row w s (L.map encStr)
@[reducible] def OwnT (w : World) (B : Nat) (s : Sl) (L : List (List UInt8)) : Prop := Own w B T_string s (L.map encStr)
theorem oneStr : OneT T_Sstring T_string (.string ⟨#[]⟩) := oneT_of (by kernel_rfl) (by kernel_rfl) rfl
theorem getD_T {L : List (List UInt8)} {i : Nat} (h : i < L.length) : L.getD i [] = L[i] := by simp [List.getD_eq_getElem?_getD, List.getElem?_eq_getElem h]
theorem RowT.get {w s L} (h : RowT w s L) {i : Int} (h0 : 0 ≤ i) (hi : i < L.length) {K : ByteArray → Prop} (hk : K (bs (L.getD i.toNat []))) : idxK 1 s i fun a => load1 .str a w K := by
  have hlt : i.toNat < L.length := by omega
  refine Row.get (sh := .str) (r := bs (L.getD i.toNat [])) h h0 ?_ hk
  rw [List.getElem?_map, List.getElem?_eq_getElem hlt, getD_T hlt]; rfl
theorem RowT.place {w s L} (h : RowT w s L) {i : Int} (h0 : 0 ≤ i) (hi : i < L.length) {K : Addr → Prop} (hk : ∀ a, w.cell? a = some (.string (bs (L.getD i.toNat []))) → K a) : idxK 1 s i K := by
  have hlt : i.toNat < L.length := by omega
  obtain ⟨a, ha, hc⟩ := h.cell i.toNat (encStr (L.getD i.toNat [])) (by rw [List.getElem?_map, List.getElem?_eq_getElem hlt, getD_T hlt]; rfl)
  have hn := h.n
  refine ⟨a, ha, h0, by rw [hn]; simp; omega, ?_⟩
  rw [Nat.mul_one]
  exact hk _ hc
theorem load_str {w : World} {a : Addr} {x : ByteArray} (h : w.cell? a = some (.string x)) {K : ByteArray → Prop} (hk : K x) : load1 .str a w K := ⟨x, h, hk⟩
theorem append_str {w : World} {B : Nat} {s : Sl} {L : List (List UInt8)} {x : List UInt8} (hown : OwnT w B s L) (hB : B ≤ w.heap.size) (hn : L.length < 2^38) {K : Sl → World → Prop}
    (h : ∀ s' w', OwnT w' B s' (L ++ [x]) → w.grownBy w' s.blk → Next w s s' → K s' w') :
    sem1 .sl PP (Instr.buildSlice T_Sstring 1 #[(0, .string (bs x))]) w fun r w1 => sem1 .sl PP (Builtin.append_ #[T_Sstring, T_Sstring] T_Sstring #[s.v, r.v]) w1 K :=
  append_one oneStr hown hB (One.str _) (by rw [List.length_map]; omega) fun s' w' h1 h2 h3 => h s' w' (by simp only [OwnT, List.map_append, List.map_cons, List.map_nil]; exact h1) h2 h3
theorem bs_append (a b : List UInt8) : bs a ++ bs b = bs (a ++ b) := by
  apply ByteArray.ext
  simp
theorem bs_size (a : List UInt8) : (bs a).size = a.length := by simp [ByteArray.size]
theorem bs_toList (a : List UInt8) : (bs a).data.toList = a := by simp
theorem bs_inj {a b : List UInt8} (h : bs a = bs b) : a = b := by
  have := congrArg (fun x : ByteArray => x.data.toList) h
  simpa using this
theorem toList_beq (x y : ByteArray) : (x.toList == y.toList) = decide (x = y) := by
  by_cases h : x = y
  · subst h; simp
  · rw [decide_eq_false h]
    refine beq_false_of_ne fun e => h ?_
    have h1 : x.data.toList = y.data.toList := by rw [← ByteArray.toList_eq, ← ByteArray.toList_eq]; exact e
    apply ByteArray.ext
    exact Array.toList_inj.1 h1
/-! ### The laws' helpers -/
/-- The text of a mark, its digits. -/
def mtL : Nat → Int → List UInt8 → List UInt8
  | 0, _, o => o
  | f + 1, k, o => if k > 0 then mtL f (k.tdiv 10) (UInt8.ofNat (IntKind.u8.wrap (w64 (48 + k.tmod 10))).toNat :: o) else o
def MT (k : Int) : List UInt8 := if k ≤ 0 then [109, 48] else 109 :: mtL 20 k []
theorem mtL_zero : ∀ (f : Nat) {k : Int} (o : List UInt8), k ≤ 0 → mtL f k o = o
  | 0, _, _, _ => rfl
  | f + 1, k, o, h => by rw [mtL, if_neg (by omega)]
theorem u_str : PP.underlying T_string = some .string := by kernel_rfl
theorem u_Su8 : PP.underlying T_Suint8 = some (.slice T_uint8) := by kernel_rfl
theorem u_u8 : PP.underlying T_uint8 = some (.int .u8) := by kernel_rfl
theorem oneU8 : OneT T_Suint8 T_uint8 (.int .u8 0) := oneT_of (by kernel_rfl) (by kernel_rfl) rfl
def marksT (k : Int) (n : Nat) : List (List UInt8) := (List.range n).map fun (i : Nat) => MT (k + (i : Int))
theorem marksT_length (k : Int) (n : Nat) : (marksT k n).length = n := by simp [marksT]
theorem marksT_getD {k : Int} {n i : Nat} (h : i < n) : (marksT k n).getD i [] = MT (k + i) := by simp [marksT, List.getD_eq_getElem?_getD, h]
theorem marksT_step (L : List (List UInt8)) (k : Int) {i : Nat} (hi : i < L.length) : (marksT k i ++ L.drop i).set i (MT (k + i)) = marksT k (i + 1) ++ L.drop (i + 1) := by
  have h1 : L.drop i = L[i] :: L.drop (i + 1) := by rw [List.drop_eq_getElem_cons hi]
  have h2 : (marksT k i).length = i := marksT_length k i
  have h3 : marksT k (i + 1) = marksT k i ++ [MT (k + (i : Int))] := by simp [marksT, List.range_succ]
  rw [h1, List.set_append_right _ _ (by omega), h2, Nat.sub_self, List.set_cons_zero, h3, List.append_assoc]
  rfl
end Go.Proofs.YtlcemelmnkipmaaGreat

/-
  DERIVED: THE SHELF's CONTRACTS AT THIS DUMP, IN PLAIN WORDS (tools/lay-plain.mjs out of 'TryzShelf.lean', which tools/lay-shelf.mjs wrote): THE SAME DECLARATIONS UNDER THE SAME NAMES: 'import', 'namespace', 'open', 'def', 'theorem' AND NOTHING ELSE: no command of the shelf's: FOR A HAND-IN. Each laying: the table of numbers ('.._ren') and one theorem, a field a fact of the dump's own or the kernel's comparison; each contract: ONE APPLICATION.
-/
namespace Go.Proofs
open Go.Shelf
def Tryz.lays138_ren : Go.Shelf.Ren := ⟨fun | 138 => 42 | 195 => 67 | 218 => 68 | 143 => 69 | 219 => 83 | 217 => 100 | 225 => 101 | 224 => 102 | 267 => 103 | 266 => 110 | 314 => 111 | n => n, fun | 9 => 9 | 3 => 3 | 4 => 4 | 5 => 5 | 0 => 0 | 46 => 65 | 146 => 90 | 51 => 89 | n => n, fun | 1 => 0 | n => n⟩
theorem Tryz.lays138 : Go.Proofs.Lays.n138 Tryz.prog Tryz.lays138_ren := {
  mixed := by kernel_rfl
  f138 := Tryz.func42.trans (congrArg some (by kernel_rfl))
  f143 := Tryz.func69.trans (congrArg some (by kernel_rfl))
  f195 := Tryz.func67.trans (congrArg some (by kernel_rfl))
  f217 := Tryz.func100.trans (congrArg some (by kernel_rfl))
  f218 := Tryz.func68.trans (congrArg some (by kernel_rfl))
  f219 := Tryz.func83.trans (congrArg some (by kernel_rfl))
  f224 := Tryz.func102.trans (congrArg some (by kernel_rfl))
  f225 := Tryz.func101.trans (congrArg some (by kernel_rfl))
  f266 := Tryz.func110.trans (congrArg some (by kernel_rfl))
  f267 := Tryz.func103.trans (congrArg some (by kernel_rfl))
  f314 := Tryz.func111.trans (congrArg some (by kernel_rfl))
  t0 := Tryz.underlying0
  a0 := Tryz.isAgg0
  z0 := Tryz.sizeOf0
  v0 := Tryz.zeroValue0
  t3 := Tryz.underlying3
  a3 := Tryz.isAgg3
  z3 := Tryz.sizeOf3
  v3 := Tryz.zeroValue3
  t4 := Tryz.underlying4
  a4 := Tryz.isAgg4
  z4 := Tryz.sizeOf4
  v4 := Tryz.zeroValue4
  t5 := Tryz.underlying5
  a5 := Tryz.isAgg5
  z5 := Tryz.sizeOf5
  v5 := Tryz.zeroValue5
  t9 := Tryz.underlying9
  a9 := Tryz.isAgg9
  z9 := Tryz.sizeOf9
  v9 := Tryz.zeroValue9
  t46 := Tryz.underlying65
  a46 := Tryz.isAgg65
  z46 := Tryz.sizeOf65
  v46 := Tryz.zeroValue65
  t51 := Tryz.underlying89
  a51 := Tryz.isAgg89
  z51 := Tryz.sizeOf89
  v51 := Tryz.zeroValue89
  t146 := Tryz.underlying90
  a146 := Tryz.isAgg90
  z146 := Tryz.sizeOf90
  v146 := Tryz.zeroValue90
  g1 := by kernel_rfl }
open Go.RowKit Go.Lib in
/-- strings.Count AT A substr OF ONE BYTE ('hp'): "Count counts the number of non-overlapping instances of substr in s.": IT RETURNS 'Lib.countByte s (that byte)'; the world is as it was. ✋ NO CONTRACT HERE YET at an empty substr (utf8.RuneCountInString) or at a longer one (a loop over strings.Index). (LAID: no walk: one application.) -/
theorem Tryz.strings_Count_one (s : ByteArray) (c : UInt8) (w : World) :
    Calls Tryz.prog 42 #[.string s, .string ⟨#[c]⟩] w fun e w' => e = .returned (.int .i64 (Lib.countByte s.data.toList c)) ∧ w' = w := Any.strings_Count_one Tryz.lays138 s c w
open Go.RowKit Go.Lib in
/-- strings.Count AT A substr OF TWO BYTES OR MORE: "Count counts the number of non-overlapping instances of substr in s.": IT RETURNS 'Lib.count s substr'; the world is as it was. (LAID: no walk: one application.) -/
theorem Tryz.strings_Count (s sub : ByteArray) (m : Int) (w : World) (hs : s.size < 4294967281) (hm : w.cell? ⟨0, 0, none⟩ = some (.int .i64 m)) (h2 : 2 ≤ sub.size) :
    Calls Tryz.prog 42 #[.string s, .string sub] w fun e w' => e = .returned (.int .i64 (Lib.countB s sub)) ∧ w' = w := Any.strings_Count Tryz.lays138 s sub m w hs hm h2
def Tryz.laysM138_ren : Go.Shelf.Ren := ⟨fun | 138 => 42 | 195 => 67 | 218 => 68 | 143 => 69 | 219 => 83 | 217 => 100 | 225 => 101 | 224 => 102 | 267 => 103 | 266 => 110 | 314 => 111 | n => n, fun | 9 => 9 | 3 => 3 | 4 => 4 | 5 => 5 | 0 => 0 | 46 => 65 | 146 => 90 | 51 => 89 | n => n, fun | 1 => 0 | n => n⟩
theorem Tryz.laysM138 : Go.Proofs.LaysM.n138 Tryz.prog Tryz.laysM138_ren := {
  mixed := by kernel_rfl
  f138 := Tryz.func42.trans (congrArg some (by kernel_rfl))
  f143 := Tryz.func69.trans (congrArg some (by kernel_rfl))
  f195 := Tryz.func67.trans (congrArg some (by kernel_rfl))
  f217 := Tryz.func100.trans (congrArg some (by kernel_rfl))
  f218 := Tryz.func68.trans (congrArg some (by kernel_rfl))
  f219 := Tryz.func83.trans (congrArg some (by kernel_rfl))
  f224 := Tryz.func102.trans (congrArg some (by kernel_rfl))
  f225 := Tryz.func101.trans (congrArg some (by kernel_rfl))
  f266 := Tryz.func110.trans (congrArg some (by kernel_rfl))
  f267 := Tryz.func103.trans (congrArg some (by kernel_rfl))
  f314 := Tryz.func111.trans (congrArg some (by kernel_rfl))
  t0 := Tryz.underlying0
  a0 := Tryz.isAgg0
  z0 := Tryz.sizeOf0
  v0 := Tryz.zeroValue0
  t3 := Tryz.underlying3
  a3 := Tryz.isAgg3
  z3 := Tryz.sizeOf3
  v3 := Tryz.zeroValue3
  t4 := Tryz.underlying4
  a4 := Tryz.isAgg4
  z4 := Tryz.sizeOf4
  v4 := Tryz.zeroValue4
  t5 := Tryz.underlying5
  a5 := Tryz.isAgg5
  z5 := Tryz.sizeOf5
  v5 := Tryz.zeroValue5
  t9 := Tryz.underlying9
  a9 := Tryz.isAgg9
  z9 := Tryz.sizeOf9
  v9 := Tryz.zeroValue9
  t46 := Tryz.underlying65
  a46 := Tryz.isAgg65
  z46 := Tryz.sizeOf65
  v46 := Tryz.zeroValue65
  t51 := Tryz.underlying89
  a51 := Tryz.isAgg89
  z51 := Tryz.sizeOf89
  v51 := Tryz.zeroValue89
  t146 := Tryz.underlying90
  a146 := Tryz.isAgg90
  z146 := Tryz.sizeOf90
  v146 := Tryz.zeroValue90
  g1 := by kernel_rfl
  i0 := by kernel_rfl
  i3 := by kernel_rfl
  i4 := by kernel_rfl
  i5 := by kernel_rfl
  i9 := by kernel_rfl
  i46 := by kernel_rfl
  i51 := by kernel_rfl
  i146 := by kernel_rfl
  m1 := by kernel_rfl
  s1_3 := fun w h => Go.Proofs.cell_of_shapedOpen_int (zero := #[.int .i64 0]) (t := 3) h (of_decide_eq_true (by kernel_rfl)) (by kernel_rfl) rfl (by kernel_rfl) (by kernel_rfl) Tryz.underlying3 }
end Go.Proofs

/-
  DERIVED: THE SHELF's CONTRACTS AT THIS DUMP, IN PLAIN WORDS (tools/lay-plain.mjs out of 'TryzShelf.lean', which tools/lay-shelf.mjs wrote): THE SAME DECLARATIONS UNDER THE SAME NAMES: 'import', 'namespace', 'open', 'def', 'theorem' AND NOTHING ELSE: no command of the shelf's: FOR A HAND-IN. Each laying: the table of numbers ('.._ren') and one theorem, a field a fact of the dump's own or the kernel's comparison; each contract: ONE APPLICATION.
-/
namespace Go.Proofs
open Go.Shelf
def Tryz.lays190_ren : Go.Shelf.Ren := ⟨fun | 190 => 43 | 125 => 71 | 258 => 70 | 128 => 93 | 129 => 94 | 302 => 84 | 303 => 85 | 304 => 86 | 305 => 87 | 306 => 88 | 307 => 89 | 308 => 90 | 309 => 91 | 310 => 92 | 333 => 104 | 329 => 105 | 330 => 106 | 334 => 107 | 335 => 108 | 336 => 109 | 344 => 112 | n => n, fun | 31 => 32 | 9 => 9 | 3 => 3 | 46 => 65 | 0 => 0 | 51 => 89 | 53 => 92 | 4 => 4 | 183 => 99 | 182 => 98 | 131 => 103 | 5 => 5 | 218 => 112 | 222 => 116 | 228 => 119 | 229 => 120 | n => n, fun | n => n⟩
theorem Tryz.lays190 : Go.Proofs.Lays.n190 Tryz.prog Tryz.lays190_ren := {
  mixed := by kernel_rfl
  f125 := Tryz.func71.trans (congrArg some (by kernel_rfl))
  f128 := Tryz.func93.trans (congrArg some (by kernel_rfl))
  f129 := Tryz.func94.trans (congrArg some (by kernel_rfl))
  f190 := Tryz.func43.trans (congrArg some (by kernel_rfl))
  f258 := Tryz.func70.trans (congrArg some (by kernel_rfl))
  f302 := Tryz.func84.trans (congrArg some (by kernel_rfl))
  f303 := Tryz.func85.trans (congrArg some (by kernel_rfl))
  f304 := Tryz.func86.trans (congrArg some (by kernel_rfl))
  f305 := Tryz.func87.trans (congrArg some (by kernel_rfl))
  f306 := Tryz.func88.trans (congrArg some (by kernel_rfl))
  f307 := Tryz.func89.trans (congrArg some (by kernel_rfl))
  f308 := Tryz.func90.trans (congrArg some (by kernel_rfl))
  f309 := Tryz.func91.trans (congrArg some (by kernel_rfl))
  f310 := Tryz.func92.trans (congrArg some (by kernel_rfl))
  f329 := Tryz.func105.trans (congrArg some (by kernel_rfl))
  f330 := Tryz.func106.trans (congrArg some (by kernel_rfl))
  f333 := Tryz.func104.trans (congrArg some (by kernel_rfl))
  f334 := Tryz.func107.trans (congrArg some (by kernel_rfl))
  f335 := Tryz.func108.trans (congrArg some (by kernel_rfl))
  f336 := Tryz.func109.trans (congrArg some (by kernel_rfl))
  f344 := Tryz.func112.trans (congrArg some (by kernel_rfl))
  t0 := Tryz.underlying0
  a0 := Tryz.isAgg0
  z0 := Tryz.sizeOf0
  v0 := Tryz.zeroValue0
  t3 := Tryz.underlying3
  a3 := Tryz.isAgg3
  z3 := Tryz.sizeOf3
  v3 := Tryz.zeroValue3
  t4 := Tryz.underlying4
  a4 := Tryz.isAgg4
  z4 := Tryz.sizeOf4
  v4 := Tryz.zeroValue4
  t5 := Tryz.underlying5
  a5 := Tryz.isAgg5
  z5 := Tryz.sizeOf5
  v5 := Tryz.zeroValue5
  t9 := Tryz.underlying9
  a9 := Tryz.isAgg9
  z9 := Tryz.sizeOf9
  v9 := Tryz.zeroValue9
  t31 := Tryz.underlying32
  a31 := Tryz.isAgg32
  z31 := Tryz.sizeOf32
  v31 := Tryz.zeroValue32
  t46 := Tryz.underlying65
  a46 := Tryz.isAgg65
  z46 := Tryz.sizeOf65
  v46 := Tryz.zeroValue65
  t51 := Tryz.underlying89
  a51 := Tryz.isAgg89
  z51 := Tryz.sizeOf89
  v51 := Tryz.zeroValue89
  t53 := Tryz.underlying92
  a53 := Tryz.isAgg92
  z53 := Tryz.sizeOf92
  v53 := Tryz.zeroValue92
  t131 := Tryz.underlying103
  a131 := Tryz.isAgg103
  z131 := Tryz.sizeOf103
  v131 := Tryz.zeroValue103
  t182 := Tryz.underlying98
  a182 := Tryz.isAgg98
  z182 := Tryz.sizeOf98
  v182 := Tryz.zeroValue98
  t183 := Tryz.underlying99
  a183 := Tryz.isAgg99
  z183 := Tryz.sizeOf99
  v183 := Tryz.zeroValue99
  t218 := Tryz.underlying112
  a218 := Tryz.isAgg112
  z218 := Tryz.sizeOf112
  v218 := Tryz.zeroValue112
  t222 := Tryz.underlying116
  a222 := Tryz.isAgg116
  z222 := Tryz.sizeOf116
  v222 := Tryz.zeroValue116
  t228 := Tryz.underlying119
  a228 := Tryz.isAgg119
  z228 := Tryz.sizeOf119
  v228 := Tryz.zeroValue119
  t229 := Tryz.underlying120
  a229 := Tryz.isAgg120
  z229 := Tryz.sizeOf120
  v229 := Tryz.zeroValue120 }
open Go.Sort Go.RowKit in
theorem Tryz.slices_Sort_string (blk off cap : Nat) (ss : List (List UInt8)) (w : World) (hH : Holds encStr w blk off ss.toArray) (hblk : blk < w.heap.size) (hsz : ss.length < 4611686018427387904) :
    Calls Tryz.prog 43 #[.slice (some ⟨blk, off, none⟩) ss.length cap] w fun e w' =>
      e = .returned (.tuple #[]) ∧ ∃ n os, w' = grow (putRow encStr (Sort.ahead w n) blk off (ss.mergeSort fun x y => decide (x ≤ y)).toArray) os := Any.slices_Sort_string Tryz.lays190 blk off cap ss w hH hblk hsz
open Go.RowKit Go.Sort in
/-- .. and plain. (LAID: no walk: one application.) -/
theorem Tryz.slices_Sort_string_none (p : Option Addr) (cap : Nat) (w : World) :
    Calls Tryz.prog 43 #[.slice p 0 cap] w fun e w' => e = .returned (.tuple #[]) ∧ w' = w := Any.slices_Sort_string_none Tryz.lays190 p cap w
end Go.Proofs

/- PathsOf: both texts, and the law. -/
namespace Go.Proofs.YtlcemelmnkipmaaGreat
open Go Go.RowKit Go.Sort
set_option maxRecDepth 100000

def sortT (L : List (List UInt8)) : List (List UInt8) := L.mergeSort fun x y => decide (x ≤ y)
theorem sortT_length (L : List (List UInt8)) : (sortT L).length = L.length := List.length_mergeSort L
theorem c_SortT {w : World} {B : Nat} {s : Sl} {L : List (List UInt8)} (h : OwnT w B s L) (hL : L.length < 2^40) {K : World → Prop} (hk : ∀ w', OwnT w' B s (sortT L) → Below B w w' → K w') :
    call0 PP F.slices_Sort___string_string_ #[s.v] w K := by
  have hn : s.n = L.length := by have := h.n; simpa using this
  have hnc := h.nc
  have hcm := h.cm
  rcases h.at_ with hc | ⟨g, cur, ha, hBg, hg, hsz, ht⟩
  · have h0 : L.length = 0 := by omega
    obtain rfl : L = [] := List.eq_nil_of_length_eq_zero h0
    have e : s.v = .slice s.a 0 s.c := by rw [Sl.v, hn]; rfl
    rw [e]
    refine (Tryz.slices_Sort_string_none s.a s.c w).mono ?_
    rintro e w' ⟨rfl, rfl⟩
    exact ⟨rfl, hk _ (by simpa [sortT] using h) (Below.refl _ _)⟩
  · have hglt : g < w.heap.size := (Array.getElem?_eq_some_iff.1 hg).1
    have e : s.v = .slice (some ⟨g, 0, none⟩) L.length s.c := by rw [Sl.v, hn, ha]
    rw [e]
    rw [hn] at ht
    refine (Tryz.slices_Sort_string g 0 s.c L w (holds_of_block hg ht) hglt (by omega)).mono ?_
    rintro e w' ⟨rfl, n, os, rfl⟩
    have hl : (sortT L).length = L.length := sortT_length L
    refine ⟨rfl, hk _ ⟨by rw [List.length_map, hl, hn], hnc, hcm, .inr ⟨g, _, ha, hBg, heap_sorted _ hg, by simp [Go.Sort.putCells, hsz], ?_⟩⟩ ?_⟩
    · rw [hn, ← hl]
      exact take_putCells cur (sortT L) (by omega)
    · have h5 := grownBy_sorted (w := w) (g := g) (n := n) (os := os) (sortT L).toArray
      refine ⟨h5.os, h5.tape, h5.output, h5.size, fun k hk => h5.block k (by omega) fun e => ?_⟩
      have : k = g := Option.some.inj e
      omega
/-! ### Values -/
def extP (n : Nat) (s : List UInt8) : List (List UInt8) := (if 2 * s.count 85 > s.length then [s ++ [68]] else []) ++ (if s.count 85 < n then [s ++ [85]] else [])
def lvP (n : Nat) : Nat → List (List UInt8)
  | 0 => [[]]
  | k + 1 => (lvP n k).flatMap (extP n)
def fillP (n : Nat) : Nat → List UInt8 → Nat → List (List UInt8)
  | 0, h, _ => [h]
  | f + 1, h, u => (if 2 * u > h.length then fillP n f (h ++ [68]) u else []) ++ (if u < n then fillP n f (h ++ [85]) (u + 1) else [])
theorem lvP_mem {n : Nat} : ∀ (k : Nat) {s : List UInt8}, s ∈ lvP n k → s.length = k ∧ s.count 85 ≤ k
  | 0, s, h => by simp [lvP] at h; subst h; simp
  | k + 1, s, h => by
    rw [lvP, List.mem_flatMap] at h
    obtain ⟨t, ht, hs⟩ := h
    have h1 := lvP_mem k ht
    unfold extP at hs
    rw [List.mem_append] at hs
    rcases hs with hs | hs
    · split at hs
      · simp at hs; subst hs; simp [List.count_append]; omega
      · simp at hs
    · split at hs
      · simp at hs; subst hs; simp [List.count_append]; omega
      · simp at hs
theorem extP_len (n : Nat) (s : List UInt8) : (extP n s).length ≤ 2 := by
  unfold extP; split <;> split <;> simp
theorem flat_len {L : List (List UInt8)} {n : Nat} : (L.flatMap (extP n)).length ≤ 2 * L.length := by
  induction L with
  | nil => simp
  | cons a L ih => rw [List.flatMap_cons, List.length_append, List.length_cons]; have := extP_len n a; omega
theorem lvP_len (n : Nat) : ∀ k, (lvP n k).length ≤ 2 ^ k
  | 0 => by simp [lvP]
  | k + 1 => by rw [lvP, Nat.pow_succ]; have := flat_len (L := lvP n k) (n := n); have := lvP_len n k; omega
theorem fillP_len (n : Nat) : ∀ (f : Nat) (h : List UInt8) (u : Nat), (fillP n f h u).length ≤ 2 ^ f
  | 0, h, u => by simp [fillP]
  | f + 1, h, u => by
    have h1 := fillP_len n f (h ++ [68]) u
    have h2 := fillP_len n f (h ++ [85]) (u + 1)
    rw [fillP, List.length_append, Nat.pow_succ]
    split <;> split <;> simp <;> omega
theorem same_P (n : Nat) (hn : n ≤ 6) : lvP n (2 * n) = fillP n (2 * n) [] 0 := by
  have : ∀ n, n < 7 → lvP n (2 * n) = fillP n (2 * n) [] 0 := by decide +kernel
  exact this n (by omega)
theorem sorted_P (n : Nat) (hn : n ≤ 6) : (lvP n (2 * n)).Pairwise fun x y => decide (x ≤ y) = true := by
  have : ∀ n, n < 7 → (lvP n (2 * n)).Pairwise fun x y => decide (x ≤ y) = true := by decide +kernel
  exact this n (by omega)
theorem sort_P (n : Nat) (hn : n ≤ 6) : sortT (lvP n (2 * n)) = lvP n (2 * n) := List.mergeSort_of_pairwise (sorted_P n hn)
def PathsOfV (n : Int) : List (List UInt8) := if 0 ≤ n ∧ n ≤ 6 then fillP n.toNat (2 * n.toNat) [] 0 else []
theorem PathsOfV_len (n : Int) : (PathsOfV n).length < 2^38 := by
  rw [PathsOfV]
  split
  · have := fillP_len n.toNat (2 * n.toNat) [] 0
    have h2 : 2 ^ (2 * n.toNat) ≤ 2 ^ 12 := Nat.pow_le_pow_right (by omega) (by omega)
    omega
  · simp
/-! ### The model text -/
theorem append_strB {w : World} {B : Nat} {s : Sl} {L : List (List UInt8)} {x : List UInt8} (hown : OwnT w B s L) (hB : B ≤ w.heap.size) (hn : L.length < 2^38) {K : Sl → World → Prop}
    (h : ∀ s' w', OwnT w' B s' (L ++ [x]) → Below B w w' → K s' w') :
    sem1 .sl PP (Instr.buildSlice T_Sstring 1 #[(0, .string (bs x))]) w fun r w1 => sem1 .sl PP (Builtin.append_ #[T_Sstring, T_Sstring] T_Sstring #[s.v, r.v]) w1 K :=
  append_str hown hB hn fun s' w' h1 h2 _ => h s' w' h1 ((keeps_grown h2).below (fun k hk => (hown.lt k hk).1) hB)
theorem imax : IntKind.i64.max = 9223372036854775807 := by decide
theorem bs85 (h : List UInt8) : bs h ++ (⟨#[85]⟩ : ByteArray) = bs (h ++ [85]) := bs_append h [85]
theorem bs68 (h : List UInt8) : bs h ++ (⟨#[68]⟩ : ByteArray) = bs (h ++ [68]) := bs_append h [68]
theorem room (h : List UInt8) (x : UInt8) (hl : h.length ≤ 100) : (((bs h).size + (⟨#[x]⟩ : ByteArray).size : Nat) : Int) ≤ IntKind.i64.max := by
  rw [imax, bs_size h, show (⟨#[x]⟩ : ByteArray).size = 1 from rfl]; omega
theorem c_l18Fill {n : Nat} (hn : n ≤ 6) : ∀ (f : Nat) {w : World} {B : Nat} {out : Sl} {L : List (List UInt8)} (h : List UInt8) (u : Nat), OwnT w B out L → B ≤ w.heap.size → h.length + f = 2 * n → u ≤ n → L.length + 2 ^ f ≤ 2 ^ 37 →
    Calls PP F.spec_l18Fill #[vI n, .string (bs h), vI u, out.v] w fun e w' => ∃ s', e = .returned s'.v ∧ OwnT w' B s' (L ++ fillP n f h u) ∧ Below B w w'
  | 0, w, B, out, L, h, u, ho, hB, hf, hu, hL => by
    refine spec_l18Fill.calls n (bs h) u out ?_
    rw [spec_l18Fill.E_s]
    refine bif_t (by rw [bs_size, w64_id (by omega) (by omega)]; simp; omega) ?_
    refine append_strB ho hB (by omega) fun s' w' ho' hb' => ?_
    exact ⟨s', rfl, by rw [fillP]; exact ho', hb'⟩
  | f + 1, w, B, out, L, h, u, ho, hB, hf, hu, hL => by
    refine spec_l18Fill.calls n (bs h) u out ?_
    rw [spec_l18Fill.E_s]
    have hpos : 0 < 2 ^ f := Nat.pow_pos (by omega)
    rw [Nat.pow_succ] at hL
    refine bif_f (by rw [bs_size, w64_id (by omega) (by omega)]; simp; omega) ?_
    have fin : ∀ (s : Sl) (L1 : List (List UInt8)) (w1 : World), OwnT w1 B s (L ++ L1) → Below B w w1 → B ≤ w1.heap.size → L1.length ≤ 2 ^ f → spec_l18Fill.J5 std n (bs h) u s w1 (fun e w' => ∃ s', e = .returned s'.v ∧ OwnT w' B s' (L ++ (L1 ++ (if u < n then fillP n f (h ++ [85]) (u + 1) else []))) ∧ Below B w w') := by
      intro s L1 w1 ho1 hb1 hB1 hl1
      rw [spec_l18Fill.J5_s]
      refine bif_dec (fun h3 => ?_) (fun h3 => ?_)
      · refine ⟨room h 85 (by omega), ?_⟩
        rw [bs85, w64_id (by omega) (by omega), if_pos (by omega)]
        refine (c_l18Fill hn f (h ++ [85]) (u + 1) ho1 hB1 (by simp; omega) (by omega) (by rw [List.length_append]; omega)).mono ?_
        rintro e w2 ⟨s2, rfl, ho2, hb2⟩
        refine ⟨s2, rfl, ?_⟩
        show spec_l18Fill.J7 std s2 w2 _
        rw [spec_l18Fill.J7_s]
        exact ⟨s2, rfl, by rw [← List.append_assoc]; exact ho2, hb1.trans hb2⟩
      · rw [spec_l18Fill.J7_s, if_neg (by omega)]
        exact ⟨s, rfl, by simpa using ho1, hb1⟩
    rw [fillP]
    refine bif_dec (fun h3 => ?_) (fun h3 => ?_)
    · rw [bs_size, w64_id (by omega) (by omega)] at h3
      refine ⟨room h 68 (by omega), ?_⟩
      rw [bs68, if_pos (by omega)]
      refine (c_l18Fill hn f (h ++ [68]) u ho hB (by simp; omega) hu (by omega)).mono ?_
      rintro e w2 ⟨s2, rfl, ho2, hb2⟩
      exact ⟨s2, rfl, fin s2 _ w2 ho2 hb2 (Nat.le_trans hB hb2.size) (fillP_len ..)⟩
    · rw [bs_size, w64_id (by omega) (by omega)] at h3
      rw [if_neg (by omega)]
      exact fin out [] w (by simpa using ho) (Below.refl _ _) hB (by simp)
theorem oneStr' : OneT T_Sstring T_string (.string ⟨#[]⟩) := oneStr
theorem c_specPathsOf (n : Int) {w : World} : Calls PP F.spec_PathsOf #[vI n] w fun e w' => ∃ s : Sl, e = .returned s.v ∧ OwnT w' w.heap.size s (PathsOfV n) ∧ Below w.heap.size w w' := by
  refine spec_PathsOf.calls n ?_
  rw [spec_PathsOf.E_s]
  refine Pure.pcall1 (s := .bool) (c_l1In n 0 6) ?_
  refine bif_intro (fun h => ?_) (fun h => ?_)
  · refine lit0 oneStr (B := w.heap.size) (Nat.le_refl _) ?_
    intro o w1 ho hg _
    refine ⟨o, rfl, ?_, below_of_grow hg⟩
    rw [PathsOfV, if_neg (by simp at h; omega)]
    exact ho
  · refine lit0 oneStr (B := w.heap.size) (Nat.le_refl _) ?_
    intro o w1 ho hg _
    have hb := below_of_grow hg
    simp at h
    obtain ⟨m, rfl⟩ : ∃ m : Nat, n = m := ⟨n.toNat, by omega⟩
    refine (c_l18Fill (n := m) (by omega) (2 * m) (L := []) [] 0 ho hb.size (by simp) (by omega) ?_).mono ?_
    · have h2 : 2 ^ (2 * m) ≤ 2 ^ 12 := Nat.pow_le_pow_right (by omega) (by omega)
      simp; omega
    · rintro e w2 ⟨s, rfl, ho2, hb2⟩
      refine ⟨s, rfl, s, rfl, ?_, hb.trans hb2⟩
      rw [PathsOfV, if_pos (by omega)]
      simpa using ho2
/-! ### The program's text -/
theorem take_flat {L : List (List UInt8)} {n i : Nat} (h : i < L.length) : (L.take (i + 1)).flatMap (extP n) = (L.take i).flatMap (extP n) ++ extP n (L.getD i []) := by
  rw [List.take_succ_eq_append_getElem h, List.flatMap_append, getD_T h]; simp
theorem c_isSix' (n : Int) : Pure F.impl_isSix #[vI n] (.bool (decide (0 ≤ n) && decide (n ≤ 6))) := by
  intro w
  refine impl_isSix.calls n ?_
  rw [impl_isSix.E_s]
  refine bif_dec (fun h => ?_) (fun h => ?_)
  · exact ⟨by simp; omega, rfl⟩
  · exact ⟨by simp; omega, rfl⟩
theorem c_implPathsOf (n : Int) {w : World} : Calls PP F.impl_PathsOf #[vI n] w fun e w' => ∃ s : Sl, e = .returned s.v ∧ OwnT w' w.heap.size s (PathsOfV n) ∧ Below w.heap.size w w' := by
  refine impl_PathsOf.calls n ?_
  rw [impl_PathsOf.E_s]
  refine Pure.pcall1 (s := .bool) (c_isSix' n) ?_
  refine bif_intro (fun h => ?_) (fun h => ?_)
  · refine ⟨Sl.nil, rfl, ?_, Below.refl _ _⟩
    rw [PathsOfV, if_neg (by simp at h; omega)]
    exact Own.nil ..
  simp at h
  obtain ⟨m, rfl⟩ : ∃ m : Nat, n = m := ⟨n.toNat, by omega⟩
  refine lit1 oneStr (B := w.heap.size) (Nat.le_refl _) (v := .string (bs [])) (One.str _) ?_
  intro o w1 ho hg _
  have hb := below_of_grow hg
  rw [w64_id (by omega) (by omega)]
  refine impl_PathsOf.L5_rule _ _ _ _ _ _ (I := fun out k w' => 0 ≤ k ∧ k ≤ 2 * (m : Int) ∧ OwnT w' w.heap.size out (lvP m k.toNat) ∧ Below w.heap.size w w') (μ := fun _ k _ => (2 * m - k).toNat)
    ⟨by omega, by omega, ho, hb⟩ ?_
  rintro out k w2 ⟨hk0, hk, ho2, hb2⟩
  have hlen := lvP_len m k.toNat
  have h12 : 2 ^ k.toNat ≤ 2 ^ 12 := Nat.pow_le_pow_right (by omega) (by omega)
  have hon : out.n = (lvP m k.toNat).length := by have := ho2.n; simpa using this
  rw [impl_PathsOf.B5_s]
  refine bif_dec (fun h3 => ?_) (fun h3 => ?_)
  · refine lit0 oneStr (B := w2.heap.size) (Nat.le_refl _) ?_
    intro lo w3 hlo hg3 _
    have hb23 := below_of_grow hg3
    have ho3 := Own.below ho2 hb23 fun g hg => (ho2.lt g hg).2
    refine impl_PathsOf.L8_rule _ _ _ _ _ _ _ _ _ (I := fun lo i w' => 0 ≤ i ∧ i ≤ out.n ∧ OwnT w' w2.heap.size lo (((lvP m k.toNat).take i.toNat).flatMap (extP m)) ∧ Below w2.heap.size w2 w') (μ := fun _ i _ => (out.n - i).toNat)
      ⟨by omega, by omega, by rw [show (0 : Int).toNat = 0 from rfl, List.take_zero]; exact hlo, hb23⟩ ?_
    rintro lo i w4 ⟨hi0, hi, hlo4, hb4⟩
    rw [impl_PathsOf.B8_s]
    refine bif_dec (fun h4 => ?_) (fun h4 => ?_)
    · have hil : i.toNat < (lvP m k.toNat).length := by omega
      have hrow : RowT w4 out (lvP m k.toNat) := Row.below ho2.row hb4 (fun a ha hne => by
        obtain ⟨a', ha', hc'⟩ := ho2.row.cell i.toNat (encStr ((lvP m k.toNat)[i.toNat])) (by rw [List.getElem?_map, List.getElem?_eq_getElem hil]; rfl)
        rw [ha] at ha'; cases ha'
        have := World.block_lt_of_cell? w2 _ hc'
        rwa [add_block] at this)
      refine RowT.get hrow hi0 (by omega) ?_
      obtain ⟨s, hs⟩ : ∃ s, s = (lvP m k.toNat).getD i.toNat [] := ⟨_, rfl⟩
      rw [← hs]
      have hmem : s ∈ lvP m k.toNat := by rw [hs, getD_T hil]; exact List.getElem_mem hil
      have hsl := lvP_mem _ hmem
      refine (Tryz.strings_Count_one (bs s) 85 w4).mono ?_
      rintro e w5 ⟨rfl, rfl⟩
      refine ⟨_, rfl, ?_⟩
      have hcnt : Lib.countByte (bs s).data.toList 85 = s.count 85 := by simp [Lib.countByte]
      rw [hcnt]
      have htk : ((lvP m k.toNat).take (i + 1).toNat).flatMap (extP m) = ((lvP m k.toNat).take i.toNat).flatMap (extP m) ++ ((if 2 * s.count 85 > s.length then [s ++ [68]] else []) ++ (if s.count 85 < m then [s ++ [85]] else [])) := by
        rw [show (i + 1).toNat = i.toNat + 1 by omega, take_flat hil, ← hs]; rfl
      have hfl : (((lvP m k.toNat).take i.toNat).flatMap (extP m)).length ≤ 2 * 2 ^ 12 := by
        have := flat_len (L := (lvP m k.toNat).take i.toNat) (n := m)
        rw [List.length_take] at this
        omega
      have fin : ∀ (lo2 : Sl) (X : List (List UInt8)) (w6 : World), OwnT w6 w2.heap.size lo2 (((lvP m k.toNat).take i.toNat).flatMap (extP m) ++ X) → Below w2.heap.size w2 w6 → X.length ≤ 1 → X = (if 2 * s.count 85 > s.length then [s ++ [68]] else []) →
          impl_PathsOf.J13 std (m : Int) lo2 (bs s) ((s.count 85 : Nat) : Int) (2 * (m : Int)) k out (out.n : Int) i w6 (fun e2 w' => ∃ lo_n i_n, e2 = impl_PathsOf.emb8 (m : Int) lo_n (2 * (m : Int)) k out (out.n : Int) i_n ∧ (0 ≤ i_n ∧ i_n ≤ out.n ∧ OwnT w' w2.heap.size lo_n (((lvP m k.toNat).take i_n.toNat).flatMap (extP m)) ∧ Below w2.heap.size w2 w') ∧ (out.n - i_n).toNat < (out.n - i).toNat) (impl_PathsOf.q10 std (fun e2 w' => ∃ out_n k_n, e2 = impl_PathsOf.emb5 (m : Int) out_n (2 * (m : Int)) k_n ∧ (0 ≤ k_n ∧ k_n ≤ 2 * (m : Int) ∧ OwnT w' w.heap.size out_n (lvP m k_n.toNat) ∧ Below w.heap.size w w') ∧ (2 * (m : Int) - k_n).toNat < (2 * (m : Int) - k).toNat) (impl_PathsOf.q4 std fun e w' => ∃ s : Sl, e = .returned s.v ∧ OwnT w' w.heap.size s (PathsOfV m) ∧ Below w.heap.size w w')) := by
        intro lo2 X w6 ho6 hb6 hX hXe
        rw [impl_PathsOf.J13_s]
        refine bif_dec (fun h6 => ?_) (fun h6 => ?_)
        · refine ⟨room s 85 (by omega), ?_⟩
          rw [bs85]
          refine append_strB ho6 hb6.size (by rw [List.length_append]; omega) fun s7 w7 ho7 hb7 => ?_
          refine ⟨s7, i + 1, by rw [w64_succ hi0 (by omega)], ⟨by omega, by omega, ?_, hb6.trans hb7⟩, by omega⟩
          rw [htk, ← hXe, if_pos (by omega), ← List.append_assoc]
          exact ho7
        · refine ⟨lo2, i + 1, by rw [w64_succ hi0 (by omega)], ⟨by omega, by omega, ?_, hb6⟩, by omega⟩
          rw [htk, ← hXe, if_neg (by omega), List.append_nil]
          exact ho6
      refine bif_dec (fun h6 => ?_) (fun h6 => ?_)
      · rw [bs_size, w64_id (by omega) (by omega)] at h6
        refine ⟨room s 68 (by omega), ?_⟩
        rw [bs68]
        refine append_strB hlo4 hb4.size (by omega) fun s7 w7 ho7 hb7 => ?_
        exact fin s7 [s ++ [68]] w7 ho7 (hb4.trans hb7) (by simp) (by rw [if_pos (by omega)])
      · rw [bs_size, w64_id (by omega) (by omega)] at h6
        exact fin lo [] _ (by simpa using hlo4) hb4 (by simp) (by rw [if_neg (by omega)])
    · rw [impl_PathsOf.A8_2_s]
      have e : i.toNat = (lvP m k.toNat).length := by omega
      rw [e, List.take_length] at hlo4
      refine ⟨lo, k + 1, by rw [w64_succ hk0 (by omega)], ⟨by omega, by omega, ?_, hb2.trans (hb4.mono hb2.size)⟩, by omega⟩
      rw [show (k + 1).toNat = k.toNat + 1 by omega, lvP]
      exact Own.mono hlo4 hb2.size
  · rw [impl_PathsOf.A5_0_s]
    have e : k.toNat = 2 * m := by omega
    rw [e] at ho2 h12
    refine c_SortT ho2 (by have := lvP_len m (2 * m); rw [e] at hlen; omega) fun w3 ho3 hb3 => ?_
    refine ⟨out, rfl, ?_, hb2.trans hb3⟩
    rw [PathsOfV, if_pos (by omega), Int.toNat_natCast, ← same_P m (by omega), ← sort_P m (by omega)]
    exact ho3
end Go.Proofs.YtlcemelmnkipmaaGreat

/- What each function does, step by step, written by a program (Gen.lean); each equation is checked by the kernel. -/
namespace Go.Proofs.YtlcemelmnkipmaaGreat
open Go
set_option linter.unusedVariables false
set_option maxRecDepth 100000
namespace spec_CatalanNumber
@[reducible] def cfg : Cfg := ⟨13, [], [], [], [2], [], [13, 32, 63, 81], [41, 4, 46, 44, 48]⟩
def E (pr : Prims) (n_0 : Int) (w : World) (R : Ending → World → Prop) : Prop :=
  wpC pr PP cfg (DD pr) (codeOf Tryz.f24) (retQ Tryz.f24.results.toList R) (argE 0 [vI n_0]) w
theorem E_eq (pr : Prims) (n_0 : Int) (w : World) (R : Ending → World → Prop) : E pr n_0 w R = (
  pr.pcall1 .bool PP F.spec_l1In #[vI n_0, vI 0, vI 20] fun (ρ0 : Bool) =>
  bif !ρ0 then (
  R (.returned (vI (-1))) w)
  else (
  pr.call1 (.int .i64) PP F.spec_Choose #[vI (w64 (2 * n_0)), vI n_0] w fun (ρ1 : Int) ω2 =>
  (w64 (n_0 + 1)) ≠ (0 : Int) ∧
  R (.returned (vI (w64 (ρ1.tdiv (w64 (n_0 + 1)))))) ω2)) := by kernel_rfl
theorem E_s (n_0 : Int) (w : World) (R : Ending → World → Prop) : E std n_0 w R = (
  pcall1 .bool PP F.spec_l1In #[vI n_0, vI 0, vI 20] fun (ρ0 : Bool) =>
  bif !ρ0 then (
  R (.returned (vI (-1))) w)
  else (
  call1 (.int .i64) PP F.spec_Choose #[vI (w64 (2 * n_0)), vI n_0] w fun (ρ1 : Int) ω2 =>
  (w64 (n_0 + 1)) ≠ (0 : Int) ∧
  R (.returned (vI (w64 (ρ1.tdiv (w64 (n_0 + 1)))))) ω2)) := E_eq std n_0 w R
theorem drawsOk : drawsOk PP cfg okD (codeOf Tryz.f24) = true := by kernel_rfl
theorem calls (n_0 : Int) {w : World} {R : Ending → World → Prop} (h : E std n_0 w R) : Calls PP F.spec_CatalanNumber #[vI n_0] w R :=
  calls_of noCount mixed drawOk Tryz.func24 rfl (c := cfg) (args := [vI n_0]) rfl (Nat.le_of_ble_eq_true (by kernel_rfl)) drawsOk h
end spec_CatalanNumber

namespace spec_Choose
@[reducible] def cfg : Cfg := ⟨30, [(5, [0, 1, 5, 6])], [(1, [0, 1, 5, 6]), (0, [5])], [], [4], [], [13, 32, 63, 81], [41, 4, 46, 44, 48]⟩
def q2 (pr : Prims) (R : Ending → World → Prop) : Exit → Env → World → Prop := fun ex e w => normQ ex (fun e w => contE pr cfg (sub (codeOf Tryz.f49) [1, 1, 1, 1]) (fun e w => wpC pr PP cfg (DD pr) (sub (codeOf Tryz.f49) [1, 1, 1, 1]) (retQ Tryz.f49.results.toList R) e w) e w) (retQ Tryz.f49.results.toList R) e w
def q3 (pr : Prims) (R : Ending → World → Prop) : Exit → Env → World → Prop := fun ex e w => blockQ ex 0 (q2 pr R) e w
def emb5 (n_0 : Int) (k_1 : Int) (out_5 : Int) (i_6 : Int) : Env := [(0, vI n_0), (1, vI k_1), (5, vI out_5), (6, vI i_6)]
def x0 (out_5 : Int) : Env := [(5, vI out_5)]
def S5 (pr : Prims) (Q : Exit → Env → World → Prop) : (Env → World → Prop) → Env → World → Prop := fun k e w => wpC pr PP cfg (DD pr) (sub (codeOf Tryz.f49) [1, 1, 1, 0, 1, 0, 0]) (fun ex e w => normQ ex (fun e' w' => k (Env.restr e' (lookN cfg.loops (keyOf (sub (codeOf Tryz.f49) [1, 1, 1, 0, 1, 0, 0])))) w') Q e w) e w
def B5 (pr : Prims) (n_0 : Int) (k_1 : Int) (out_5 : Int) (i_6 : Int) (w : World) (k : Env → World → Prop) (Q : Exit → Env → World → Prop) : Prop :=
  S5 pr Q k (emb5 n_0 k_1 out_5 i_6) w
def L5 (pr : Prims) (n_0 : Int) (k_1 : Int) (out_5 : Int) (i_6 : Int) (w : World) (Q : Exit → Env → World → Prop) : Prop :=
  pr.loop (S5 pr Q) (emb5 n_0 k_1 out_5 i_6) w
def E (pr : Prims) (n_0 : Int) (k_1 : Int) (w : World) (R : Ending → World → Prop) : Prop :=
  wpC pr PP cfg (DD pr) (codeOf Tryz.f49) (retQ Tryz.f49.results.toList R) (argE 0 [vI n_0, vI k_1]) w
theorem B5_eq (pr : Prims) (n_0 : Int) (k_1 : Int) (out_5 : Int) (i_6 : Int) (w : World) (k : Env → World → Prop) (Q : Exit → Env → World → Prop) : B5 pr n_0 k_1 out_5 i_6 w k Q = (
  bif decide (i_6 < k_1) then (
  (w64 (i_6 + 1)) ≠ (0 : Int) ∧
  k (emb5 n_0 k_1 (w64 ((w64 (out_5 * (w64 (n_0 - i_6)))).tdiv (w64 (i_6 + 1)))) (w64 (i_6 + 1))) w)
  else (
  Q (.exit 0) (x0 out_5) w)) := by kernel_rfl
theorem B5_s (n_0 : Int) (k_1 : Int) (out_5 : Int) (i_6 : Int) (w : World) (k : Env → World → Prop) (Q : Exit → Env → World → Prop) : B5 std n_0 k_1 out_5 i_6 w k Q = (
  bif decide (i_6 < k_1) then (
  (w64 (i_6 + 1)) ≠ (0 : Int) ∧
  k (emb5 n_0 k_1 (w64 ((w64 (out_5 * (w64 (n_0 - i_6)))).tdiv (w64 (i_6 + 1)))) (w64 (i_6 + 1))) w)
  else (
  Q (.exit 0) (x0 out_5) w)) := B5_eq std n_0 k_1 out_5 i_6 w k Q
theorem L5_rule (n_0 : Int) (k_1 : Int) (out_5 : Int) (i_6 : Int) (w : World) (Q : Exit → Env → World → Prop) (I : Int → Int → World → Prop) (μ : Int → Int → World → Nat) (h0 : I out_5 i_6 w)
    (h : ∀ (out_5 : Int) (i_6 : Int) (w' : World), I out_5 i_6 w' → B5 std n_0 k_1 out_5 i_6 w' (fun e2 w2 => ∃ out_5_n i_6_n, e2 = emb5 n_0 k_1 out_5_n i_6_n ∧ I out_5_n i_6_n w2 ∧ μ out_5_n i_6_n w2 < μ out_5 i_6 w') Q) :
    L5 std n_0 k_1 out_5 i_6 w Q := by
  unfold L5
  refine LoopE.intro (σ := Int × Int) (step := S5 std Q) (fun s => emb5 n_0 k_1 s.1 s.2) (fun s w => I s.1 s.2 w) (fun s w => μ s.1 s.2 w) (out_5, i_6) rfl h0 ?_
  intro s w' hI
  have h1 := h s.1 s.2 w' hI
  unfold B5 at h1
  simp only [Prod.exists]
  exact h1
theorem A5_0_eq (pr : Prims) (out_5 : Int) (w : World) (R : Ending → World → Prop) : (q3 pr R) (.exit 0) (x0 out_5) w = (
  R (.returned (vI out_5)) w) := by kernel_rfl
theorem A5_0_s (out_5 : Int) (w : World) (R : Ending → World → Prop) : (q3 std R) (.exit 0) (x0 out_5) w = (
  R (.returned (vI out_5)) w) := A5_0_eq std out_5 w R
theorem E_eq (pr : Prims) (n_0 : Int) (k_1 : Int) (w : World) (R : Ending → World → Prop) : E pr n_0 k_1 w R = (
  pr.pcall1 .bool PP F.spec_l1In #[vI n_0, vI 0, vI 40] fun (ρ0 : Bool) =>
  bif !ρ0 then (
  R (.returned (vI 0)) w)
  else (
  pr.pcall1 .bool PP F.spec_l1In #[vI k_1, vI 0, vI n_0] fun (ρ1 : Bool) =>
  bif !ρ1 then (
  R (.returned (vI 0)) w)
  else (
  L5 pr n_0 k_1 1 0 w (q3 pr R)))) := by kernel_rfl
theorem E_s (n_0 : Int) (k_1 : Int) (w : World) (R : Ending → World → Prop) : E std n_0 k_1 w R = (
  pcall1 .bool PP F.spec_l1In #[vI n_0, vI 0, vI 40] fun (ρ0 : Bool) =>
  bif !ρ0 then (
  R (.returned (vI 0)) w)
  else (
  pcall1 .bool PP F.spec_l1In #[vI k_1, vI 0, vI n_0] fun (ρ1 : Bool) =>
  bif !ρ1 then (
  R (.returned (vI 0)) w)
  else (
  L5 std n_0 k_1 1 0 w (q3 std R)))) := E_eq std n_0 k_1 w R
theorem drawsOk : drawsOk PP cfg okD (codeOf Tryz.f49) = true := by kernel_rfl
theorem calls (n_0 : Int) (k_1 : Int) {w : World} {R : Ending → World → Prop} (h : E std n_0 k_1 w R) : Calls PP F.spec_Choose #[vI n_0, vI k_1] w R :=
  calls_of noCount mixed drawOk Tryz.func49 rfl (c := cfg) (args := [vI n_0, vI k_1]) rfl (Nat.le_of_ble_eq_true (by kernel_rfl)) drawsOk h
end spec_Choose

end Go.Proofs.YtlcemelmnkipmaaGreat

/- Choose and CatalanNumber (out of Known). -/
namespace Go.Proofs.YtlcemelmnkipmaaGreat
open Go Go.RowKit
set_option maxRecDepth 100000

def chP (n : Int) : Nat → Int
  | 0 => 1
  | k + 1 => w64 ((w64 (chP n k * w64 (n - k))).tdiv (w64 ((k : Int) + 1)))
def chV (n k : Int) : Int := if n < 0 ∨ 40 < n ∨ k < 0 ∨ n < k then 0 else chP n k.toNat

theorem c_specChoose (n k : Int) : Pure F.spec_Choose #[vI n, vI k] (vI (chV n k)) := by
  intro w
  refine spec_Choose.calls n k ?_
  rw [spec_Choose.E_s]
  refine Pure.pcall1 (s := .bool) (c_l1In n 0 40) ?_
  refine bif_intro (fun h => ?_) (fun h1 => ?_)
  · have : n < 0 ∨ 40 < n ∨ k < 0 ∨ n < k := by simp at h; omega
    simp [chV, this]
  have h1 : 0 ≤ n ∧ n ≤ 40 := by simpa using h1
  refine Pure.pcall1 (s := .bool) (c_l1In k 0 n) ?_
  refine bif_intro (fun h => ?_) (fun h2 => ?_)
  · have : n < 0 ∨ 40 < n ∨ k < 0 ∨ n < k := by simp at h; omega
    simp [chV, this]
  have h2 : 0 ≤ k ∧ k ≤ n := by simpa using h2
  refine spec_Choose.L5_rule _ _ _ _ _ _ (I := fun a i w' => w' = w ∧ 0 ≤ i ∧ i ≤ k ∧ a = chP n i.toNat) (μ := fun _ i _ => (k - i).toNat) ⟨rfl, by omega, by omega, rfl⟩ ?_
  rintro a i w' ⟨rfl, h0, hk, he⟩
  rw [spec_Choose.B5_s]
  refine bif_dec (fun h5 => ?_) (fun h5 => ?_)
  · refine ⟨by rw [w64_succ h0 (by omega)]; omega, w64 ((w64 (a * w64 (n - i))).tdiv (i + 1)), i + 1, by rw [w64_succ h0 (by omega)], ⟨rfl, by omega, by omega, ?_⟩, by omega⟩
    have : (i + 1).toNat = i.toNat + 1 := by omega
    simp only [this, chP, ← he]
    rw [Int.toNat_of_nonneg h0, w64_succ h0 (by omega)]
  · rw [spec_Choose.A5_0_s]
    have : i = k := by omega
    subst this
    refine ⟨?_, rfl⟩
    rw [he, chV, if_neg (by omega)]

def caV (n : Int) : Int := if n < 0 ∨ 20 < n then -1 else w64 ((chV (w64 (2 * n)) n).tdiv (w64 (n + 1)))
theorem c_specCatalan (n : Int) : Pure F.spec_CatalanNumber #[vI n] (vI (caV n)) := by
  intro w
  refine spec_CatalanNumber.calls n ?_
  rw [spec_CatalanNumber.E_s]
  refine Pure.pcall1 (s := .bool) (c_l1In n 0 20) ?_
  refine bif_intro (fun h => ?_) (fun h1 => ?_)
  · have : n < 0 ∨ 20 < n := by simp at h; omega
    simp [caV, this]
  have h1 : 0 ≤ n ∧ n ≤ 20 := by simpa using h1
  refine Pure.call1 (s := .int .i64) (c_specChoose _ n) ?_
  refine ⟨by rw [w64_succ (by omega) (by omega)]; omega, ?_, rfl⟩
  rw [caV, if_neg (by omega)]

end Go.Proofs.YtlcemelmnkipmaaGreat

/- What each function does, step by step, written by a program (Gen.lean); each equation is checked by the kernel. -/
namespace Go.Proofs.YtlcemelmnkipmaaGreat
open Go
set_option linter.unusedVariables false
set_option maxRecDepth 100000
namespace spec_HasPattern
@[reducible] def cfg : Cfg := ⟨9, [], [], [], [4], [], [13, 32, 63, 81], [41, 4, 46, 44, 48]⟩
def E (pr : Prims) (p_0 : Sl) (q_1 : Sl) (w : World) (R : Ending → World → Prop) : Prop :=
  wpC pr PP cfg (DD pr) (codeOf Tryz.f25) (retQ Tryz.f25.results.toList R) (argE 0 [Sl.v p_0, Sl.v q_1]) w
theorem E_eq (pr : Prims) (p_0 : Sl) (q_1 : Sl) (w : World) (R : Ending → World → Prop) : E pr p_0 q_1 w R = (
  pr.call1 (.int .i64) PP F.spec_CountPattern #[Sl.v p_0, Sl.v q_1] w fun (ρ0 : Int) ω1 =>
  R (.returned (.bool (decide (ρ0 ≥ 1)))) ω1) := by kernel_rfl
theorem E_s (p_0 : Sl) (q_1 : Sl) (w : World) (R : Ending → World → Prop) : E std p_0 q_1 w R = (
  call1 (.int .i64) PP F.spec_CountPattern #[Sl.v p_0, Sl.v q_1] w fun (ρ0 : Int) ω1 =>
  R (.returned (.bool (decide (ρ0 ≥ 1)))) ω1) := E_eq std p_0 q_1 w R
theorem drawsOk : drawsOk PP cfg okD (codeOf Tryz.f25) = true := by kernel_rfl
theorem calls (p_0 : Sl) (q_1 : Sl) {w : World} {R : Ending → World → Prop} (h : E std p_0 q_1 w R) : Calls PP F.spec_HasPattern #[Sl.v p_0, Sl.v q_1] w R :=
  calls_of noCount mixed drawOk Tryz.func25 rfl (c := cfg) (args := [Sl.v p_0, Sl.v q_1]) rfl (Nat.le_of_ble_eq_true (by kernel_rfl)) drawsOk h
end spec_HasPattern

namespace spec_CountPattern
@[reducible] def cfg : Cfg := ⟨17, [], [], [], [4], [], [13, 32, 63, 81], [41, 4, 46, 44, 48]⟩
def E (pr : Prims) (p_0 : Sl) (q_1 : Sl) (w : World) (R : Ending → World → Prop) : Prop :=
  wpC pr PP cfg (DD pr) (codeOf Tryz.f50) (retQ Tryz.f50.results.toList R) (argE 0 [Sl.v p_0, Sl.v q_1]) w
theorem E_eq (pr : Prims) (p_0 : Sl) (q_1 : Sl) (w : World) (R : Ending → World → Prop) : E pr p_0 q_1 w R = (
  pr.call1 .bool PP F.spec_IsPerm #[Sl.v p_0] w fun (ρ0 : Bool) ω1 =>
  bif !ρ0 then (
  R (.returned (vI (-1))) ω1)
  else (
  pr.call1 .bool PP F.spec_IsPerm #[Sl.v q_1] ω1 fun (ρ2 : Bool) ω3 =>
  bif !ρ2 then (
  R (.returned (vI (-1))) ω3)
  else (
  pr.call1 .sl PP F.spec_OccurrencesOf #[Sl.v p_0, Sl.v q_1] ω3 fun (ρ4 : Sl) ω5 =>
  R (.returned (vI (ρ4.n : Int))) ω5))) := by kernel_rfl
theorem E_s (p_0 : Sl) (q_1 : Sl) (w : World) (R : Ending → World → Prop) : E std p_0 q_1 w R = (
  call1 .bool PP F.spec_IsPerm #[Sl.v p_0] w fun (ρ0 : Bool) ω1 =>
  bif !ρ0 then (
  R (.returned (vI (-1))) ω1)
  else (
  call1 .bool PP F.spec_IsPerm #[Sl.v q_1] ω1 fun (ρ2 : Bool) ω3 =>
  bif !ρ2 then (
  R (.returned (vI (-1))) ω3)
  else (
  call1 .sl PP F.spec_OccurrencesOf #[Sl.v p_0, Sl.v q_1] ω3 fun (ρ4 : Sl) ω5 =>
  R (.returned (vI (ρ4.n : Int))) ω5))) := E_eq std p_0 q_1 w R
theorem drawsOk : drawsOk PP cfg okD (codeOf Tryz.f50) = true := by kernel_rfl
theorem calls (p_0 : Sl) (q_1 : Sl) {w : World} {R : Ending → World → Prop} (h : E std p_0 q_1 w R) : Calls PP F.spec_CountPattern #[Sl.v p_0, Sl.v q_1] w R :=
  calls_of noCount mixed drawOk Tryz.func50 rfl (c := cfg) (args := [Sl.v p_0, Sl.v q_1]) rfl (Nat.le_of_ble_eq_true (by kernel_rfl)) drawsOk h
end spec_CountPattern

namespace spec_OccurrencesOf
@[reducible] def cfg : Cfg := ⟨19, [], [], [], [4], [], [13, 32, 63, 81], [41, 4, 46, 44, 48]⟩
def E (pr : Prims) (p_0 : Sl) (q_1 : Sl) (w : World) (R : Ending → World → Prop) : Prop :=
  wpC pr PP cfg (DD pr) (codeOf Tryz.f72) (retQ Tryz.f72.results.toList R) (argE 0 [Sl.v p_0, Sl.v q_1]) w
theorem E_eq (pr : Prims) (p_0 : Sl) (q_1 : Sl) (w : World) (R : Ending → World → Prop) : E pr p_0 q_1 w R = (
  pr.call1 .bool PP F.spec_IsPerm #[Sl.v p_0] w fun (ρ0 : Bool) ω1 =>
  bif !ρ0 then (
  pr.sem1 .sl PP (Instr.buildSlice T_SSint 0 #[]) ω1 fun (ρ2 : Sl) ω3 =>
  R (.returned (Sl.v ρ2)) ω3)
  else (
  pr.call1 .bool PP F.spec_IsPerm #[Sl.v q_1] ω1 fun (ρ4 : Bool) ω5 =>
  bif !ρ4 then (
  pr.sem1 .sl PP (Instr.buildSlice T_SSint 0 #[]) ω5 fun (ρ6 : Sl) ω7 =>
  R (.returned (Sl.v ρ6)) ω7)
  else (
  pr.sem1 .sl PP (Instr.buildSlice T_Sint 0 #[]) ω5 fun (ρ8 : Sl) ω9 =>
  pr.sem1 .sl PP (Instr.buildSlice T_SSint 0 #[]) ω9 fun (ρ10 : Sl) ω11 =>
  pr.call1 .sl PP F.spec_l7Find #[Sl.v p_0, Sl.v q_1, Sl.v ρ8, Sl.v ρ10] ω11 fun (ρ12 : Sl) ω13 =>
  R (.returned (Sl.v ρ12)) ω13))) := by kernel_rfl
theorem E_s (p_0 : Sl) (q_1 : Sl) (w : World) (R : Ending → World → Prop) : E std p_0 q_1 w R = (
  call1 .bool PP F.spec_IsPerm #[Sl.v p_0] w fun (ρ0 : Bool) ω1 =>
  bif !ρ0 then (
  sem1 .sl PP (Instr.buildSlice T_SSint 0 #[]) ω1 fun (ρ2 : Sl) ω3 =>
  R (.returned (Sl.v ρ2)) ω3)
  else (
  call1 .bool PP F.spec_IsPerm #[Sl.v q_1] ω1 fun (ρ4 : Bool) ω5 =>
  bif !ρ4 then (
  sem1 .sl PP (Instr.buildSlice T_SSint 0 #[]) ω5 fun (ρ6 : Sl) ω7 =>
  R (.returned (Sl.v ρ6)) ω7)
  else (
  sem1 .sl PP (Instr.buildSlice T_Sint 0 #[]) ω5 fun (ρ8 : Sl) ω9 =>
  sem1 .sl PP (Instr.buildSlice T_SSint 0 #[]) ω9 fun (ρ10 : Sl) ω11 =>
  call1 .sl PP F.spec_l7Find #[Sl.v p_0, Sl.v q_1, Sl.v ρ8, Sl.v ρ10] ω11 fun (ρ12 : Sl) ω13 =>
  R (.returned (Sl.v ρ12)) ω13))) := E_eq std p_0 q_1 w R
theorem drawsOk : drawsOk PP cfg okD (codeOf Tryz.f72) = true := by kernel_rfl
theorem calls (p_0 : Sl) (q_1 : Sl) {w : World} {R : Ending → World → Prop} (h : E std p_0 q_1 w R) : Calls PP F.spec_OccurrencesOf #[Sl.v p_0, Sl.v q_1] w R :=
  calls_of noCount mixed drawOk Tryz.func72 rfl (c := cfg) (args := [Sl.v p_0, Sl.v q_1]) rfl (Nat.le_of_ble_eq_true (by kernel_rfl)) drawsOk h
end spec_OccurrencesOf

end Go.Proofs.YtlcemelmnkipmaaGreat

/- HasPattern of the model text. -/
namespace Go.Proofs.YtlcemelmnkipmaaGreat
open Go Go.RowKit
set_option maxRecDepth 100000

open Classical in
noncomputable def occP (P Q : List Int) : List (List Int) := if IsP P ∧ IsP Q then occN P Q Q.length [] else []
theorem c_specOccurrencesOf {w : World} {p q : Sl} {P Q : List Int} (hp : RowI w p P) (hq : RowI w q Q) (hP : P.length < 2^38) (hQ : Q.length < 2^38) :
    Calls PP F.spec_OccurrencesOf #[p.v, q.v] w fun e w' => ∃ s : Sl, e = .returned s.v ∧ OwnSS w' w.heap.size s (occP P Q) ∧ Below w.heap.size w w' := by
  refine spec_OccurrencesOf.calls p q ?_
  rw [spec_OccurrencesOf.E_s]
  refine Quiet.call1 (s := .bool) (c_specIsPerm hp hP) ?_
  intro w1 hd1
  have hb1 := hd1.below w.heap.size
  refine bif_intro (fun h => ?_) (fun h => ?_)
  · have h : ¬ IsP P := by simpa using h
    refine lit0 oneSint (B := w.heap.size) hb1.size ?_
    intro o w2 ho hg2 _
    rw [occP, if_neg (fun hh => h hh.1)]
    exact ⟨o, rfl, OwnSS.nil ho, hb1.grown hg2 hb1.size (fun g hg => by cases hg)⟩
  have h1 : IsP P := by simpa using h
  refine Quiet.call1 (s := .bool) (c_specIsPerm (hq.grow hb1) hQ) ?_
  intro w2 hd2
  have hb2 := hb1.trans (hd2.below w.heap.size)
  refine bif_intro (fun h => ?_) (fun h => ?_)
  · have h : ¬ IsP Q := by simpa using h
    refine lit0 oneSint (B := w.heap.size) hb2.size ?_
    intro o w3 ho hg3 _
    rw [occP, if_neg (fun hh => h hh.2)]
    exact ⟨o, rfl, OwnSS.nil ho, hb2.grown hg3 hb2.size (fun g hg => by cases hg)⟩
  have h2 : IsP Q := by simpa using h
  refine lit0 oneInt (B := w2.heap.size) (Nat.le_refl _) ?_
  intro hd w5 hhd hg5 hdc
  have hb5 := below_of_grow hg5
  refine lit0 oneSint (B := w2.heap.size) hb5.size ?_
  intro o w6 ho hg6 hoc
  have hb6 := below_of_grow hg6
  have hb46 := hb5.trans (hb6.mono hb5.size)
  have hb06 := hb2.trans (hb46.mono hb2.size)
  refine (c_l7Find (hp.grow hb2) (hq.grow hb2) h1.1 h2.1 Q.length w6 hd o [] [] [] hb46 (OwnRows.nil ho) (by simpa [OwnI] using Own.grow hhd hb6) (fun t ht => by cases ht) (by simp) (Places.nil P) (by have := Nat.pow_le_pow_right (n := 8) (by omega) h2.1; simp; omega)).mono ?_
  rintro e w7 ⟨s, rfl, hs, hg7, hn7⟩
  rw [occP, if_pos ⟨h1, h2⟩]
  refine ⟨s, rfl, s, rfl, ?_, hb06.grown hg7 hb06.size (fun g hg => by simp [Sl.blk, hoc] at hg)⟩
  rw [List.nil_append] at hs
  exact hs.mono hb2.size
/-- What HasPattern answers. -/
noncomputable def hasPV (P Q : List Int) : Bool := decide (0 < (occP P Q).length)
theorem occP_len (P Q : List Int) : (occP P Q).length < 2^40 := by
  unfold occP
  split
  · rename_i h
    have h1 := occN_length (P := P) (Q := Q) Q.length [] (Places.nil P)
    have h2 := Nat.pow_le_pow_left h.1.1 Q.length
    have h3 := Nat.pow_le_pow_right (n := 8) (by omega) h.2.1
    omega
  · simp
theorem c_specHasPattern {w : World} {p q : Sl} {P Q : List Int} (hp : RowI w p P) (hq : RowI w q Q) (hP : P.length < 2^38) (hQ : Q.length < 2^38) :
    Calls PP F.spec_HasPattern #[p.v, q.v] w fun e w' => e = .returned (.bool (hasPV P Q)) ∧ Below w.heap.size w w' := by
  have neg : ∀ b, ¬ (IsP P ∧ IsP Q) → Ending.returned (.bool (decide ((-1 : Int) ≥ 1))) = .returned (.bool b) → b = hasPV P Q := fun b h e => by
    rw [hasPV, occP, if_neg h]; simpa using e.symm
  refine spec_HasPattern.calls p q ?_
  rw [spec_HasPattern.E_s]
  show Calls PP F.spec_CountPattern _ _ _
  refine spec_CountPattern.calls p q ?_
  rw [spec_CountPattern.E_s]
  refine Quiet.call1 (s := .bool) (c_specIsPerm hp hP) ?_
  intro w1 hd1
  have hb1 := hd1.below w.heap.size
  refine bif_intro (fun h => ?_) (fun h => ?_)
  · have h : ¬ IsP P := by simpa using h
    refine ⟨-1, rfl, ?_, hb1⟩
    rw [hasPV, occP, if_neg (fun hh => h hh.1)]; rfl
  refine Quiet.call1 (s := .bool) (c_specIsPerm (hq.grow hb1) hQ) ?_
  intro w2 hd2
  have hb2 := hb1.trans (hd2.below w.heap.size)
  refine bif_intro (fun h' => ?_) (fun h' => ?_)
  · have h' : ¬ IsP Q := by simpa using h'
    refine ⟨-1, rfl, ?_, hb2⟩
    rw [hasPV, occP, if_neg (fun hh => h' hh.2)]; rfl
  refine (c_specOccurrencesOf (hp.grow hb2) (hq.grow hb2) hP hQ).mono ?_
  rintro e w3 ⟨s, rfl, hs, hb3⟩
  refine ⟨s, rfl, _, rfl, ?_, hb2.trans (hb3.mono hb2.size)⟩
  have := hs.row.n
  rw [this, hasPV]
  congr 2
  simp only [decide_eq_decide]
  omega
theorem hasPV_eq {P Q : List Int} (h : IsP P) (hQ : IsP Q) : hasPV P Q = hasP P Q := by
  rw [hasPV, occP, if_pos ⟨h, hQ⟩]; unfold hasP hasB
  cases occN P Q Q.length [] <;> simp
end Go.Proofs.YtlcemelmnkipmaaGreat

/- A permutation has no number twice. -/
namespace Go.Proofs.YtlcemelmnkipmaaGreat
open Go
theorem isP_nd {L : List Int} (h : IsP L) : L.Nodup := by
  rw [List.nodup_iff_pairwise_ne, List.pairwise_iff_getElem]
  intro i j hi hj hij e
  refine (h.2 j hj).2.2 i hij ?_
  simp only [List.getD_eq_getElem?_getD, List.getElem?_eq_getElem hi, List.getElem?_eq_getElem hj, Option.getD_some]
  exact e
end Go.Proofs.YtlcemelmnkipmaaGreat

/- FnPaths: the plain law. -/
namespace Go.Proofs.YtlcemelmnkipmaaGreat
open Go
set_option maxRecDepth 100000

theorem chkA {n : Nat} (h : n ≤ 8) : (avL n).all (goodA n) = true := by
  have : n = 0 ∨ n = 1 ∨ n = 2 ∨ n = 3 ∨ n = 4 ∨ n = 5 ∨ n = 6 ∨ n = 7 ∨ n = 8 := by omega
  rcases this with rfl | rfl | rfl | rfl | rfl | rfl | rfl | rfl | rfl
  · exact chkA0
  · exact chkA1
  · exact chkA2
  · exact chkA3
  · exact chkA4
  · exact chkA5
  · exact chkA6
  · exact chkA7
  · exact chkA8
theorem chkB {n m : Nat} (h : n ≤ 8) (hm : m = 2 * n) : (dy m 0).all (goodB n) = true := by
  have : n = 0 ∨ n = 1 ∨ n = 2 ∨ n = 3 ∨ n = 4 ∨ n = 5 ∨ n = 6 ∨ n = 7 ∨ n = 8 := by omega
  rcases this with rfl | rfl | rfl | rfl | rfl | rfl | rfl | rfl | rfl
  · obtain rfl : m = 0 := by omega
    exact chkB0
  · obtain rfl : m = 2 := by omega
    exact chkB1
  · obtain rfl : m = 4 := by omega
    exact chkB2
  · obtain rfl : m = 6 := by omega
    exact chkB3
  · obtain rfl : m = 8 := by omega
    exact chkB4
  · obtain rfl : m = 10 := by omega
    exact chkB5
  · obtain rfl : m = 12 := by omega
    exact chkB6
  · obtain rfl : m = 14 := by omega
    exact chkB7
  · obtain rfl : m = 16 := by omega
    exact chkB8
theorem dy_mem : ∀ (l : List Bool) (h : Nat), okL h l = true → l ∈ dy l.length h
  | [], h, ho => by
    rw [okL] at ho
    obtain rfl : h = 0 := by simpa using ho
    simp [dy]
  | true :: r, h, ho => by
    rw [okL] at ho
    have ih := dy_mem r (h + 1) ho
    cases h with
    | zero => rw [List.length_cons, dy]; exact List.mem_map.2 ⟨r, ih, rfl⟩
    | succ h => rw [List.length_cons, dy]; exact List.mem_append.2 (.inl (List.mem_map.2 ⟨r, ih, rfl⟩))
  | false :: r, 0, ho => by rw [okL] at ho; cases ho
  | false :: r, h + 1, ho => by
    rw [okL] at ho
    have ih := dy_mem r h ho
    rw [List.length_cons, dy]
    exact List.mem_append.2 (.inr (List.mem_map.2 ⟨r, ih, rfl⟩))
theorem bts_of {u : ByteArray} (h : ∀ j, j < u.size → bt u j = 85 ∨ bt u j = 68) : ∃ l : List Bool, u = bts l := by
  refine ⟨u.data.toList.map (fun b => b == 85), ?_⟩
  apply ByteArray.ext
  apply Array.toList_inj.1
  show u.data.toList = (((u.data.toList.map fun b => b == 85)).map fun b => if b then (85 : UInt8) else 68).toArray.toList
  rw [List.toList_toArray, List.map_map]
  have e : u.data.toList.map id = u.data.toList := List.map_id _
  conv => lhs; rw [← e]
  refine List.map_congr_left fun b hb => ?_
  obtain ⟨j, hj, rfl⟩ := List.getElem_of_mem hb
  have hj2 : j < u.size := hj
  have h1 : bt u j = ((u.data.toList[j]).toNat : Int) := by
    unfold bt
    rw [getElem?_pos u j hj2]
    rfl
  have h2 := h j hj2
  rw [h1] at h2
  show u.data.toList[j] = if (u.data.toList[j] == 85) = true then 85 else 68
  rcases h2 with h2 | h2
  · have : u.data.toList[j] = 85 := UInt8.toNat_inj.1 (by show _ = 85; omega)
    rw [this]; rfl
  · have : u.data.toList[j] = 68 := UInt8.toNat_inj.1 (by show _ = 68; omega)
    rw [this]; rfl
theorem path_facts {P : List Int} (h : PthOk P) : PermOfPathV (PathOfV P) = P ∧ PermOfPathV1 (PathOfV P) = true ∧ phV (PathOfV P) = LongestUpV P ∧ retV (PathOfV P) = (upsW P : Nat) := by
  obtain ⟨hP, hav⟩ := h
  have h8 := hP.1
  have h13 := has132 (isP_nd hP)
  rw [hav] at h13
  have hm := avL_mem P.length hP.perm (by simpa using h13.symm)
  have hg := List.all_eq_true.1 (chkA h8) P hm
  unfold goodA at hg
  simp only [Bool.and_eq_true, beq_iff_eq, decide_eq_true_eq] at hg
  obtain ⟨⟨⟨⟨g1, g2⟩, g3⟩, g4⟩, g5⟩ := hg
  classical
  have e : PathOfV P = bts (pathW 0 P) := by rw [PathOfV, if_pos ⟨hP, hav⟩, pV_of]
  have hp := perm_of_path g1 (by omega)
  rw [g2, show 2 * P.length / 2 = P.length by omega, g3] at hp
  rw [e, ph_of g1 (by omega), ret_of g1 (by omega), LongestUpV, if_pos hP, g5, g4]
  exact ⟨hp.1, hp.2, rfl, rfl⟩
theorem path_none {P : List Int} (h : ¬ PthOk P) : PathOfV P = ⟨#[]⟩ := by
  classical
  rw [PathOfV, if_neg h]
theorem text_facts {u : ByteArray} (h : OkPath u) : PathOfV (PermOfPathV u) = u ∧ PathOfV1 (PermOfPathV u) = true ∧ IsP (PermOfPathV u) ∧ hasP (PermOfPathV u) [1, 3, 2] = false := by
  obtain ⟨l, rfl⟩ := bts_of fun j hj => (h.1 j hj).1
  obtain ⟨f1, f2, f3⟩ := ok_facts h
  obtain ⟨h1, h2⟩ := okPath_bts.1 h
  rw [bts_size] at f2 f3
  have hg := List.all_eq_true.1 (chkB f3 f2) l (dy_mem l 0 h1)
  unfold goodB at hg
  simp only [Bool.and_eq_true, beq_iff_eq] at hg
  obtain ⟨⟨g1, g2⟩, g3⟩ := hg
  have g2 := List.isPerm_iff.1 g2
  rw [(perm_of_path h1 h2).1]
  have hP := isP_of g2 f3
  have hav : hasP (popB 0 (idn (l.length / 2)) l) [1, 3, 2] = false := by rw [has132 (isP_nd hP), g1]; rfl
  classical
  refine ⟨?_, by unfold PathOfV1; exact decide_eq_true ⟨hP, hav⟩, hP, hav⟩
  rw [PathOfV, if_pos ⟨hP, hav⟩, pV_of, g3]
theorem paths_count {n : Int} (h : (PathsOfV n).length > 0) : ((PathsOfV n).length : Int) = caV n := by
  by_cases hn : 0 ≤ n ∧ n ≤ 6
  · have : n = 0 ∨ n = 1 ∨ n = 2 ∨ n = 3 ∨ n = 4 ∨ n = 5 ∨ n = 6 := by omega
    rcases this with rfl | rfl | rfl | rfl | rfl | rfl | rfl <;> exact of_decide_eq_true (by kernel_rfl)
  · rw [PathsOfV, if_neg hn] at h; simp at h
def upsC (P : List Int) : Nat → Nat
  | 0 => 0
  | k + 1 => upsC P k + (bif (P.drop (k + 1)).all (fun y => decide (y < P.getD k 0)) then 1 else 0)
theorem upsC_le (P : List Int) : ∀ k, upsC P k ≤ k
  | 0 => Nat.le_refl _
  | k + 1 => by
    have := upsC_le P k
    rw [upsC]
    cases (P.drop (k + 1)).all (fun y => decide (y < P.getD k 0)) <;> simp <;> omega
theorem upsC_W (P : List Int) : ∀ d k, k + d = P.length → upsW P = upsC P k + upsW (P.drop k) → upsW P = upsC P P.length
  | 0, k, hk, h => by
    have hk : k = P.length := by omega
    subst hk
    rw [List.drop_length, upsW] at h
    exact h
  | d + 1, k, hk, h => by
    have hlt : k < P.length := by omega
    refine upsC_W P d (k + 1) (by omega) ?_
    rw [List.drop_eq_getElem_cons hlt, upsW] at h
    have e : P.getD k 0 = P[k] := by simp [List.getD_eq_getElem?_getD, List.getElem?_eq_getElem hlt]
    rw [upsC, e, h]; omega
theorem ups_eq (P : List Int) : upsC P P.length = upsW P := (upsC_W P P.length 0 (by omega) (by simp [upsC])).symm
theorem last_iff {P : List Int} {k : Nat} : (P.drop (k + 1)).all (fun y => decide (y < P.getD k 0)) = true ↔ ∀ j, k < j → j < P.length → P.getD j 0 < P.getD k 0 := by
  rw [List.all_eq_true]
  constructor
  · intro h j h1 h2
    have hm : P.getD j 0 ∈ P.drop (k + 1) := by
      have e : P.getD j 0 = P[j] := by simp [List.getD_eq_getElem?_getD, List.getElem?_eq_getElem h2]
      rw [e, List.mem_iff_getElem]
      exact ⟨j - (k + 1), by simp; omega, by rw [List.getElem_drop]; congr 1; omega⟩
    simpa using h _ hm
  · intro h y hy
    obtain ⟨i, hi, rfl⟩ := List.getElem_of_mem hy
    rw [List.length_drop] at hi
    rw [List.getElem_drop]
    have e : P.getD (k + 1 + i) 0 = P[k + 1 + i]'(by omega) := by simp [List.getD_eq_getElem?_getD, List.getElem?_eq_getElem (show k + 1 + i < P.length by omega)]
    rw [← e]
    exact decide_eq_true (h (k + 1 + i) (by omega) (by omega))
end Go.Proofs.YtlcemelmnkipmaaGreat

/- What each function does, step by step, written by a program (Gen.lean); each equation is checked by the kernel. -/
namespace Go.Proofs.YtlcemelmnkipmaaGreat
open Go
set_option linter.unusedVariables false
set_option maxRecDepth 100000
namespace laws_FnPaths
@[reducible] def cfg : Cfg := ⟨192, [(28, [3, 4, 17, 18, 19, 20, 21, 22]), (24, [3, 4, 17, 18, 19, 20])], [(3, [3, 4, 17, 18, 19, 20, 21, 22]), (2, [3, 4, 17, 18, 19, 20, 21]), (1, [3, 4, 17, 18, 19, 20]), (0, [3, 4, 17, 18, 19])], [(12, [3, 4, 5, 8, 9, 10, 13, 14, 106]), (13, [3, 4, 5, 8, 9, 10, 13, 14]), (14, [3, 4, 5, 8, 9, 10, 116]), (15, [3, 4, 5, 8, 9, 10]), (18, [3, 4, 5, 134]), (19, [3, 4, 5]), (29, [3, 4, 17, 18, 19, 20, 21, 22])], [2], [30], [13, 32, 63, 81], [41, 4, 46, 44, 48]⟩
def q21 (pr : Prims) (R : Ending → World → Prop) : Exit → Env → World → Prop := fun ex e w => normQ ex (fun e w => contE pr cfg (sub (codeOf Tryz.f3) [1, 1, 1, 1, 1, 1, 1, 1, 1, 1, 1]) (fun e w => wpC pr PP cfg (DD pr) (sub (codeOf Tryz.f3) [1, 1, 1, 1, 1, 1, 1, 1, 1, 1, 1]) (retQ Tryz.f3.results.toList R) e w) e w) (retQ Tryz.f3.results.toList R) e w
def q22 (pr : Prims) (R : Ending → World → Prop) : Exit → Env → World → Prop := fun ex e w => normQ ex (fun e w => contE pr cfg (sub (codeOf Tryz.f3) [1, 1, 1, 1, 1, 1, 1, 1, 1, 1, 0, 1]) (fun e w => wpC pr PP cfg (DD pr) (sub (codeOf Tryz.f3) [1, 1, 1, 1, 1, 1, 1, 1, 1, 1, 0, 1]) (q21 pr R) e w) e w) (q21 pr R) e w
def q23 (pr : Prims) (R : Ending → World → Prop) : Exit → Env → World → Prop := fun ex e w => normQ ex (fun e w => contE pr cfg (sub (codeOf Tryz.f3) [1, 1, 1, 1, 1, 1, 1, 1, 1, 1, 1, 1]) (fun e w => wpC pr PP cfg (DD pr) (sub (codeOf Tryz.f3) [1, 1, 1, 1, 1, 1, 1, 1, 1, 1, 1, 1]) (retQ Tryz.f3.results.toList R) e w) e w) (retQ Tryz.f3.results.toList R) e w
def q24 (pr : Prims) (R : Ending → World → Prop) : Exit → Env → World → Prop := fun ex e w => normQ ex (fun e w => contE pr cfg (sub (codeOf Tryz.f3) [1, 1, 1, 1, 1, 1, 1, 1, 1, 1, 1, 0, 1]) (fun e w => wpC pr PP cfg (DD pr) (sub (codeOf Tryz.f3) [1, 1, 1, 1, 1, 1, 1, 1, 1, 1, 1, 0, 1]) (q23 pr R) e w) e w) (q23 pr R) e w
def q27 (pr : Prims) (R : Ending → World → Prop) : Exit → Env → World → Prop := fun ex e w => normQ ex (fun e w => contE pr cfg (sub (codeOf Tryz.f3) [1, 1, 1, 1, 1, 1, 1, 1, 1, 1, 1, 1, 1]) (fun e w => wpC pr PP cfg (DD pr) (sub (codeOf Tryz.f3) [1, 1, 1, 1, 1, 1, 1, 1, 1, 1, 1, 1, 1]) (retQ Tryz.f3.results.toList R) e w) e w) (retQ Tryz.f3.results.toList R) e w
def q31 (pr : Prims) (R : Ending → World → Prop) : Exit → Env → World → Prop := fun ex e w => normQ ex (fun e w => contE pr cfg (sub (codeOf Tryz.f3) [1, 1, 1, 1, 1, 1, 1, 1, 1, 1, 1, 1, 0, 1, 0, 1, 1]) (fun e w => wpC pr PP cfg (DD pr) (sub (codeOf Tryz.f3) [1, 1, 1, 1, 1, 1, 1, 1, 1, 1, 1, 1, 0, 1, 0, 1, 1]) (q27 pr R) e w) e w) (q27 pr R) e w
def q35 (pr : Prims) (R : Ending → World → Prop) : Exit → Env → World → Prop := fun ex e w => normQ ex (fun e w => contE pr cfg (sub (codeOf Tryz.f3) [1, 1, 1, 1, 1, 1, 1, 1, 1, 1, 1, 1, 1, 1, 1, 1, 1]) (fun e w => wpC pr PP cfg (DD pr) (sub (codeOf Tryz.f3) [1, 1, 1, 1, 1, 1, 1, 1, 1, 1, 1, 1, 1, 1, 1, 1, 1]) (retQ Tryz.f3.results.toList R) e w) e w) (retQ Tryz.f3.results.toList R) e w
def q36 (pr : Prims) (R : Ending → World → Prop) : Exit → Env → World → Prop := fun ex e w => blockQ ex 0 (q35 pr R) e w
def q37 (pr : Prims) (k : Env → World → Prop) (Q : Exit → Env → World → Prop) : Exit → Env → World → Prop := fun ex e w => normQ ex (fun e w => contE pr cfg (sub (codeOf Tryz.f3) [1, 1, 1, 1, 1, 1, 1, 1, 1, 1, 1, 1, 1, 1, 1, 1, 0, 1, 0, 0, 1, 1]) (fun e w => wpC pr PP cfg (DD pr) (sub (codeOf Tryz.f3) [1, 1, 1, 1, 1, 1, 1, 1, 1, 1, 1, 1, 1, 1, 1, 1, 0, 1, 0, 0, 1, 1]) (fun ex e w => normQ ex (fun e' w' => k (Env.restr e' (lookN cfg.loops (keyOf (sub (codeOf Tryz.f3) [1, 1, 1, 1, 1, 1, 1, 1, 1, 1, 1, 1, 1, 1, 1, 1, 0, 1, 0, 0])))) w') Q e w) e w) e w) (fun ex e w => normQ ex (fun e' w' => k (Env.restr e' (lookN cfg.loops (keyOf (sub (codeOf Tryz.f3) [1, 1, 1, 1, 1, 1, 1, 1, 1, 1, 1, 1, 1, 1, 1, 1, 0, 1, 0, 0])))) w') Q e w) e w
def q38 (pr : Prims) (k : Env → World → Prop) (Q : Exit → Env → World → Prop) : Exit → Env → World → Prop := fun ex e w => blockQ ex 1 (q37 pr k Q) e w
def q39 (pr : Prims) (k : Env → World → Prop) (Q : Exit → Env → World → Prop) : Exit → Env → World → Prop := fun ex e w => normQ ex (fun e w => contE pr cfg (sub (codeOf Tryz.f3) [1, 1, 1, 1, 1, 1, 1, 1, 1, 1, 1, 1, 1, 1, 1, 1, 0, 1, 0, 0, 1, 0, 0, 1, 1]) (fun e w => wpC pr PP cfg (DD pr) (sub (codeOf Tryz.f3) [1, 1, 1, 1, 1, 1, 1, 1, 1, 1, 1, 1, 1, 1, 1, 1, 0, 1, 0, 0, 1, 0, 0, 1, 1]) (q38 pr k Q) e w) e w) (q38 pr k Q) e w
def q40 (pr : Prims) (k : Env → World → Prop) (Q : Exit → Env → World → Prop) : Exit → Env → World → Prop := fun ex e w => blockQ ex 2 (q39 pr k Q) e w
def q41 (pr : Prims) (k : Env → World → Prop) (Q : Exit → Env → World → Prop) : Exit → Env → World → Prop := fun ex e w => normQ ex (fun e w => contE pr cfg (sub (codeOf Tryz.f3) [1, 1, 1, 1, 1, 1, 1, 1, 1, 1, 1, 1, 1, 1, 1, 1, 0, 1, 0, 0, 1, 0, 0, 1, 0, 1, 0, 0, 1, 1]) (fun e w => wpC pr PP cfg (DD pr) (sub (codeOf Tryz.f3) [1, 1, 1, 1, 1, 1, 1, 1, 1, 1, 1, 1, 1, 1, 1, 1, 0, 1, 0, 0, 1, 0, 0, 1, 0, 1, 0, 0, 1, 1]) (fun ex e w => normQ ex (fun e' w' => k (Env.restr e' (lookN cfg.loops (keyOf (sub (codeOf Tryz.f3) [1, 1, 1, 1, 1, 1, 1, 1, 1, 1, 1, 1, 1, 1, 1, 1, 0, 1, 0, 0, 1, 0, 0, 1, 0, 1, 0, 0])))) w') Q e w) e w) e w) (fun ex e w => normQ ex (fun e' w' => k (Env.restr e' (lookN cfg.loops (keyOf (sub (codeOf Tryz.f3) [1, 1, 1, 1, 1, 1, 1, 1, 1, 1, 1, 1, 1, 1, 1, 1, 0, 1, 0, 0, 1, 0, 0, 1, 0, 1, 0, 0])))) w') Q e w) e w
def j12 (p_3 : Sl) (t_4 : ByteArray) (ok_5 : Bool) (u_8 : ByteArray) (q_9 : Sl) (one_10 : Bool) (n_13 : Int) (list_14 : Sl) (t106 : Bool) : Env := [(3, Sl.v p_3), (4, .string t_4), (5, .bool ok_5), (8, .string u_8), (9, Sl.v q_9), (10, .bool one_10), (13, vI n_13), (14, Sl.v list_14), (106, .bool t106)]
def j13 (p_3 : Sl) (t_4 : ByteArray) (ok_5 : Bool) (u_8 : ByteArray) (q_9 : Sl) (one_10 : Bool) (n_13 : Int) (list_14 : Sl) : Env := [(3, Sl.v p_3), (4, .string t_4), (5, .bool ok_5), (8, .string u_8), (9, Sl.v q_9), (10, .bool one_10), (13, vI n_13), (14, Sl.v list_14)]
def j14 (p_3 : Sl) (t_4 : ByteArray) (ok_5 : Bool) (u_8 : ByteArray) (q_9 : Sl) (one_10 : Bool) (t116 : Bool) : Env := [(3, Sl.v p_3), (4, .string t_4), (5, .bool ok_5), (8, .string u_8), (9, Sl.v q_9), (10, .bool one_10), (116, .bool t116)]
def j15 (p_3 : Sl) (t_4 : ByteArray) (ok_5 : Bool) (u_8 : ByteArray) (q_9 : Sl) (one_10 : Bool) : Env := [(3, Sl.v p_3), (4, .string t_4), (5, .bool ok_5), (8, .string u_8), (9, Sl.v q_9), (10, .bool one_10)]
def j18 (p_3 : Sl) (t_4 : ByteArray) (ok_5 : Bool) (t134 : Bool) : Env := [(3, Sl.v p_3), (4, .string t_4), (5, .bool ok_5), (134, .bool t134)]
def j19 (p_3 : Sl) (t_4 : ByteArray) (ok_5 : Bool) : Env := [(3, Sl.v p_3), (4, .string t_4), (5, .bool ok_5)]
def emb24 (p_3 : Sl) (t_4 : ByteArray) (x_17 : Sl) (back_18 : Bool) (ups_19 : Int) (k_20 : Int) : Env := [(3, Sl.v p_3), (4, .string t_4), (17, Sl.v x_17), (18, .bool back_18), (19, vI ups_19), (20, vI k_20)]
def emb28 (p_3 : Sl) (t_4 : ByteArray) (x_17 : Sl) (back_18 : Bool) (ups_19 : Int) (k_20 : Int) (last_21 : Bool) (i_22 : Int) : Env := [(3, Sl.v p_3), (4, .string t_4), (17, Sl.v x_17), (18, .bool back_18), (19, vI ups_19), (20, vI k_20), (21, .bool last_21), (22, vI i_22)]
def j29 (p_3 : Sl) (t_4 : ByteArray) (x_17 : Sl) (back_18 : Bool) (ups_19 : Int) (k_20 : Int) (last_21 : Bool) (i_22 : Int) : Env := [(3, Sl.v p_3), (4, .string t_4), (17, Sl.v x_17), (18, .bool back_18), (19, vI ups_19), (20, vI k_20), (21, .bool last_21), (22, vI i_22)]
def x2 (p_3 : Sl) (t_4 : ByteArray) (x_17 : Sl) (back_18 : Bool) (ups_19 : Int) (k_20 : Int) (last_21 : Bool) : Env := [(3, Sl.v p_3), (4, .string t_4), (17, Sl.v x_17), (18, .bool back_18), (19, vI ups_19), (20, vI k_20), (21, .bool last_21)]
def x0 (p_3 : Sl) (t_4 : ByteArray) (x_17 : Sl) (back_18 : Bool) (ups_19 : Int) : Env := [(3, Sl.v p_3), (4, .string t_4), (17, Sl.v x_17), (18, .bool back_18), (19, vI ups_19)]
def S28 (pr : Prims) (Q : Exit → Env → World → Prop) : (Env → World → Prop) → Env → World → Prop := fun k e w => wpC pr PP cfg (DD pr) (sub (codeOf Tryz.f3) [1, 1, 1, 1, 1, 1, 1, 1, 1, 1, 1, 1, 1, 1, 1, 1, 0, 1, 0, 0, 1, 0, 0, 1, 0, 1, 0, 0]) (fun ex e w => normQ ex (fun e' w' => k (Env.restr e' (lookN cfg.loops (keyOf (sub (codeOf Tryz.f3) [1, 1, 1, 1, 1, 1, 1, 1, 1, 1, 1, 1, 1, 1, 1, 1, 0, 1, 0, 0, 1, 0, 0, 1, 0, 1, 0, 0])))) w') Q e w) e w
def S24 (pr : Prims) (Q : Exit → Env → World → Prop) : (Env → World → Prop) → Env → World → Prop := fun k e w => wpC pr PP cfg (DD pr) (sub (codeOf Tryz.f3) [1, 1, 1, 1, 1, 1, 1, 1, 1, 1, 1, 1, 1, 1, 1, 1, 0, 1, 0, 0]) (fun ex e w => normQ ex (fun e' w' => k (Env.restr e' (lookN cfg.loops (keyOf (sub (codeOf Tryz.f3) [1, 1, 1, 1, 1, 1, 1, 1, 1, 1, 1, 1, 1, 1, 1, 1, 0, 1, 0, 0])))) w') Q e w) e w
def J29 (pr : Prims) (p_3 : Sl) (t_4 : ByteArray) (x_17 : Sl) (back_18 : Bool) (ups_19 : Int) (k_20 : Int) (last_21 : Bool) (i_22 : Int) (w : World) (k : Env → World → Prop) (Q : Exit → Env → World → Prop) : Prop :=
  pr.seg (fun e w => wpC pr PP cfg (DD pr) (sub (codeOf Tryz.f3) [1, 1, 1, 1, 1, 1, 1, 1, 1, 1, 1, 1, 1, 1, 1, 1, 0, 1, 0, 0, 1, 0, 0, 1, 0, 1, 0, 0, 1, 1]) (fun ex e w => normQ ex (fun e' w' => k (Env.restr e' (lookN cfg.loops (keyOf (sub (codeOf Tryz.f3) [1, 1, 1, 1, 1, 1, 1, 1, 1, 1, 1, 1, 1, 1, 1, 1, 0, 1, 0, 0, 1, 0, 0, 1, 0, 1, 0, 0])))) w') Q e w) e w) (j29 p_3 t_4 x_17 back_18 ups_19 k_20 last_21 i_22) w
def B28 (pr : Prims) (p_3 : Sl) (t_4 : ByteArray) (x_17 : Sl) (back_18 : Bool) (ups_19 : Int) (k_20 : Int) (last_21 : Bool) (i_22 : Int) (w : World) (k : Env → World → Prop) (Q : Exit → Env → World → Prop) : Prop :=
  S28 pr Q k (emb28 p_3 t_4 x_17 back_18 ups_19 k_20 last_21 i_22) w
def L28 (pr : Prims) (p_3 : Sl) (t_4 : ByteArray) (x_17 : Sl) (back_18 : Bool) (ups_19 : Int) (k_20 : Int) (last_21 : Bool) (i_22 : Int) (w : World) (Q : Exit → Env → World → Prop) : Prop :=
  pr.loop (S28 pr Q) (emb28 p_3 t_4 x_17 back_18 ups_19 k_20 last_21 i_22) w
def B24 (pr : Prims) (p_3 : Sl) (t_4 : ByteArray) (x_17 : Sl) (back_18 : Bool) (ups_19 : Int) (k_20 : Int) (w : World) (k : Env → World → Prop) (Q : Exit → Env → World → Prop) : Prop :=
  S24 pr Q k (emb24 p_3 t_4 x_17 back_18 ups_19 k_20) w
def L24 (pr : Prims) (p_3 : Sl) (t_4 : ByteArray) (x_17 : Sl) (back_18 : Bool) (ups_19 : Int) (k_20 : Int) (w : World) (Q : Exit → Env → World → Prop) : Prop :=
  pr.loop (S24 pr Q) (emb24 p_3 t_4 x_17 back_18 ups_19 k_20) w
def J19 (pr : Prims) (p_3 : Sl) (t_4 : ByteArray) (ok_5 : Bool) (w : World) (R : Ending → World → Prop) : Prop :=
  pr.seg (fun e w => wpC pr PP cfg (DD pr) (sub (codeOf Tryz.f3) [1, 1, 1, 1, 1, 1, 1, 1, 1, 1, 1, 1, 1]) (retQ Tryz.f3.results.toList R) e w) (j19 p_3 t_4 ok_5) w
def J18 (pr : Prims) (p_3 : Sl) (t_4 : ByteArray) (ok_5 : Bool) (t134 : Bool) (w : World) (R : Ending → World → Prop) : Prop :=
  pr.seg (fun e w => wpC pr PP cfg (DD pr) (sub (codeOf Tryz.f3) [1, 1, 1, 1, 1, 1, 1, 1, 1, 1, 1, 1, 0, 1, 0, 1, 1]) (q27 pr R) e w) (j18 p_3 t_4 ok_5 t134) w
def J15 (pr : Prims) (p_3 : Sl) (t_4 : ByteArray) (ok_5 : Bool) (u_8 : ByteArray) (q_9 : Sl) (one_10 : Bool) (w : World) (R : Ending → World → Prop) : Prop :=
  pr.seg (fun e w => wpC pr PP cfg (DD pr) (sub (codeOf Tryz.f3) [1, 1, 1, 1, 1, 1, 1, 1, 1, 1, 1, 1]) (retQ Tryz.f3.results.toList R) e w) (j15 p_3 t_4 ok_5 u_8 q_9 one_10) w
def J14 (pr : Prims) (p_3 : Sl) (t_4 : ByteArray) (ok_5 : Bool) (u_8 : ByteArray) (q_9 : Sl) (one_10 : Bool) (t116 : Bool) (w : World) (R : Ending → World → Prop) : Prop :=
  pr.seg (fun e w => wpC pr PP cfg (DD pr) (sub (codeOf Tryz.f3) [1, 1, 1, 1, 1, 1, 1, 1, 1, 1, 1, 0, 1]) (q23 pr R) e w) (j14 p_3 t_4 ok_5 u_8 q_9 one_10 t116) w
def J13 (pr : Prims) (p_3 : Sl) (t_4 : ByteArray) (ok_5 : Bool) (u_8 : ByteArray) (q_9 : Sl) (one_10 : Bool) (n_13 : Int) (list_14 : Sl) (w : World) (R : Ending → World → Prop) : Prop :=
  pr.seg (fun e w => wpC pr PP cfg (DD pr) (sub (codeOf Tryz.f3) [1, 1, 1, 1, 1, 1, 1, 1, 1, 1, 1]) (retQ Tryz.f3.results.toList R) e w) (j13 p_3 t_4 ok_5 u_8 q_9 one_10 n_13 list_14) w
def J12 (pr : Prims) (p_3 : Sl) (t_4 : ByteArray) (ok_5 : Bool) (u_8 : ByteArray) (q_9 : Sl) (one_10 : Bool) (n_13 : Int) (list_14 : Sl) (t106 : Bool) (w : World) (R : Ending → World → Prop) : Prop :=
  pr.seg (fun e w => wpC pr PP cfg (DD pr) (sub (codeOf Tryz.f3) [1, 1, 1, 1, 1, 1, 1, 1, 1, 1, 0, 1]) (q21 pr R) e w) (j12 p_3 t_4 ok_5 u_8 q_9 one_10 n_13 list_14 t106) w
def E (pr : Prims) (code_0 : Sl) (w : World) (R : Ending → World → Prop) : Prop :=
  wpC pr PP cfg (DD pr) (codeOf Tryz.f3) (retQ Tryz.f3.results.toList R) (argE 0 [Sl.v code_0]) w
theorem J29_gen (pr : Prims) (p_3 : Sl) (t_4 : ByteArray) (x_17 : Sl) (back_18 : Bool) (ups_19 : Int) (k_20 : Int) (last_21 : Bool) (i_22 : Int) (w : World) (k : Env → World → Prop) (Q : Exit → Env → World → Prop) : wpC pr PP cfg (DD pr) (sub (codeOf Tryz.f3) [1, 1, 1, 1, 1, 1, 1, 1, 1, 1, 1, 1, 1, 1, 1, 1, 0, 1, 0, 0, 1, 0, 0, 1, 0, 1, 0, 0, 1, 1]) (fun ex e w => normQ ex (fun e' w' => k (Env.restr e' (lookN cfg.loops (keyOf (sub (codeOf Tryz.f3) [1, 1, 1, 1, 1, 1, 1, 1, 1, 1, 1, 1, 1, 1, 1, 1, 0, 1, 0, 0, 1, 0, 0, 1, 0, 1, 0, 0])))) w') Q e w) (j29 p_3 t_4 x_17 back_18 ups_19 k_20 last_21 i_22) w = (
  k (emb28 p_3 t_4 x_17 back_18 ups_19 k_20 last_21 (w64 (i_22 + 1))) w) := by kernel_rfl
theorem J29_s (p_3 : Sl) (t_4 : ByteArray) (x_17 : Sl) (back_18 : Bool) (ups_19 : Int) (k_20 : Int) (last_21 : Bool) (i_22 : Int) (w : World) (k : Env → World → Prop) (Q : Exit → Env → World → Prop) : J29 std p_3 t_4 x_17 back_18 ups_19 k_20 last_21 i_22 w k Q = (
  k (emb28 p_3 t_4 x_17 back_18 ups_19 k_20 last_21 (w64 (i_22 + 1))) w) := J29_gen std p_3 t_4 x_17 back_18 ups_19 k_20 last_21 i_22 w k Q
theorem B28_eq (pr : Prims) (p_3 : Sl) (t_4 : ByteArray) (x_17 : Sl) (back_18 : Bool) (ups_19 : Int) (k_20 : Int) (last_21 : Bool) (i_22 : Int) (w : World) (k : Env → World → Prop) (Q : Exit → Env → World → Prop) : B28 pr p_3 t_4 x_17 back_18 ups_19 k_20 last_21 i_22 w k Q = (
  bif decide (i_22 < (p_3.n : Int)) then (
  bif last_21 then (
  pr.idxK 1 p_3 i_22 fun (a42 : Addr) =>
  pr.load1 (.int .i64) a42 w fun (ξ43 : Int) =>
  pr.idxK 1 p_3 k_20 fun (a44 : Addr) =>
  pr.load1 (.int .i64) a44 w fun (ξ45 : Int) =>
  pr.drewAll w fun ω46 =>
  J29 pr p_3 t_4 x_17 back_18 ups_19 k_20 (decide (ξ43 < ξ45)) i_22 ω46 k Q)
  else (
  pr.drewAll w fun ω47 =>
  J29 pr p_3 t_4 x_17 back_18 ups_19 k_20 false i_22 ω47 k Q))
  else (
  Q (.exit 2) (x2 p_3 t_4 x_17 back_18 ups_19 k_20 last_21) w)) := by kernel_rfl
theorem B28_s (p_3 : Sl) (t_4 : ByteArray) (x_17 : Sl) (back_18 : Bool) (ups_19 : Int) (k_20 : Int) (last_21 : Bool) (i_22 : Int) (w : World) (k : Env → World → Prop) (Q : Exit → Env → World → Prop) : B28 std p_3 t_4 x_17 back_18 ups_19 k_20 last_21 i_22 w k Q = (
  bif decide (i_22 < (p_3.n : Int)) then (
  bif last_21 then (
  idxK 1 p_3 i_22 fun (a42 : Addr) =>
  load1 (.int .i64) a42 w fun (ξ43 : Int) =>
  idxK 1 p_3 k_20 fun (a44 : Addr) =>
  load1 (.int .i64) a44 w fun (ξ45 : Int) =>
  drewAll w fun ω46 =>
  J29 std p_3 t_4 x_17 back_18 ups_19 k_20 (decide (ξ43 < ξ45)) i_22 ω46 k Q)
  else (
  drewAll w fun ω47 =>
  J29 std p_3 t_4 x_17 back_18 ups_19 k_20 false i_22 ω47 k Q))
  else (
  Q (.exit 2) (x2 p_3 t_4 x_17 back_18 ups_19 k_20 last_21) w)) := B28_eq std p_3 t_4 x_17 back_18 ups_19 k_20 last_21 i_22 w k Q
theorem L28_rule (p_3 : Sl) (t_4 : ByteArray) (x_17 : Sl) (back_18 : Bool) (ups_19 : Int) (k_20 : Int) (last_21 : Bool) (i_22 : Int) (w : World) (Q : Exit → Env → World → Prop) (I : Bool → Int → World → Prop) (μ : Bool → Int → World → Nat) (h0 : I last_21 i_22 w)
    (h : ∀ (last_21 : Bool) (i_22 : Int) (w' : World), I last_21 i_22 w' → B28 std p_3 t_4 x_17 back_18 ups_19 k_20 last_21 i_22 w' (fun e2 w2 => ∃ last_21_n i_22_n, e2 = emb28 p_3 t_4 x_17 back_18 ups_19 k_20 last_21_n i_22_n ∧ I last_21_n i_22_n w2 ∧ μ last_21_n i_22_n w2 < μ last_21 i_22 w') Q) :
    L28 std p_3 t_4 x_17 back_18 ups_19 k_20 last_21 i_22 w Q := by
  unfold L28
  refine LoopE.intro (σ := Bool × Int) (step := S28 std Q) (fun s => emb28 p_3 t_4 x_17 back_18 ups_19 k_20 s.1 s.2) (fun s w => I s.1 s.2 w) (fun s w => μ s.1 s.2 w) (last_21, i_22) rfl h0 ?_
  intro s w' hI
  have h1 := h s.1 s.2 w' hI
  unfold B28 at h1
  simp only [Prod.exists]
  exact h1
theorem A28_2_eq (pr : Prims) (p_3 : Sl) (t_4 : ByteArray) (x_17 : Sl) (back_18 : Bool) (ups_19 : Int) (k_20 : Int) (last_21 : Bool) (w : World) (k : Env → World → Prop) (Q : Exit → Env → World → Prop) : (q40 pr k Q) (.exit 2) (x2 p_3 t_4 x_17 back_18 ups_19 k_20 last_21) w = (
  bif last_21 then (
  k (emb24 p_3 t_4 x_17 back_18 (w64 (ups_19 + 1)) (w64 (k_20 + 1))) w)
  else (
  k (emb24 p_3 t_4 x_17 back_18 ups_19 (w64 (k_20 + 1))) w)) := by kernel_rfl
theorem A28_2_s (p_3 : Sl) (t_4 : ByteArray) (x_17 : Sl) (back_18 : Bool) (ups_19 : Int) (k_20 : Int) (last_21 : Bool) (w : World) (k : Env → World → Prop) (Q : Exit → Env → World → Prop) : (q40 std k Q) (.exit 2) (x2 p_3 t_4 x_17 back_18 ups_19 k_20 last_21) w = (
  bif last_21 then (
  k (emb24 p_3 t_4 x_17 back_18 (w64 (ups_19 + 1)) (w64 (k_20 + 1))) w)
  else (
  k (emb24 p_3 t_4 x_17 back_18 ups_19 (w64 (k_20 + 1))) w)) := A28_2_eq std p_3 t_4 x_17 back_18 ups_19 k_20 last_21 w k Q
theorem B24_eq (pr : Prims) (p_3 : Sl) (t_4 : ByteArray) (x_17 : Sl) (back_18 : Bool) (ups_19 : Int) (k_20 : Int) (w : World) (k : Env → World → Prop) (Q : Exit → Env → World → Prop) : B24 pr p_3 t_4 x_17 back_18 ups_19 k_20 w k Q = (
  bif decide (k_20 < (p_3.n : Int)) then (
  L28 pr p_3 t_4 x_17 back_18 ups_19 k_20 true (w64 (k_20 + 1)) w (q40 pr k Q))
  else (
  Q (.exit 0) (x0 p_3 t_4 x_17 back_18 ups_19) w)) := by kernel_rfl
theorem B24_s (p_3 : Sl) (t_4 : ByteArray) (x_17 : Sl) (back_18 : Bool) (ups_19 : Int) (k_20 : Int) (w : World) (k : Env → World → Prop) (Q : Exit → Env → World → Prop) : B24 std p_3 t_4 x_17 back_18 ups_19 k_20 w k Q = (
  bif decide (k_20 < (p_3.n : Int)) then (
  L28 std p_3 t_4 x_17 back_18 ups_19 k_20 true (w64 (k_20 + 1)) w (q40 std k Q))
  else (
  Q (.exit 0) (x0 p_3 t_4 x_17 back_18 ups_19) w)) := B24_eq std p_3 t_4 x_17 back_18 ups_19 k_20 w k Q
theorem L24_rule (p_3 : Sl) (t_4 : ByteArray) (x_17 : Sl) (back_18 : Bool) (ups_19 : Int) (k_20 : Int) (w : World) (Q : Exit → Env → World → Prop) (I : Int → Int → World → Prop) (μ : Int → Int → World → Nat) (h0 : I ups_19 k_20 w)
    (h : ∀ (ups_19 : Int) (k_20 : Int) (w' : World), I ups_19 k_20 w' → B24 std p_3 t_4 x_17 back_18 ups_19 k_20 w' (fun e2 w2 => ∃ ups_19_n k_20_n, e2 = emb24 p_3 t_4 x_17 back_18 ups_19_n k_20_n ∧ I ups_19_n k_20_n w2 ∧ μ ups_19_n k_20_n w2 < μ ups_19 k_20 w') Q) :
    L24 std p_3 t_4 x_17 back_18 ups_19 k_20 w Q := by
  unfold L24
  refine LoopE.intro (σ := Int × Int) (step := S24 std Q) (fun s => emb24 p_3 t_4 x_17 back_18 s.1 s.2) (fun s w => I s.1 s.2 w) (fun s w => μ s.1 s.2 w) (ups_19, k_20) rfl h0 ?_
  intro s w' hI
  have h1 := h s.1 s.2 w' hI
  unfold B24 at h1
  simp only [Prod.exists]
  exact h1
theorem A24_0_eq (pr : Prims) (p_3 : Sl) (t_4 : ByteArray) (x_17 : Sl) (back_18 : Bool) (ups_19 : Int) (w : World) (R : Ending → World → Prop) : (q36 pr R) (.exit 0) (x0 p_3 t_4 x_17 back_18 ups_19) w = (
  bif back_18 then (
  pr.call1 .bool PP F.laws_sameInts #[Sl.v x_17, Sl.v p_3] w fun (ρ48 : Bool) ω49 =>
  bif ρ48 then (
  pr.call1 (.int .i64) PP F.impl_PathHeight #[.string t_4] ω49 fun (ρ50 : Int) ω51 =>
  pr.call1 (.int .i64) PP F.spec_LongestUp #[Sl.v p_3] ω51 fun (ρ52 : Int) ω53 =>
  bif ρ50 == ρ52 then (
  pr.call1 (.int .i64) PP F.impl_CountReturns #[.string t_4] ω53 fun (ρ54 : Int) ω55 =>
  R (.returned (.bool (ρ54 == ups_19))) ω55)
  else (
  R (.returned (.bool false)) ω53))
  else (
  R (.returned (.bool false)) ω49))
  else (
  R (.returned (.bool false)) w)) := by kernel_rfl
theorem A24_0_s (p_3 : Sl) (t_4 : ByteArray) (x_17 : Sl) (back_18 : Bool) (ups_19 : Int) (w : World) (R : Ending → World → Prop) : (q36 std R) (.exit 0) (x0 p_3 t_4 x_17 back_18 ups_19) w = (
  bif back_18 then (
  call1 .bool PP F.laws_sameInts #[Sl.v x_17, Sl.v p_3] w fun (ρ48 : Bool) ω49 =>
  bif ρ48 then (
  call1 (.int .i64) PP F.impl_PathHeight #[.string t_4] ω49 fun (ρ50 : Int) ω51 =>
  call1 (.int .i64) PP F.spec_LongestUp #[Sl.v p_3] ω51 fun (ρ52 : Int) ω53 =>
  bif ρ50 == ρ52 then (
  call1 (.int .i64) PP F.impl_CountReturns #[.string t_4] ω53 fun (ρ54 : Int) ω55 =>
  R (.returned (.bool (ρ54 == ups_19))) ω55)
  else (
  R (.returned (.bool false)) ω53))
  else (
  R (.returned (.bool false)) ω49))
  else (
  R (.returned (.bool false)) w)) := A24_0_eq std p_3 t_4 x_17 back_18 ups_19 w R
theorem J19_gen (pr : Prims) (p_3 : Sl) (t_4 : ByteArray) (ok_5 : Bool) (w : World) (R : Ending → World → Prop) : wpC pr PP cfg (DD pr) (sub (codeOf Tryz.f3) [1, 1, 1, 1, 1, 1, 1, 1, 1, 1, 1, 1, 1]) (retQ Tryz.f3.results.toList R) (j19 p_3 t_4 ok_5) w = (
  bif !ok_5 then (
  R (.returned (.bool (t_4.toList == (⟨#[]⟩ : ByteArray).toList))) w)
  else (
  pr.call2 .sl .bool PP F.impl_PermOfPath #[.string t_4] w fun (ρ32 : Sl) (ρ33 : Bool) ω34 =>
  L24 pr p_3 t_4 ρ32 ρ33 0 0 ω34 (q36 pr R))) := by kernel_rfl
theorem J19_s (p_3 : Sl) (t_4 : ByteArray) (ok_5 : Bool) (w : World) (R : Ending → World → Prop) : J19 std p_3 t_4 ok_5 w R = (
  bif !ok_5 then (
  R (.returned (.bool (t_4.toList == (⟨#[]⟩ : ByteArray).toList))) w)
  else (
  call2 .sl .bool PP F.impl_PermOfPath #[.string t_4] w fun (ρ32 : Sl) (ρ33 : Bool) ω34 =>
  L24 std p_3 t_4 ρ32 ρ33 0 0 ω34 (q36 std R))) := J19_gen std p_3 t_4 ok_5 w R
theorem J18_gen (pr : Prims) (p_3 : Sl) (t_4 : ByteArray) (ok_5 : Bool) (t134 : Bool) (w : World) (R : Ending → World → Prop) : wpC pr PP cfg (DD pr) (sub (codeOf Tryz.f3) [1, 1, 1, 1, 1, 1, 1, 1, 1, 1, 1, 1, 0, 1, 0, 1, 1]) (q27 pr R) (j18 p_3 t_4 ok_5 t134) w = (
  bif t134 then (
  R (.returned (.bool false)) w)
  else (
  J19 pr p_3 t_4 ok_5 w R)) := by kernel_rfl
theorem J18_s (p_3 : Sl) (t_4 : ByteArray) (ok_5 : Bool) (t134 : Bool) (w : World) (R : Ending → World → Prop) : J18 std p_3 t_4 ok_5 t134 w R = (
  bif t134 then (
  R (.returned (.bool false)) w)
  else (
  J19 std p_3 t_4 ok_5 w R)) := J18_gen std p_3 t_4 ok_5 t134 w R
theorem J15_gen (pr : Prims) (p_3 : Sl) (t_4 : ByteArray) (ok_5 : Bool) (u_8 : ByteArray) (q_9 : Sl) (one_10 : Bool) (w : World) (R : Ending → World → Prop) : wpC pr PP cfg (DD pr) (sub (codeOf Tryz.f3) [1, 1, 1, 1, 1, 1, 1, 1, 1, 1, 1, 1]) (retQ Tryz.f3.results.toList R) (j15 p_3 t_4 ok_5 u_8 q_9 one_10) w = (
  bif one_10 then (
  pr.call2 .str .bool PP F.impl_PathOf #[Sl.v q_9] w fun (ρ28 : ByteArray) (ρ29 : Bool) ω30 =>
  bif !ρ29 then (
  J18 pr p_3 t_4 ok_5 true ω30 R)
  else (
  bif !(ρ28.toList == u_8.toList) then (
  J18 pr p_3 t_4 ok_5 true ω30 R)
  else (
  pr.sem1 .sl PP (Instr.buildSlice T_Sint 3 #[(0, vI 1), (1, vI 3), (2, vI 2)]) ω30 fun (ρ56 : Sl) ω57 =>
  pr.call1 .bool PP F.spec_HasPattern #[Sl.v q_9, Sl.v ρ56] ω57 fun (ρ58 : Bool) ω59 =>
  J18 pr p_3 t_4 ok_5 ρ58 ω59 R)))
  else (
  J19 pr p_3 t_4 ok_5 w R)) := by kernel_rfl
theorem J15_s (p_3 : Sl) (t_4 : ByteArray) (ok_5 : Bool) (u_8 : ByteArray) (q_9 : Sl) (one_10 : Bool) (w : World) (R : Ending → World → Prop) : J15 std p_3 t_4 ok_5 u_8 q_9 one_10 w R = (
  bif one_10 then (
  call2 .str .bool PP F.impl_PathOf #[Sl.v q_9] w fun (ρ28 : ByteArray) (ρ29 : Bool) ω30 =>
  bif !ρ29 then (
  J18 std p_3 t_4 ok_5 true ω30 R)
  else (
  bif !(ρ28.toList == u_8.toList) then (
  J18 std p_3 t_4 ok_5 true ω30 R)
  else (
  sem1 .sl PP (Instr.buildSlice T_Sint 3 #[(0, vI 1), (1, vI 3), (2, vI 2)]) ω30 fun (ρ56 : Sl) ω57 =>
  call1 .bool PP F.spec_HasPattern #[Sl.v q_9, Sl.v ρ56] ω57 fun (ρ58 : Bool) ω59 =>
  J18 std p_3 t_4 ok_5 ρ58 ω59 R)))
  else (
  J19 std p_3 t_4 ok_5 w R)) := J15_gen std p_3 t_4 ok_5 u_8 q_9 one_10 w R
theorem J14_gen (pr : Prims) (p_3 : Sl) (t_4 : ByteArray) (ok_5 : Bool) (u_8 : ByteArray) (q_9 : Sl) (one_10 : Bool) (t116 : Bool) (w : World) (R : Ending → World → Prop) : wpC pr PP cfg (DD pr) (sub (codeOf Tryz.f3) [1, 1, 1, 1, 1, 1, 1, 1, 1, 1, 1, 0, 1]) (q23 pr R) (j14 p_3 t_4 ok_5 u_8 q_9 one_10 t116) w = (
  bif t116 then (
  R (.returned (.bool false)) w)
  else (
  J15 pr p_3 t_4 ok_5 u_8 q_9 one_10 w R)) := by kernel_rfl
theorem J14_s (p_3 : Sl) (t_4 : ByteArray) (ok_5 : Bool) (u_8 : ByteArray) (q_9 : Sl) (one_10 : Bool) (t116 : Bool) (w : World) (R : Ending → World → Prop) : J14 std p_3 t_4 ok_5 u_8 q_9 one_10 t116 w R = (
  bif t116 then (
  R (.returned (.bool false)) w)
  else (
  J15 std p_3 t_4 ok_5 u_8 q_9 one_10 w R)) := J14_gen std p_3 t_4 ok_5 u_8 q_9 one_10 t116 w R
theorem J13_gen (pr : Prims) (p_3 : Sl) (t_4 : ByteArray) (ok_5 : Bool) (u_8 : ByteArray) (q_9 : Sl) (one_10 : Bool) (n_13 : Int) (list_14 : Sl) (w : World) (R : Ending → World → Prop) : wpC pr PP cfg (DD pr) (sub (codeOf Tryz.f3) [1, 1, 1, 1, 1, 1, 1, 1, 1, 1, 1]) (retQ Tryz.f3.results.toList R) (j13 p_3 t_4 ok_5 u_8 q_9 one_10 n_13 list_14) w = (
  bif decide ((list_14.n : Int) > 0) then (
  pr.call1 (.int .i64) PP F.spec_CatalanNumber #[vI n_13] w fun (ρ25 : Int) ω26 =>
  J14 pr p_3 t_4 ok_5 u_8 q_9 one_10 ((list_14.n : Int) != ρ25) ω26 R)
  else (
  J14 pr p_3 t_4 ok_5 u_8 q_9 one_10 false w R)) := by kernel_rfl
theorem J13_s (p_3 : Sl) (t_4 : ByteArray) (ok_5 : Bool) (u_8 : ByteArray) (q_9 : Sl) (one_10 : Bool) (n_13 : Int) (list_14 : Sl) (w : World) (R : Ending → World → Prop) : J13 std p_3 t_4 ok_5 u_8 q_9 one_10 n_13 list_14 w R = (
  bif decide ((list_14.n : Int) > 0) then (
  call1 (.int .i64) PP F.spec_CatalanNumber #[vI n_13] w fun (ρ25 : Int) ω26 =>
  J14 std p_3 t_4 ok_5 u_8 q_9 one_10 ((list_14.n : Int) != ρ25) ω26 R)
  else (
  J14 std p_3 t_4 ok_5 u_8 q_9 one_10 false w R)) := J13_gen std p_3 t_4 ok_5 u_8 q_9 one_10 n_13 list_14 w R
theorem J12_gen (pr : Prims) (p_3 : Sl) (t_4 : ByteArray) (ok_5 : Bool) (u_8 : ByteArray) (q_9 : Sl) (one_10 : Bool) (n_13 : Int) (list_14 : Sl) (t106 : Bool) (w : World) (R : Ending → World → Prop) : wpC pr PP cfg (DD pr) (sub (codeOf Tryz.f3) [1, 1, 1, 1, 1, 1, 1, 1, 1, 1, 0, 1]) (q21 pr R) (j12 p_3 t_4 ok_5 u_8 q_9 one_10 n_13 list_14 t106) w = (
  bif t106 then (
  R (.returned (.bool false)) w)
  else (
  J13 pr p_3 t_4 ok_5 u_8 q_9 one_10 n_13 list_14 w R)) := by kernel_rfl
theorem J12_s (p_3 : Sl) (t_4 : ByteArray) (ok_5 : Bool) (u_8 : ByteArray) (q_9 : Sl) (one_10 : Bool) (n_13 : Int) (list_14 : Sl) (t106 : Bool) (w : World) (R : Ending → World → Prop) : J12 std p_3 t_4 ok_5 u_8 q_9 one_10 n_13 list_14 t106 w R = (
  bif t106 then (
  R (.returned (.bool false)) w)
  else (
  J13 std p_3 t_4 ok_5 u_8 q_9 one_10 n_13 list_14 w R)) := J12_gen std p_3 t_4 ok_5 u_8 q_9 one_10 n_13 list_14 t106 w R
theorem E_eq (pr : Prims) (code_0 : Sl) (w : World) (R : Ending → World → Prop) : E pr code_0 w R = (
  pr.pcall1 .bool PP F.laws_big #[Sl.v code_0] fun (ρ0 : Bool) =>
  bif ρ0 then (
  R (.returned (.bool true)) w)
  else (
  pr.call1 .sl PP F.spec_DrawPathOf #[Sl.v code_0] w fun (ρ1 : Sl) ω2 =>
  pr.call2 .str .bool PP F.impl_PathOf #[Sl.v ρ1] ω2 fun (ρ3 : ByteArray) (ρ4 : Bool) ω5 =>
  pr.call2 .str .bool PP F.spec_PathOf #[Sl.v ρ1] ω5 fun (ρ6 : ByteArray) (ρ7 : Bool) ω8 =>
  pr.call1 .str PP F.spec_DrawPermOfPath #[Sl.v code_0] ω8 fun (ρ9 : ByteArray) ω10 =>
  pr.call2 .sl .bool PP F.impl_PermOfPath #[.string ρ9] ω10 fun (ρ11 : Sl) (ρ12 : Bool) ω13 =>
  pr.call2 .sl .bool PP F.spec_PermOfPath #[.string ρ9] ω13 fun (ρ14 : Sl) (ρ15 : Bool) ω16 =>
  pr.call1 (.int .i64) PP F.spec_DrawPathsOf #[Sl.v code_0] ω16 fun (ρ17 : Int) ω18 =>
  pr.call1 .sl PP F.impl_PathsOf #[vI ρ17] ω18 fun (ρ19 : Sl) ω20 =>
  bif !(ρ4 == ρ7) then (
  J12 pr ρ1 ρ3 ρ4 ρ9 ρ11 ρ12 ρ17 ρ19 true ω20 R)
  else (
  bif !(ρ3.toList == ρ6.toList) then (
  J12 pr ρ1 ρ3 ρ4 ρ9 ρ11 ρ12 ρ17 ρ19 true ω20 R)
  else (
  bif !(ρ12 == ρ15) then (
  J12 pr ρ1 ρ3 ρ4 ρ9 ρ11 ρ12 ρ17 ρ19 true ω20 R)
  else (
  pr.call1 .bool PP F.laws_sameInts #[Sl.v ρ11, Sl.v ρ14] ω20 fun (ρ60 : Bool) ω61 =>
  bif !ρ60 then (
  J12 pr ρ1 ρ3 ρ4 ρ9 ρ11 ρ12 ρ17 ρ19 true ω61 R)
  else (
  pr.call1 .sl PP F.spec_PathsOf #[vI ρ17] ω61 fun (ρ62 : Sl) ω63 =>
  pr.call1 .bool PP F.laws_sameTexts #[Sl.v ρ19, Sl.v ρ62] ω63 fun (ρ64 : Bool) ω65 =>
  bif !ρ64 then (
  J12 pr ρ1 ρ3 ρ4 ρ9 ρ11 ρ12 ρ17 ρ19 true ω65 R)
  else (
  pr.call1 .bool PP F.impl_IsPath #[.string ρ9] ω65 fun (ρ66 : Bool) ω67 =>
  pr.call1 .bool PP F.spec_IsPath #[.string ρ9] ω67 fun (ρ68 : Bool) ω69 =>
  bif !(ρ66 == ρ68) then (
  J12 pr ρ1 ρ3 ρ4 ρ9 ρ11 ρ12 ρ17 ρ19 true ω69 R)
  else (
  pr.call1 (.int .i64) PP F.impl_CountPeaks #[.string ρ9] ω69 fun (ρ70 : Int) ω71 =>
  pr.call1 (.int .i64) PP F.spec_CountPeaks #[.string ρ9] ω71 fun (ρ72 : Int) ω73 =>
  bif ρ70 != ρ72 then (
  J12 pr ρ1 ρ3 ρ4 ρ9 ρ11 ρ12 ρ17 ρ19 true ω73 R)
  else (
  pr.call1 (.int .i64) PP F.impl_CountReturns #[.string ρ9] ω73 fun (ρ74 : Int) ω75 =>
  pr.call1 (.int .i64) PP F.spec_CountReturns #[.string ρ9] ω75 fun (ρ76 : Int) ω77 =>
  bif ρ74 != ρ76 then (
  J12 pr ρ1 ρ3 ρ4 ρ9 ρ11 ρ12 ρ17 ρ19 true ω77 R)
  else (
  pr.call1 (.int .i64) PP F.impl_PathHeight #[.string ρ9] ω77 fun (ρ78 : Int) ω79 =>
  pr.call1 (.int .i64) PP F.spec_PathHeight #[.string ρ9] ω79 fun (ρ80 : Int) ω81 =>
  J12 pr ρ1 ρ3 ρ4 ρ9 ρ11 ρ12 ρ17 ρ19 (ρ78 != ρ80) ω81 R)))))))))) := by kernel_rfl
theorem E_s (code_0 : Sl) (w : World) (R : Ending → World → Prop) : E std code_0 w R = (
  pcall1 .bool PP F.laws_big #[Sl.v code_0] fun (ρ0 : Bool) =>
  bif ρ0 then (
  R (.returned (.bool true)) w)
  else (
  call1 .sl PP F.spec_DrawPathOf #[Sl.v code_0] w fun (ρ1 : Sl) ω2 =>
  call2 .str .bool PP F.impl_PathOf #[Sl.v ρ1] ω2 fun (ρ3 : ByteArray) (ρ4 : Bool) ω5 =>
  call2 .str .bool PP F.spec_PathOf #[Sl.v ρ1] ω5 fun (ρ6 : ByteArray) (ρ7 : Bool) ω8 =>
  call1 .str PP F.spec_DrawPermOfPath #[Sl.v code_0] ω8 fun (ρ9 : ByteArray) ω10 =>
  call2 .sl .bool PP F.impl_PermOfPath #[.string ρ9] ω10 fun (ρ11 : Sl) (ρ12 : Bool) ω13 =>
  call2 .sl .bool PP F.spec_PermOfPath #[.string ρ9] ω13 fun (ρ14 : Sl) (ρ15 : Bool) ω16 =>
  call1 (.int .i64) PP F.spec_DrawPathsOf #[Sl.v code_0] ω16 fun (ρ17 : Int) ω18 =>
  call1 .sl PP F.impl_PathsOf #[vI ρ17] ω18 fun (ρ19 : Sl) ω20 =>
  bif !(ρ4 == ρ7) then (
  J12 std ρ1 ρ3 ρ4 ρ9 ρ11 ρ12 ρ17 ρ19 true ω20 R)
  else (
  bif !(ρ3.toList == ρ6.toList) then (
  J12 std ρ1 ρ3 ρ4 ρ9 ρ11 ρ12 ρ17 ρ19 true ω20 R)
  else (
  bif !(ρ12 == ρ15) then (
  J12 std ρ1 ρ3 ρ4 ρ9 ρ11 ρ12 ρ17 ρ19 true ω20 R)
  else (
  call1 .bool PP F.laws_sameInts #[Sl.v ρ11, Sl.v ρ14] ω20 fun (ρ60 : Bool) ω61 =>
  bif !ρ60 then (
  J12 std ρ1 ρ3 ρ4 ρ9 ρ11 ρ12 ρ17 ρ19 true ω61 R)
  else (
  call1 .sl PP F.spec_PathsOf #[vI ρ17] ω61 fun (ρ62 : Sl) ω63 =>
  call1 .bool PP F.laws_sameTexts #[Sl.v ρ19, Sl.v ρ62] ω63 fun (ρ64 : Bool) ω65 =>
  bif !ρ64 then (
  J12 std ρ1 ρ3 ρ4 ρ9 ρ11 ρ12 ρ17 ρ19 true ω65 R)
  else (
  call1 .bool PP F.impl_IsPath #[.string ρ9] ω65 fun (ρ66 : Bool) ω67 =>
  call1 .bool PP F.spec_IsPath #[.string ρ9] ω67 fun (ρ68 : Bool) ω69 =>
  bif !(ρ66 == ρ68) then (
  J12 std ρ1 ρ3 ρ4 ρ9 ρ11 ρ12 ρ17 ρ19 true ω69 R)
  else (
  call1 (.int .i64) PP F.impl_CountPeaks #[.string ρ9] ω69 fun (ρ70 : Int) ω71 =>
  call1 (.int .i64) PP F.spec_CountPeaks #[.string ρ9] ω71 fun (ρ72 : Int) ω73 =>
  bif ρ70 != ρ72 then (
  J12 std ρ1 ρ3 ρ4 ρ9 ρ11 ρ12 ρ17 ρ19 true ω73 R)
  else (
  call1 (.int .i64) PP F.impl_CountReturns #[.string ρ9] ω73 fun (ρ74 : Int) ω75 =>
  call1 (.int .i64) PP F.spec_CountReturns #[.string ρ9] ω75 fun (ρ76 : Int) ω77 =>
  bif ρ74 != ρ76 then (
  J12 std ρ1 ρ3 ρ4 ρ9 ρ11 ρ12 ρ17 ρ19 true ω77 R)
  else (
  call1 (.int .i64) PP F.impl_PathHeight #[.string ρ9] ω77 fun (ρ78 : Int) ω79 =>
  call1 (.int .i64) PP F.spec_PathHeight #[.string ρ9] ω79 fun (ρ80 : Int) ω81 =>
  J12 std ρ1 ρ3 ρ4 ρ9 ρ11 ρ12 ρ17 ρ19 (ρ78 != ρ80) ω81 R)))))))))) := E_eq std code_0 w R
theorem drawsOk : drawsOk PP cfg okD (codeOf Tryz.f3) = true := by kernel_rfl
theorem calls (code_0 : Sl) {w : World} {R : Ending → World → Prop} (h : E std code_0 w R) : Calls PP F.laws_FnPaths #[Sl.v code_0] w R :=
  calls_of noCount mixed drawOk Tryz.func3 rfl (c := cfg) (args := [Sl.v code_0]) rfl (Nat.le_of_ble_eq_true (by kernel_rfl)) drawsOk h
end laws_FnPaths

namespace laws_sameTexts
@[reducible] def cfg : Cfg := ⟨26, [(4, [0, 1, 5])], [(1, [0, 1, 5]), (0, [])], [], [4], [6], [13, 32, 63, 81], [41, 4, 46, 44, 48]⟩
def q0 (pr : Prims) (R : Ending → World → Prop) : Exit → Env → World → Prop := fun ex e w => normQ ex (fun e w => contE pr cfg (sub (codeOf Tryz.f14) [1, 1, 1]) (fun e w => wpC pr PP cfg (DD pr) (sub (codeOf Tryz.f14) [1, 1, 1]) (retQ Tryz.f14.results.toList R) e w) e w) (retQ Tryz.f14.results.toList R) e w
def q1 (pr : Prims) (R : Ending → World → Prop) : Exit → Env → World → Prop := fun ex e w => blockQ ex 0 (q0 pr R) e w
def emb4 (a_0 : Sl) (b_1 : Sl) (i_5 : Int) : Env := [(0, Sl.v a_0), (1, Sl.v b_1), (5, vI i_5)]
def x0 : Env := []
def S4 (pr : Prims) (Q : Exit → Env → World → Prop) : (Env → World → Prop) → Env → World → Prop := fun k e w => wpC pr PP cfg (DD pr) (sub (codeOf Tryz.f14) [1, 1, 0, 1, 0, 0]) (fun ex e w => normQ ex (fun e' w' => k (Env.restr e' (lookN cfg.loops (keyOf (sub (codeOf Tryz.f14) [1, 1, 0, 1, 0, 0])))) w') Q e w) e w
def B4 (pr : Prims) (a_0 : Sl) (b_1 : Sl) (i_5 : Int) (w : World) (k : Env → World → Prop) (Q : Exit → Env → World → Prop) : Prop :=
  S4 pr Q k (emb4 a_0 b_1 i_5) w
def L4 (pr : Prims) (a_0 : Sl) (b_1 : Sl) (i_5 : Int) (w : World) (Q : Exit → Env → World → Prop) : Prop :=
  pr.loop (S4 pr Q) (emb4 a_0 b_1 i_5) w
def E (pr : Prims) (a_0 : Sl) (b_1 : Sl) (w : World) (R : Ending → World → Prop) : Prop :=
  wpC pr PP cfg (DD pr) (codeOf Tryz.f14) (retQ Tryz.f14.results.toList R) (argE 0 [Sl.v a_0, Sl.v b_1]) w
theorem B4_eq (pr : Prims) (a_0 : Sl) (b_1 : Sl) (i_5 : Int) (w : World) (k : Env → World → Prop) (Q : Exit → Env → World → Prop) : B4 pr a_0 b_1 i_5 w k Q = (
  bif decide (i_5 < (a_0.n : Int)) then (
  pr.idxK 1 a_0 i_5 fun (a2 : Addr) =>
  pr.load1 .str a2 w fun (ξ3 : ByteArray) =>
  pr.idxK 1 b_1 i_5 fun (a4 : Addr) =>
  pr.load1 .str a4 w fun (ξ5 : ByteArray) =>
  pr.drewAll w fun ω6 =>
  bif !(ξ3.toList == ξ5.toList) then (
  Q .ret [(4, .bool false)] ω6)
  else (
  k (emb4 a_0 b_1 (w64 (i_5 + 1))) ω6))
  else (
  Q (.exit 0) (x0) w)) := by kernel_rfl
theorem B4_s (a_0 : Sl) (b_1 : Sl) (i_5 : Int) (w : World) (k : Env → World → Prop) (Q : Exit → Env → World → Prop) : B4 std a_0 b_1 i_5 w k Q = (
  bif decide (i_5 < (a_0.n : Int)) then (
  idxK 1 a_0 i_5 fun (a2 : Addr) =>
  load1 .str a2 w fun (ξ3 : ByteArray) =>
  idxK 1 b_1 i_5 fun (a4 : Addr) =>
  load1 .str a4 w fun (ξ5 : ByteArray) =>
  drewAll w fun ω6 =>
  bif !(ξ3.toList == ξ5.toList) then (
  Q .ret [(4, .bool false)] ω6)
  else (
  k (emb4 a_0 b_1 (w64 (i_5 + 1))) ω6))
  else (
  Q (.exit 0) (x0) w)) := B4_eq std a_0 b_1 i_5 w k Q
theorem L4_rule (a_0 : Sl) (b_1 : Sl) (i_5 : Int) (w : World) (Q : Exit → Env → World → Prop) (I : Int → World → Prop) (μ : Int → World → Nat) (h0 : I i_5 w)
    (h : ∀ (i_5 : Int) (w' : World), I i_5 w' → B4 std a_0 b_1 i_5 w' (fun e2 w2 => ∃ i_5_n, e2 = emb4 a_0 b_1 i_5_n ∧ I i_5_n w2 ∧ μ i_5_n w2 < μ i_5 w') Q) :
    L4 std a_0 b_1 i_5 w Q := by
  unfold L4
  refine LoopE.intro (σ := Int) (step := S4 std Q) (fun s => emb4 a_0 b_1 s) (fun s w => I s w) (fun s w => μ s w) i_5 rfl h0 ?_
  intro s w' hI
  have h1 := h s w' hI
  unfold B4 at h1
  exact h1
theorem A4_0_eq (pr : Prims) (w : World) (R : Ending → World → Prop) : (q1 pr R) (.exit 0) (x0) w = (
  R (.returned (.bool true)) w) := by kernel_rfl
theorem A4_0_s (w : World) (R : Ending → World → Prop) : (q1 std R) (.exit 0) (x0) w = (
  R (.returned (.bool true)) w) := A4_0_eq std w R
theorem R4_eq (pr : Prims) (v4 : Value) (w : World) (R : Ending → World → Prop) : (q1 pr R) .ret [(4, v4)] w = (
  R (.returned (v4)) w) := by kernel_rfl
theorem R4_s (v4 : Value) (w : World) (R : Ending → World → Prop) : (q1 std R) .ret [(4, v4)] w = (
  R (.returned (v4)) w) := R4_eq std v4 w R
theorem E_eq (pr : Prims) (a_0 : Sl) (b_1 : Sl) (w : World) (R : Ending → World → Prop) : E pr a_0 b_1 w R = (
  bif (a_0.n : Int) != (b_1.n : Int) then (
  R (.returned (.bool false)) w)
  else (
  L4 pr a_0 b_1 0 w (q1 pr R))) := by kernel_rfl
theorem E_s (a_0 : Sl) (b_1 : Sl) (w : World) (R : Ending → World → Prop) : E std a_0 b_1 w R = (
  bif (a_0.n : Int) != (b_1.n : Int) then (
  R (.returned (.bool false)) w)
  else (
  L4 std a_0 b_1 0 w (q1 std R))) := E_eq std a_0 b_1 w R
theorem drawsOk : drawsOk PP cfg okD (codeOf Tryz.f14) = true := by kernel_rfl
theorem calls (a_0 : Sl) (b_1 : Sl) {w : World} {R : Ending → World → Prop} (h : E std a_0 b_1 w R) : Calls PP F.laws_sameTexts #[Sl.v a_0, Sl.v b_1] w R :=
  calls_of noCount mixed drawOk Tryz.func14 rfl (c := cfg) (args := [Sl.v a_0, Sl.v b_1]) rfl (Nat.le_of_ble_eq_true (by kernel_rfl)) drawsOk h
end laws_sameTexts

namespace spec_DrawPathOf
@[reducible] def cfg : Cfg := ⟨6, [], [], [], [2], [], [13, 32, 63, 81], [41, 4, 46, 44, 48]⟩
def E (pr : Prims) (code_0 : Sl) (w : World) (R : Ending → World → Prop) : Prop :=
  wpC pr PP cfg (DD pr) (codeOf Tryz.f5) (retQ Tryz.f5.results.toList R) (argE 0 [Sl.v code_0]) w
theorem E_eq (pr : Prims) (code_0 : Sl) (w : World) (R : Ending → World → Prop) : E pr code_0 w R = (
  pr.call1 .ptr PP F.spec_l1New #[Sl.v code_0] w fun (ρ0 : (Option Addr)) ω1 =>
  pr.call1 .sl PP F.spec_l18Avoiding #[.pointer ρ0] ω1 fun (ρ2 : Sl) ω3 =>
  R (.returned (Sl.v ρ2)) ω3) := by kernel_rfl
theorem E_s (code_0 : Sl) (w : World) (R : Ending → World → Prop) : E std code_0 w R = (
  call1 .ptr PP F.spec_l1New #[Sl.v code_0] w fun (ρ0 : (Option Addr)) ω1 =>
  call1 .sl PP F.spec_l18Avoiding #[.pointer ρ0] ω1 fun (ρ2 : Sl) ω3 =>
  R (.returned (Sl.v ρ2)) ω3) := E_eq std code_0 w R
theorem drawsOk : drawsOk PP cfg okD (codeOf Tryz.f5) = true := by kernel_rfl
theorem calls (code_0 : Sl) {w : World} {R : Ending → World → Prop} (h : E std code_0 w R) : Calls PP F.spec_DrawPathOf #[Sl.v code_0] w R :=
  calls_of noCount mixed drawOk Tryz.func5 rfl (c := cfg) (args := [Sl.v code_0]) rfl (Nat.le_of_ble_eq_true (by kernel_rfl)) drawsOk h
end spec_DrawPathOf

namespace spec_DrawPermOfPath
@[reducible] def cfg : Cfg := ⟨6, [], [], [], [2], [], [13, 32, 63, 81], [41, 4, 46, 44, 48]⟩
def E (pr : Prims) (code_0 : Sl) (w : World) (R : Ending → World → Prop) : Prop :=
  wpC pr PP cfg (DD pr) (codeOf Tryz.f8) (retQ Tryz.f8.results.toList R) (argE 0 [Sl.v code_0]) w
theorem E_eq (pr : Prims) (code_0 : Sl) (w : World) (R : Ending → World → Prop) : E pr code_0 w R = (
  pr.call1 .ptr PP F.spec_l1New #[Sl.v code_0] w fun (ρ0 : (Option Addr)) ω1 =>
  pr.call1 .str PP F.spec_l18Text #[.pointer ρ0] ω1 fun (ρ2 : ByteArray) ω3 =>
  R (.returned (.string ρ2)) ω3) := by kernel_rfl
theorem E_s (code_0 : Sl) (w : World) (R : Ending → World → Prop) : E std code_0 w R = (
  call1 .ptr PP F.spec_l1New #[Sl.v code_0] w fun (ρ0 : (Option Addr)) ω1 =>
  call1 .str PP F.spec_l18Text #[.pointer ρ0] ω1 fun (ρ2 : ByteArray) ω3 =>
  R (.returned (.string ρ2)) ω3) := E_eq std code_0 w R
theorem drawsOk : drawsOk PP cfg okD (codeOf Tryz.f8) = true := by kernel_rfl
theorem calls (code_0 : Sl) {w : World} {R : Ending → World → Prop} (h : E std code_0 w R) : Calls PP F.spec_DrawPermOfPath #[Sl.v code_0] w R :=
  calls_of noCount mixed drawOk Tryz.func8 rfl (c := cfg) (args := [Sl.v code_0]) rfl (Nat.le_of_ble_eq_true (by kernel_rfl)) drawsOk h
end spec_DrawPermOfPath

namespace spec_DrawPathsOf
@[reducible] def cfg : Cfg := ⟨7, [], [], [], [2], [], [13, 32, 63, 81], [41, 4, 46, 44, 48]⟩
def E (pr : Prims) (code_0 : Sl) (w : World) (R : Ending → World → Prop) : Prop :=
  wpC pr PP cfg (DD pr) (codeOf Tryz.f11) (retQ Tryz.f11.results.toList R) (argE 0 [Sl.v code_0]) w
theorem E_eq (pr : Prims) (code_0 : Sl) (w : World) (R : Ending → World → Prop) : E pr code_0 w R = (
  pr.call1 .ptr PP F.spec_l1New #[Sl.v code_0] w fun (ρ0 : (Option Addr)) ω1 =>
  pr.call1 (.int .i64) PP F.spec_l1Below #[.pointer ρ0, vI 9] ω1 fun (ρ2 : Int) ω3 =>
  R (.returned (vI (w64 (ρ2 - 1)))) ω3) := by kernel_rfl
theorem E_s (code_0 : Sl) (w : World) (R : Ending → World → Prop) : E std code_0 w R = (
  call1 .ptr PP F.spec_l1New #[Sl.v code_0] w fun (ρ0 : (Option Addr)) ω1 =>
  call1 (.int .i64) PP F.spec_l1Below #[.pointer ρ0, vI 9] ω1 fun (ρ2 : Int) ω3 =>
  R (.returned (vI (w64 (ρ2 - 1)))) ω3) := E_eq std code_0 w R
theorem drawsOk : drawsOk PP cfg okD (codeOf Tryz.f11) = true := by kernel_rfl
theorem calls (code_0 : Sl) {w : World} {R : Ending → World → Prop} (h : E std code_0 w R) : Calls PP F.spec_DrawPathsOf #[Sl.v code_0] w R :=
  calls_of noCount mixed drawOk Tryz.func11 rfl (c := cfg) (args := [Sl.v code_0]) rfl (Nat.le_of_ble_eq_true (by kernel_rfl)) drawsOk h
end spec_DrawPathsOf

namespace spec_l18Avoiding
@[reducible] def cfg : Cfg := ⟨21, [], [], [], [2], [], [13, 32, 63, 81], [41, 4, 46, 44, 48]⟩
def E (pr : Prims) (c_0 : Addr) (w : World) (R : Ending → World → Prop) : Prop :=
  wpC pr PP cfg (DD pr) (codeOf Tryz.f27) (retQ Tryz.f27.results.toList R) (argE 0 [.pointer (some c_0)]) w
theorem E_eq (pr : Prims) (c_0 : Addr) (w : World) (R : Ending → World → Prop) : E pr c_0 w R = (
  pr.call1 .sl PP F.spec_l2Bent #[.pointer (some c_0)] w fun (ρ0 : Sl) ω1 =>
  pr.call2 .sl .bool PP F.spec_NearestRest #[Sl.v ρ0] ω1 fun (ρ2 : Sl) (ρ3 : Bool) ω4 =>
  bif ρ3 then (
  pr.call1 .bool PP F.spec_l1Once #[.pointer (some c_0), vI 6] ω4 fun (ρ5 : Bool) ω6 =>
  bif !ρ5 then (
  R (.returned (Sl.v ρ2)) ω6)
  else (
  R (.returned (Sl.v ρ0)) ω6))
  else (
  R (.returned (Sl.v ρ0)) ω4)) := by kernel_rfl
theorem E_s (c_0 : Addr) (w : World) (R : Ending → World → Prop) : E std c_0 w R = (
  call1 .sl PP F.spec_l2Bent #[.pointer (some c_0)] w fun (ρ0 : Sl) ω1 =>
  call2 .sl .bool PP F.spec_NearestRest #[Sl.v ρ0] ω1 fun (ρ2 : Sl) (ρ3 : Bool) ω4 =>
  bif ρ3 then (
  call1 .bool PP F.spec_l1Once #[.pointer (some c_0), vI 6] ω4 fun (ρ5 : Bool) ω6 =>
  bif !ρ5 then (
  R (.returned (Sl.v ρ2)) ω6)
  else (
  R (.returned (Sl.v ρ0)) ω6))
  else (
  R (.returned (Sl.v ρ0)) ω4)) := E_eq std c_0 w R
theorem drawsOk : drawsOk PP cfg okD (codeOf Tryz.f27) = true := by kernel_rfl
theorem calls (c_0 : Addr) {w : World} {R : Ending → World → Prop} (h : E std c_0 w R) : Calls PP F.spec_l18Avoiding #[.pointer (some c_0)] w R :=
  calls_of noCount mixed drawOk Tryz.func27 rfl (c := cfg) (args := [.pointer (some c_0)]) rfl (Nat.le_of_ble_eq_true (by kernel_rfl)) drawsOk h
end spec_l18Avoiding

namespace spec_l18Text
@[reducible] def cfg : Cfg := ⟨21, [], [], [], [2], [], [13, 32, 63, 81], [41, 4, 46, 44, 48]⟩
def E (pr : Prims) (c_0 : Addr) (w : World) (R : Ending → World → Prop) : Prop :=
  wpC pr PP cfg (DD pr) (codeOf Tryz.f35) (retQ Tryz.f35.results.toList R) (argE 0 [.pointer (some c_0)]) w
theorem E_eq (pr : Prims) (c_0 : Addr) (w : World) (R : Ending → World → Prop) : E pr c_0 w R = (
  pr.call1 .sl PP F.spec_l18Avoiding #[.pointer (some c_0)] w fun (ρ0 : Sl) ω1 =>
  pr.call2 .str .bool PP F.spec_PathOf #[Sl.v ρ0] ω1 fun (ρ2 : ByteArray) (ρ3 : Bool) ω4 =>
  bif ρ3 then (
  pr.call1 .bool PP F.spec_l1Once #[.pointer (some c_0), vI 8] ω4 fun (ρ5 : Bool) ω6 =>
  bif !ρ5 then (
  R (.returned (.string ρ2)) ω6)
  else (
  pr.sem1 .sl PP (Instr.buildSlice T_Sstring 4 #[(0, .string (⟨#[85]⟩ : ByteArray)), (1, .string (⟨#[68]⟩ : ByteArray)), (2, .string (⟨#[117]⟩ : ByteArray)), (3, .string (⟨#[85, 68]⟩ : ByteArray))]) ω6 fun (ρ7 : Sl) ω8 =>
  pr.call1 .str PP F.spec_l1Turned #[.pointer (some c_0), .string (⟨#[85, 68, 85, 85, 68, 68]⟩ : ByteArray), Sl.v ρ7] ω8 fun (ρ9 : ByteArray) ω10 =>
  R (.returned (.string ρ9)) ω10))
  else (
  pr.sem1 .sl PP (Instr.buildSlice T_Sstring 4 #[(0, .string (⟨#[85]⟩ : ByteArray)), (1, .string (⟨#[68]⟩ : ByteArray)), (2, .string (⟨#[117]⟩ : ByteArray)), (3, .string (⟨#[85, 68]⟩ : ByteArray))]) ω4 fun (ρ11 : Sl) ω12 =>
  pr.call1 .str PP F.spec_l1Turned #[.pointer (some c_0), .string (⟨#[85, 68, 85, 85, 68, 68]⟩ : ByteArray), Sl.v ρ11] ω12 fun (ρ13 : ByteArray) ω14 =>
  R (.returned (.string ρ13)) ω14)) := by kernel_rfl
theorem E_s (c_0 : Addr) (w : World) (R : Ending → World → Prop) : E std c_0 w R = (
  call1 .sl PP F.spec_l18Avoiding #[.pointer (some c_0)] w fun (ρ0 : Sl) ω1 =>
  call2 .str .bool PP F.spec_PathOf #[Sl.v ρ0] ω1 fun (ρ2 : ByteArray) (ρ3 : Bool) ω4 =>
  bif ρ3 then (
  call1 .bool PP F.spec_l1Once #[.pointer (some c_0), vI 8] ω4 fun (ρ5 : Bool) ω6 =>
  bif !ρ5 then (
  R (.returned (.string ρ2)) ω6)
  else (
  sem1 .sl PP (Instr.buildSlice T_Sstring 4 #[(0, .string (⟨#[85]⟩ : ByteArray)), (1, .string (⟨#[68]⟩ : ByteArray)), (2, .string (⟨#[117]⟩ : ByteArray)), (3, .string (⟨#[85, 68]⟩ : ByteArray))]) ω6 fun (ρ7 : Sl) ω8 =>
  call1 .str PP F.spec_l1Turned #[.pointer (some c_0), .string (⟨#[85, 68, 85, 85, 68, 68]⟩ : ByteArray), Sl.v ρ7] ω8 fun (ρ9 : ByteArray) ω10 =>
  R (.returned (.string ρ9)) ω10))
  else (
  sem1 .sl PP (Instr.buildSlice T_Sstring 4 #[(0, .string (⟨#[85]⟩ : ByteArray)), (1, .string (⟨#[68]⟩ : ByteArray)), (2, .string (⟨#[117]⟩ : ByteArray)), (3, .string (⟨#[85, 68]⟩ : ByteArray))]) ω4 fun (ρ11 : Sl) ω12 =>
  call1 .str PP F.spec_l1Turned #[.pointer (some c_0), .string (⟨#[85, 68, 85, 85, 68, 68]⟩ : ByteArray), Sl.v ρ11] ω12 fun (ρ13 : ByteArray) ω14 =>
  R (.returned (.string ρ13)) ω14)) := E_eq std c_0 w R
theorem drawsOk : drawsOk PP cfg okD (codeOf Tryz.f35) = true := by kernel_rfl
theorem calls (c_0 : Addr) {w : World} {R : Ending → World → Prop} (h : E std c_0 w R) : Calls PP F.spec_l18Text #[.pointer (some c_0)] w R :=
  calls_of noCount mixed drawOk Tryz.func35 rfl (c := cfg) (args := [.pointer (some c_0)]) rfl (Nat.le_of_ble_eq_true (by kernel_rfl)) drawsOk h
end spec_l18Text

namespace spec_l1Turned
@[reducible] def cfg : Cfg := ⟨34, [], [(0, [1])], [], [6], [], [13, 32, 63, 81], [41, 4, 46, 44, 48]⟩
def E (pr : Prims) (c_0 : Addr) (s_1 : ByteArray) (list_2 : Sl) (w : World) (R : Ending → World → Prop) : Prop :=
  wpC pr PP cfg (DD pr) (codeOf Tryz.f65) (retQ Tryz.f65.results.toList R) (argE 0 [.pointer (some c_0), .string s_1, Sl.v list_2]) w
theorem E_eq (pr : Prims) (c_0 : Addr) (s_1 : ByteArray) (list_2 : Sl) (w : World) (R : Ending → World → Prop) : E pr c_0 s_1 list_2 w R = (
  pr.call1 (.int .i64) PP F.spec_l1Below #[.pointer (some c_0), vI (w64 ((s_1.size : Int) + 1))] w fun (ρ0 : Int) ω1 =>
  pr.call1 (.int .i64) PP F.spec_l1Below #[.pointer (some c_0), vI 6] ω1 fun (ρ2 : Int) ω3 =>
  bif ρ2 == 0 then (
  pr.drewAll ω3 fun ω4 =>
  pr.strCutK s_1 none (some ρ0) fun (s5 : ByteArray) =>
  pr.strCutK s_1 (some ρ0) none fun (s6 : ByteArray) =>
  pr.call1 .str PP F.spec_l1Pick #[.pointer (some c_0), Sl.v list_2] ω4 fun (ρ7 : ByteArray) ω8 =>
  ((s5.size + ρ7.size : Nat) : Int) ≤ IntKind.i64.max ∧
  (((s5 ++ ρ7).size + s6.size : Nat) : Int) ≤ IntKind.i64.max ∧
  R (.returned (.string ((s5 ++ ρ7) ++ s6))) ω8)
  else (
  bif ρ2 == 1 then (
  pr.strCutK s_1 none (some ρ0) fun (s9 : ByteArray) =>
  R (.returned (.string s9)) ω3)
  else (
  R (.returned (.string s_1)) ω3))) := by kernel_rfl
theorem E_s (c_0 : Addr) (s_1 : ByteArray) (list_2 : Sl) (w : World) (R : Ending → World → Prop) : E std c_0 s_1 list_2 w R = (
  call1 (.int .i64) PP F.spec_l1Below #[.pointer (some c_0), vI (w64 ((s_1.size : Int) + 1))] w fun (ρ0 : Int) ω1 =>
  call1 (.int .i64) PP F.spec_l1Below #[.pointer (some c_0), vI 6] ω1 fun (ρ2 : Int) ω3 =>
  bif ρ2 == 0 then (
  drewAll ω3 fun ω4 =>
  strCutK s_1 none (some ρ0) fun (s5 : ByteArray) =>
  strCutK s_1 (some ρ0) none fun (s6 : ByteArray) =>
  call1 .str PP F.spec_l1Pick #[.pointer (some c_0), Sl.v list_2] ω4 fun (ρ7 : ByteArray) ω8 =>
  ((s5.size + ρ7.size : Nat) : Int) ≤ IntKind.i64.max ∧
  (((s5 ++ ρ7).size + s6.size : Nat) : Int) ≤ IntKind.i64.max ∧
  R (.returned (.string ((s5 ++ ρ7) ++ s6))) ω8)
  else (
  bif ρ2 == 1 then (
  strCutK s_1 none (some ρ0) fun (s9 : ByteArray) =>
  R (.returned (.string s9)) ω3)
  else (
  R (.returned (.string s_1)) ω3))) := E_eq std c_0 s_1 list_2 w R
theorem drawsOk : drawsOk PP cfg okD (codeOf Tryz.f65) = true := by kernel_rfl
theorem calls (c_0 : Addr) (s_1 : ByteArray) (list_2 : Sl) {w : World} {R : Ending → World → Prop} (h : E std c_0 s_1 list_2 w R) : Calls PP F.spec_l1Turned #[.pointer (some c_0), .string s_1, Sl.v list_2] w R :=
  calls_of noCount mixed drawOk Tryz.func65 rfl (c := cfg) (args := [.pointer (some c_0), .string s_1, Sl.v list_2]) rfl (Nat.le_of_ble_eq_true (by kernel_rfl)) drawsOk h
end spec_l1Turned

end Go.Proofs.YtlcemelmnkipmaaGreat

/- What each function does, step by step, written by a program (Gen.lean); each equation is checked by the kernel. -/
namespace Go.Proofs.YtlcemelmnkipmaaGreat
open Go
set_option linter.unusedVariables false
set_option maxRecDepth 100000
namespace spec_l1Pick
@[reducible] def cfg : Cfg := ⟨12, [], [], [], [4], [], [13, 32, 63, 81], [41, 4, 46, 44, 48]⟩
def E (pr : Prims) (c_0 : Addr) (list_1 : Sl) (w : World) (R : Ending → World → Prop) : Prop :=
  wpC pr PP cfg (DD pr) (codeOf Tryz.f82) (retQ Tryz.f82.results.toList R) (argE 0 [.pointer (some c_0), Sl.v list_1]) w
theorem E_eq (pr : Prims) (c_0 : Addr) (list_1 : Sl) (w : World) (R : Ending → World → Prop) : E pr c_0 list_1 w R = (
  pr.call1 (.int .i64) PP F.spec_l1Below #[.pointer (some c_0), vI (list_1.n : Int)] w fun (ρ0 : Int) ω1 =>
  pr.idxK 1 list_1 ρ0 fun (a2 : Addr) =>
  pr.load1 .str a2 ω1 fun (ξ3 : ByteArray) =>
  R (.returned (.string ξ3)) ω1) := by kernel_rfl
theorem E_s (c_0 : Addr) (list_1 : Sl) (w : World) (R : Ending → World → Prop) : E std c_0 list_1 w R = (
  call1 (.int .i64) PP F.spec_l1Below #[.pointer (some c_0), vI (list_1.n : Int)] w fun (ρ0 : Int) ω1 =>
  idxK 1 list_1 ρ0 fun (a2 : Addr) =>
  load1 .str a2 ω1 fun (ξ3 : ByteArray) =>
  R (.returned (.string ξ3)) ω1) := E_eq std c_0 list_1 w R
theorem drawsOk : drawsOk PP cfg okD (codeOf Tryz.f82) = true := by kernel_rfl
theorem calls (c_0 : Addr) (list_1 : Sl) {w : World} {R : Ending → World → Prop} (h : E std c_0 list_1 w R) : Calls PP F.spec_l1Pick #[.pointer (some c_0), Sl.v list_1] w R :=
  calls_of noCount mixed drawOk Tryz.func82 rfl (c := cfg) (args := [.pointer (some c_0), Sl.v list_1]) rfl (Nat.le_of_ble_eq_true (by kernel_rfl)) drawsOk h
end spec_l1Pick

end Go.Proofs.YtlcemelmnkipmaaGreat

/- Steps beside a cursor. -/
namespace Go.Proofs.YtlcemelmnkipmaaGreat
open Go Go.RowKit
set_option maxRecDepth 100000

structure Dr (w0 wb w : World) (c : Addr) : Prop where
  cur : Cur w0 w c
  keeps : Keeps (CS c) wb w
  lt : c.block < wb.heap.size
theorem Dr.start {w0 w c} (h : Cur w0 w c) : Dr w0 w w c := ⟨h, Keeps.refl _ _, h.lt.2⟩
theorem Dr.step {w0 wb w w' c} {S : Nat → Prop} (h : Dr w0 wb w c) (hk : Keeps S w w') (hS : ∀ k, S k → wb.heap.size ≤ k) : Dr w0 wb w' c := by
  have h1 := h.cur.lt
  have h2 := h.lt
  have h3 := h.keeps.size
  refine ⟨h.cur.keeps hk fun k hk => ⟨?_, ?_⟩, ⟨hk.os.trans h.keeps.os, hk.tape.trans h.keeps.tape, hk.output.trans h.keeps.output, Nat.le_trans h3 hk.size, fun x hx hn => ?_⟩, h2⟩
  · have := hS k hk; omega
  · have := hS k hk; omega
  · exact (hk.block x (by omega) (fun hs => by have := hS x hs; omega)).trans (h.keeps.block x hx hn)
theorem Dr.grow {w0 wb w w' c} (h : Dr w0 wb w c) (hb : Below w.heap.size w w') : Dr w0 wb w' c :=
  h.step (keeps_grown (grow_of_below hb)) fun k hk => by cases hk
theorem Dr.curs {w0 wb w w' c} (h : Dr w0 wb w c) (hc : Cur w0 w' c) (hk : Keeps (CS c) w w') : Dr w0 wb w' c := ⟨hc, h.keeps.trans hk, h.lt⟩
end Go.Proofs.YtlcemelmnkipmaaGreat

/- The draw of a text out of a list. -/
namespace Go.Proofs.YtlcemelmnkipmaaGreat
open Go Go.RowKit
set_option maxRecDepth 100000

theorem oneStrB : OneT T_Sstring T_string (.string ⟨#[]⟩) := oneT_of (by kernel_rfl) (by kernel_rfl) rfl
@[reducible] def RowX (w : World) (s : Sl) (L : List ByteArray) : Prop := Row w s (L.map Value.string)
@[reducible] def OwnX (w : World) (B : Nat) (s : Sl) (L : List ByteArray) : Prop := Own w B T_string s (L.map Value.string)
theorem RowX.get {w s L} (h : RowX w s L) {i : Int} (h0 : 0 ≤ i) (hi : i < L.length) {K : ByteArray → Prop} (hk : K (L[i.toNat]'(by omega))) : idxK 1 s i fun a => load1 .str a w K := by
  refine Row.get (sh := .str) (r := L[i.toNat]'(by omega)) h h0 ?_ hk
  rw [List.getElem?_map, List.getElem?_eq_getElem (by omega)]; rfl
/-- A literal of values of one cell. -/
theorem litV {t e z} (hT : OneT t e z) {w : World} {B : Nat} (hB : B ≤ w.heap.size) (n : Nat) (parts : Array (Nat × Value)) (vs : List Value) (h0 : 0 < n) (hn : vs.length = n) (hm : n ≤ 1000)
    (hf : Instr.fill (fun i => some (i * 1, 1)) ((Array.range (n * 1)).map (z.cells[· % z.cells.size]!)) parts.toList = some vs.toArray) {K : Sl → World → Prop}
    (h : ∀ s w', Own w' B e s vs → Below w.heap.size w w' → K s w') : sem1 .sl PP (Instr.buildSlice t n parts) w K := by
  obtain ⟨i, hu, hi, hz, hs, hb, hzc⟩ := hT
  have hrun : (Instr.buildSlice t n parts).run PP w = .ok (.slice (some ⟨w.heap.size, 0, none⟩) n n) (w.alloc (.cells vs.toArray e)) := by
    refine run_buildSlice w t e n parts vs.toArray i z hu hi hz (by rw [hs]; omega) (by rw [hs]; omega) ?_
    rw [hs]
    exact hf
  exact ⟨⟨some ⟨w.heap.size, 0, none⟩, n, n⟩, _, hrun, h _ _ ⟨by simp [hn], Nat.le_refl _, by simp only [maxLen]; omega, .inr ⟨_, _, rfl, hB, heap_alloc_new w _, by simp [hn], by
    show vs.toArray.toList.take n = vs
    exact List.take_of_length_le (by simp [hn])⟩⟩ (below_of_grow (World.grownBy_alloc w _ none))⟩
theorem c_l1Pick {w0 w : World} {c : Addr} (hc : Cur w0 w c) {s : Sl} {L : List ByteArray} (hs : ∀ w', Keeps (CS c) w w' → RowX w' s L) (h1 : 0 < L.length) (h2 : L.length ≤ 256) :
    Calls PP F.spec_l1Pick #[.pointer (some c), s.v] w fun e w' => ∃ x, e = .returned (.string x) ∧ x ∈ L ∧ Cur w0 w' c ∧ Keeps (CS c) w w' := by
  have hsn : s.n = L.length := by have := (hs w (Keeps.refl _ _)).n; simpa using this
  refine spec_l1Pick.calls c s ?_
  rw [spec_l1Pick.E_s, hsn]
  refine (c_l1Below hc (by omega)).mono ?_
  rintro e w1 ⟨x, rfl, h0, h3, hc1, hk1⟩
  refine ⟨x, rfl, ?_⟩
  refine RowX.get (hs w1 hk1) h0 (by omega) ?_
  exact ⟨_, rfl, List.getElem_mem _, hc1, hk1⟩
end Go.Proofs.YtlcemelmnkipmaaGreat

/- What each function does, step by step, written by a program (Gen.lean); each equation is checked by the kernel. -/
namespace Go.Proofs.YtlcemelmnkipmaaGreat
open Go
set_option linter.unusedVariables false
set_option maxRecDepth 100000
namespace spec_l17Rest
@[reducible] def cfg : Cfg := ⟨29, [(4, [0, 3, 4, 5])], [(1, [0, 3, 4, 5]), (0, [4])], [], [2], [], [13, 32, 63, 81], [41, 4, 46, 44, 48]⟩
def q4 (pr : Prims) (R : Ending → World → Prop) : Exit → Env → World → Prop := fun ex e w => normQ ex (fun e w => contE pr cfg (sub (codeOf Tryz.f75) [1, 1, 1, 1]) (fun e w => wpC pr PP cfg (DD pr) (sub (codeOf Tryz.f75) [1, 1, 1, 1]) (retQ Tryz.f75.results.toList R) e w) e w) (retQ Tryz.f75.results.toList R) e w
def q5 (pr : Prims) (R : Ending → World → Prop) : Exit → Env → World → Prop := fun ex e w => blockQ ex 0 (q4 pr R) e w
def emb4 (p_0 : Sl) (lows_3 : Sl) (out_4 : Sl) (k_5 : Int) : Env := [(0, Sl.v p_0), (3, Sl.v lows_3), (4, Sl.v out_4), (5, vI k_5)]
def x0 (out_4 : Sl) : Env := [(4, Sl.v out_4)]
def S4 (pr : Prims) (Q : Exit → Env → World → Prop) : (Env → World → Prop) → Env → World → Prop := fun k e w => wpC pr PP cfg (DD pr) (sub (codeOf Tryz.f75) [1, 1, 1, 0, 1, 0, 0]) (fun ex e w => normQ ex (fun e' w' => k (Env.restr e' (lookN cfg.loops (keyOf (sub (codeOf Tryz.f75) [1, 1, 1, 0, 1, 0, 0])))) w') Q e w) e w
def B4 (pr : Prims) (p_0 : Sl) (lows_3 : Sl) (out_4 : Sl) (k_5 : Int) (w : World) (k : Env → World → Prop) (Q : Exit → Env → World → Prop) : Prop :=
  S4 pr Q k (emb4 p_0 lows_3 out_4 k_5) w
def L4 (pr : Prims) (p_0 : Sl) (lows_3 : Sl) (out_4 : Sl) (k_5 : Int) (w : World) (Q : Exit → Env → World → Prop) : Prop :=
  pr.loop (S4 pr Q) (emb4 p_0 lows_3 out_4 k_5) w
def E (pr : Prims) (p_0 : Sl) (w : World) (R : Ending → World → Prop) : Prop :=
  wpC pr PP cfg (DD pr) (codeOf Tryz.f75) (retQ Tryz.f75.results.toList R) (argE 0 [Sl.v p_0]) w
theorem B4_eq (pr : Prims) (p_0 : Sl) (lows_3 : Sl) (out_4 : Sl) (k_5 : Int) (w : World) (k : Env → World → Prop) (Q : Exit → Env → World → Prop) : B4 pr p_0 lows_3 out_4 k_5 w k Q = (
  bif decide (k_5 < (p_0.n : Int)) then (
  pr.call1 .bool PP F.spec_l2Has #[Sl.v lows_3, vI (w64 (k_5 + 1))] w fun (ρ6 : Bool) ω7 =>
  bif !ρ6 then (
  pr.idxK 1 p_0 k_5 fun (a8 : Addr) =>
  pr.load1 (.int .i64) a8 ω7 fun (ξ9 : Int) =>
  pr.sem1 .sl PP (Instr.buildSlice T_Sint 1 #[(0, vI ξ9)]) ω7 fun (ρ10 : Sl) ω11 =>
  pr.sem1 .sl PP (Builtin.append_ #[T_Sint, T_Sint] T_Sint #[Sl.v out_4, Sl.v ρ10]) ω11 fun (ρ12 : Sl) ω13 =>
  k (emb4 p_0 lows_3 ρ12 (w64 (k_5 + 1))) ω13)
  else (
  k (emb4 p_0 lows_3 out_4 (w64 (k_5 + 1))) ω7))
  else (
  Q (.exit 0) (x0 out_4) w)) := by kernel_rfl
theorem B4_s (p_0 : Sl) (lows_3 : Sl) (out_4 : Sl) (k_5 : Int) (w : World) (k : Env → World → Prop) (Q : Exit → Env → World → Prop) : B4 std p_0 lows_3 out_4 k_5 w k Q = (
  bif decide (k_5 < (p_0.n : Int)) then (
  call1 .bool PP F.spec_l2Has #[Sl.v lows_3, vI (w64 (k_5 + 1))] w fun (ρ6 : Bool) ω7 =>
  bif !ρ6 then (
  idxK 1 p_0 k_5 fun (a8 : Addr) =>
  load1 (.int .i64) a8 ω7 fun (ξ9 : Int) =>
  sem1 .sl PP (Instr.buildSlice T_Sint 1 #[(0, vI ξ9)]) ω7 fun (ρ10 : Sl) ω11 =>
  sem1 .sl PP (Builtin.append_ #[T_Sint, T_Sint] T_Sint #[Sl.v out_4, Sl.v ρ10]) ω11 fun (ρ12 : Sl) ω13 =>
  k (emb4 p_0 lows_3 ρ12 (w64 (k_5 + 1))) ω13)
  else (
  k (emb4 p_0 lows_3 out_4 (w64 (k_5 + 1))) ω7))
  else (
  Q (.exit 0) (x0 out_4) w)) := B4_eq std p_0 lows_3 out_4 k_5 w k Q
theorem L4_rule (p_0 : Sl) (lows_3 : Sl) (out_4 : Sl) (k_5 : Int) (w : World) (Q : Exit → Env → World → Prop) (I : Sl → Int → World → Prop) (μ : Sl → Int → World → Nat) (h0 : I out_4 k_5 w)
    (h : ∀ (out_4 : Sl) (k_5 : Int) (w' : World), I out_4 k_5 w' → B4 std p_0 lows_3 out_4 k_5 w' (fun e2 w2 => ∃ out_4_n k_5_n, e2 = emb4 p_0 lows_3 out_4_n k_5_n ∧ I out_4_n k_5_n w2 ∧ μ out_4_n k_5_n w2 < μ out_4 k_5 w') Q) :
    L4 std p_0 lows_3 out_4 k_5 w Q := by
  unfold L4
  refine LoopE.intro (σ := Sl × Int) (step := S4 std Q) (fun s => emb4 p_0 lows_3 s.1 s.2) (fun s w => I s.1 s.2 w) (fun s w => μ s.1 s.2 w) (out_4, k_5) rfl h0 ?_
  intro s w' hI
  have h1 := h s.1 s.2 w' hI
  unfold B4 at h1
  simp only [Prod.exists]
  exact h1
theorem A4_0_eq (pr : Prims) (out_4 : Sl) (w : World) (R : Ending → World → Prop) : (q5 pr R) (.exit 0) (x0 out_4) w = (
  pr.call1 .sl PP F.spec_l15Sort #[Sl.v out_4] w fun (ρ14 : Sl) ω15 =>
  R (.returned (Sl.v ρ14)) ω15) := by kernel_rfl
theorem A4_0_s (out_4 : Sl) (w : World) (R : Ending → World → Prop) : (q5 std R) (.exit 0) (x0 out_4) w = (
  call1 .sl PP F.spec_l15Sort #[Sl.v out_4] w fun (ρ14 : Sl) ω15 =>
  R (.returned (Sl.v ρ14)) ω15) := A4_0_eq std out_4 w R
theorem E_eq (pr : Prims) (p_0 : Sl) (w : World) (R : Ending → World → Prop) : E pr p_0 w R = (
  pr.call1 .sl PP F.spec_LowsOf #[Sl.v p_0] w fun (ρ0 : Sl) ω1 =>
  pr.sem1 .sl PP (Instr.buildSlice T_Sint 0 #[]) ω1 fun (ρ2 : Sl) ω3 =>
  L4 pr p_0 ρ0 ρ2 0 ω3 (q5 pr R)) := by kernel_rfl
theorem E_s (p_0 : Sl) (w : World) (R : Ending → World → Prop) : E std p_0 w R = (
  call1 .sl PP F.spec_LowsOf #[Sl.v p_0] w fun (ρ0 : Sl) ω1 =>
  sem1 .sl PP (Instr.buildSlice T_Sint 0 #[]) ω1 fun (ρ2 : Sl) ω3 =>
  L4 std p_0 ρ0 ρ2 0 ω3 (q5 std R)) := E_eq std p_0 w R
theorem drawsOk : drawsOk PP cfg okD (codeOf Tryz.f75) = true := by kernel_rfl
theorem calls (p_0 : Sl) {w : World} {R : Ending → World → Prop} (h : E std p_0 w R) : Calls PP F.spec_l17Rest #[Sl.v p_0] w R :=
  calls_of noCount mixed drawOk Tryz.func75 rfl (c := cfg) (args := [Sl.v p_0]) rfl (Nat.le_of_ble_eq_true (by kernel_rfl)) drawsOk h
end spec_l17Rest

namespace spec_NearestRest
@[reducible] def cfg : Cfg := ⟨63, [(14, [0, 4, 5, 6, 7, 8, 9]), (8, [0, 4, 5, 6, 7, 8])], [(3, [0, 4, 5, 6, 7, 8, 9]), (2, [0, 4, 5, 6, 7, 8, 9]), (1, [0, 4, 5, 6, 7, 8]), (0, [6])], [], [2, 3], [], [13, 32, 63, 81], [41, 4, 46, 44, 48]⟩
def q10 (pr : Prims) (R : Ending → World → Prop) : Exit → Env → World → Prop := fun ex e w => normQ ex (fun e w => contE pr cfg (sub (codeOf Tryz.f53) [1, 1, 1, 1, 1, 1, 1]) (fun e w => wpC pr PP cfg (DD pr) (sub (codeOf Tryz.f53) [1, 1, 1, 1, 1, 1, 1]) (retQ Tryz.f53.results.toList R) e w) e w) (retQ Tryz.f53.results.toList R) e w
def q11 (pr : Prims) (R : Ending → World → Prop) : Exit → Env → World → Prop := fun ex e w => blockQ ex 0 (q10 pr R) e w
def q12 (pr : Prims) (k : Env → World → Prop) (Q : Exit → Env → World → Prop) : Exit → Env → World → Prop := fun ex e w => normQ ex (fun e w => contE pr cfg (sub (codeOf Tryz.f53) [1, 1, 1, 1, 1, 1, 0, 1, 0, 0, 1, 1]) (fun e w => wpC pr PP cfg (DD pr) (sub (codeOf Tryz.f53) [1, 1, 1, 1, 1, 1, 0, 1, 0, 0, 1, 1]) (fun ex e w => normQ ex (fun e' w' => k (Env.restr e' (lookN cfg.loops (keyOf (sub (codeOf Tryz.f53) [1, 1, 1, 1, 1, 1, 0, 1, 0, 0])))) w') Q e w) e w) e w) (fun ex e w => normQ ex (fun e' w' => k (Env.restr e' (lookN cfg.loops (keyOf (sub (codeOf Tryz.f53) [1, 1, 1, 1, 1, 1, 0, 1, 0, 0])))) w') Q e w) e w
def q13 (pr : Prims) (k : Env → World → Prop) (Q : Exit → Env → World → Prop) : Exit → Env → World → Prop := fun ex e w => blockQ ex 1 (q12 pr k Q) e w
def q22 (pr : Prims) (k : Env → World → Prop) (Q : Exit → Env → World → Prop) : Exit → Env → World → Prop := fun ex e w => normQ ex (fun e w => contE pr cfg (sub (codeOf Tryz.f53) [1, 1, 1, 1, 1, 1, 0, 1, 0, 0, 1, 0, 0, 1, 1, 1]) (fun e w => wpC pr PP cfg (DD pr) (sub (codeOf Tryz.f53) [1, 1, 1, 1, 1, 1, 0, 1, 0, 0, 1, 0, 0, 1, 1, 1]) (q13 pr k Q) e w) e w) (q13 pr k Q) e w
def q23 (pr : Prims) (k : Env → World → Prop) (Q : Exit → Env → World → Prop) : Exit → Env → World → Prop := fun ex e w => blockQ ex 2 (q22 pr k Q) e w
def emb8 (p_0 : Sl) (lows_4 : Sl) (rest_5 : Sl) (out_6 : Sl) (low_7 : Int) (k_8 : Int) : Env := [(0, Sl.v p_0), (4, Sl.v lows_4), (5, Sl.v rest_5), (6, Sl.v out_6), (7, vI low_7), (8, vI k_8)]
def emb14 (p_0 : Sl) (lows_4 : Sl) (rest_5 : Sl) (out_6 : Sl) (low_7 : Int) (k_8 : Int) (at_9 : Int) : Env := [(0, Sl.v p_0), (4, Sl.v lows_4), (5, Sl.v rest_5), (6, Sl.v out_6), (7, vI low_7), (8, vI k_8), (9, vI at_9)]
def x2 (p_0 : Sl) (lows_4 : Sl) (rest_5 : Sl) (out_6 : Sl) (low_7 : Int) (k_8 : Int) (at_9 : Int) : Env := [(0, Sl.v p_0), (4, Sl.v lows_4), (5, Sl.v rest_5), (6, Sl.v out_6), (7, vI low_7), (8, vI k_8), (9, vI at_9)]
def x0 (out_6 : Sl) : Env := [(6, Sl.v out_6)]
def S14 (pr : Prims) (Q : Exit → Env → World → Prop) : (Env → World → Prop) → Env → World → Prop := fun k e w => wpC pr PP cfg (DD pr) (sub (codeOf Tryz.f53) [1, 1, 1, 1, 1, 1, 0, 1, 0, 0, 1, 0, 0, 1, 1, 0, 0, 0]) (fun ex e w => normQ ex (fun e' w' => k (Env.restr e' (lookN cfg.loops (keyOf (sub (codeOf Tryz.f53) [1, 1, 1, 1, 1, 1, 0, 1, 0, 0, 1, 0, 0, 1, 1, 0, 0, 0])))) w') Q e w) e w
def S8 (pr : Prims) (Q : Exit → Env → World → Prop) : (Env → World → Prop) → Env → World → Prop := fun k e w => wpC pr PP cfg (DD pr) (sub (codeOf Tryz.f53) [1, 1, 1, 1, 1, 1, 0, 1, 0, 0]) (fun ex e w => normQ ex (fun e' w' => k (Env.restr e' (lookN cfg.loops (keyOf (sub (codeOf Tryz.f53) [1, 1, 1, 1, 1, 1, 0, 1, 0, 0])))) w') Q e w) e w
def B14 (pr : Prims) (p_0 : Sl) (lows_4 : Sl) (rest_5 : Sl) (out_6 : Sl) (low_7 : Int) (k_8 : Int) (at_9 : Int) (w : World) (k : Env → World → Prop) (Q : Exit → Env → World → Prop) : Prop :=
  S14 pr Q k (emb14 p_0 lows_4 rest_5 out_6 low_7 k_8 at_9) w
def L14 (pr : Prims) (p_0 : Sl) (lows_4 : Sl) (rest_5 : Sl) (out_6 : Sl) (low_7 : Int) (k_8 : Int) (at_9 : Int) (w : World) (Q : Exit → Env → World → Prop) : Prop :=
  pr.loop (S14 pr Q) (emb14 p_0 lows_4 rest_5 out_6 low_7 k_8 at_9) w
def B8 (pr : Prims) (p_0 : Sl) (lows_4 : Sl) (rest_5 : Sl) (out_6 : Sl) (low_7 : Int) (k_8 : Int) (w : World) (k : Env → World → Prop) (Q : Exit → Env → World → Prop) : Prop :=
  S8 pr Q k (emb8 p_0 lows_4 rest_5 out_6 low_7 k_8) w
def L8 (pr : Prims) (p_0 : Sl) (lows_4 : Sl) (rest_5 : Sl) (out_6 : Sl) (low_7 : Int) (k_8 : Int) (w : World) (Q : Exit → Env → World → Prop) : Prop :=
  pr.loop (S8 pr Q) (emb8 p_0 lows_4 rest_5 out_6 low_7 k_8) w
def E (pr : Prims) (p_0 : Sl) (w : World) (R : Ending → World → Prop) : Prop :=
  wpC pr PP cfg (DD pr) (codeOf Tryz.f53) (retQ Tryz.f53.results.toList R) (argE 0 [Sl.v p_0]) w
theorem B14_eq (pr : Prims) (p_0 : Sl) (lows_4 : Sl) (rest_5 : Sl) (out_6 : Sl) (low_7 : Int) (k_8 : Int) (at_9 : Int) (w : World) (k : Env → World → Prop) (Q : Exit → Env → World → Prop) : B14 pr p_0 lows_4 rest_5 out_6 low_7 k_8 at_9 w k Q = (
  pr.idxK 1 rest_5 at_9 fun (a24 : Addr) =>
  pr.load1 (.int .i64) a24 w fun (ξ25 : Int) =>
  bif decide (ξ25 < low_7) then (
  k (emb14 p_0 lows_4 rest_5 out_6 low_7 k_8 (w64 (at_9 + 1))) w)
  else (
  Q (.exit 2) (x2 p_0 lows_4 rest_5 out_6 low_7 k_8 at_9) w)) := by kernel_rfl
theorem B14_s (p_0 : Sl) (lows_4 : Sl) (rest_5 : Sl) (out_6 : Sl) (low_7 : Int) (k_8 : Int) (at_9 : Int) (w : World) (k : Env → World → Prop) (Q : Exit → Env → World → Prop) : B14 std p_0 lows_4 rest_5 out_6 low_7 k_8 at_9 w k Q = (
  idxK 1 rest_5 at_9 fun (a24 : Addr) =>
  load1 (.int .i64) a24 w fun (ξ25 : Int) =>
  bif decide (ξ25 < low_7) then (
  k (emb14 p_0 lows_4 rest_5 out_6 low_7 k_8 (w64 (at_9 + 1))) w)
  else (
  Q (.exit 2) (x2 p_0 lows_4 rest_5 out_6 low_7 k_8 at_9) w)) := B14_eq std p_0 lows_4 rest_5 out_6 low_7 k_8 at_9 w k Q
theorem L14_rule (p_0 : Sl) (lows_4 : Sl) (rest_5 : Sl) (out_6 : Sl) (low_7 : Int) (k_8 : Int) (at_9 : Int) (w : World) (Q : Exit → Env → World → Prop) (I : Int → World → Prop) (μ : Int → World → Nat) (h0 : I at_9 w)
    (h : ∀ (at_9 : Int) (w' : World), I at_9 w' → B14 std p_0 lows_4 rest_5 out_6 low_7 k_8 at_9 w' (fun e2 w2 => ∃ at_9_n, e2 = emb14 p_0 lows_4 rest_5 out_6 low_7 k_8 at_9_n ∧ I at_9_n w2 ∧ μ at_9_n w2 < μ at_9 w') Q) :
    L14 std p_0 lows_4 rest_5 out_6 low_7 k_8 at_9 w Q := by
  unfold L14
  refine LoopE.intro (σ := Int) (step := S14 std Q) (fun s => emb14 p_0 lows_4 rest_5 out_6 low_7 k_8 s) (fun s w => I s w) (fun s w => μ s w) at_9 rfl h0 ?_
  intro s w' hI
  have h1 := h s w' hI
  unfold B14 at h1
  exact h1
theorem A14_2_eq (pr : Prims) (p_0 : Sl) (lows_4 : Sl) (rest_5 : Sl) (out_6 : Sl) (low_7 : Int) (k_8 : Int) (at_9 : Int) (w : World) (k : Env → World → Prop) (Q : Exit → Env → World → Prop) : (q23 pr k Q) (.exit 2) (x2 p_0 lows_4 rest_5 out_6 low_7 k_8 at_9) w = (
  pr.idxK 1 rest_5 at_9 fun (a26 : Addr) =>
  pr.load1 (.int .i64) a26 w fun (ξ27 : Int) =>
  pr.sem1 .sl PP (Instr.buildSlice T_Sint 1 #[(0, vI ξ27)]) w fun (ρ28 : Sl) ω29 =>
  pr.sem1 .sl PP (Builtin.append_ #[T_Sint, T_Sint] T_Sint #[Sl.v out_6, Sl.v ρ28]) ω29 fun (ρ30 : Sl) ω31 =>
  pr.drewAll ω31 fun ω32 =>
  pr.cutK 1 rest_5 none (some at_9) fun (s33 : Sl) =>
  pr.cutK 1 rest_5 (some (w64 (at_9 + 1))) none fun (s34 : Sl) =>
  pr.sem1 .sl PP (Instr.buildSlice T_Sint 0 #[]) ω32 fun (ρ35 : Sl) ω36 =>
  pr.sem1 .sl PP (Builtin.append_ #[T_Sint, T_Sint] T_Sint #[Sl.v ρ35, Sl.v s33]) ω36 fun (ρ37 : Sl) ω38 =>
  pr.sem1 .sl PP (Builtin.append_ #[T_Sint, T_Sint] T_Sint #[Sl.v ρ37, Sl.v s34]) ω38 fun (ρ39 : Sl) ω40 =>
  k (emb8 p_0 lows_4 ρ39 ρ30 low_7 (w64 (k_8 + 1))) ω40) := by kernel_rfl
theorem A14_2_s (p_0 : Sl) (lows_4 : Sl) (rest_5 : Sl) (out_6 : Sl) (low_7 : Int) (k_8 : Int) (at_9 : Int) (w : World) (k : Env → World → Prop) (Q : Exit → Env → World → Prop) : (q23 std k Q) (.exit 2) (x2 p_0 lows_4 rest_5 out_6 low_7 k_8 at_9) w = (
  idxK 1 rest_5 at_9 fun (a26 : Addr) =>
  load1 (.int .i64) a26 w fun (ξ27 : Int) =>
  sem1 .sl PP (Instr.buildSlice T_Sint 1 #[(0, vI ξ27)]) w fun (ρ28 : Sl) ω29 =>
  sem1 .sl PP (Builtin.append_ #[T_Sint, T_Sint] T_Sint #[Sl.v out_6, Sl.v ρ28]) ω29 fun (ρ30 : Sl) ω31 =>
  drewAll ω31 fun ω32 =>
  cutK 1 rest_5 none (some at_9) fun (s33 : Sl) =>
  cutK 1 rest_5 (some (w64 (at_9 + 1))) none fun (s34 : Sl) =>
  sem1 .sl PP (Instr.buildSlice T_Sint 0 #[]) ω32 fun (ρ35 : Sl) ω36 =>
  sem1 .sl PP (Builtin.append_ #[T_Sint, T_Sint] T_Sint #[Sl.v ρ35, Sl.v s33]) ω36 fun (ρ37 : Sl) ω38 =>
  sem1 .sl PP (Builtin.append_ #[T_Sint, T_Sint] T_Sint #[Sl.v ρ37, Sl.v s34]) ω38 fun (ρ39 : Sl) ω40 =>
  k (emb8 p_0 lows_4 ρ39 ρ30 low_7 (w64 (k_8 + 1))) ω40) := A14_2_eq std p_0 lows_4 rest_5 out_6 low_7 k_8 at_9 w k Q
theorem B8_eq (pr : Prims) (p_0 : Sl) (lows_4 : Sl) (rest_5 : Sl) (out_6 : Sl) (low_7 : Int) (k_8 : Int) (w : World) (k : Env → World → Prop) (Q : Exit → Env → World → Prop) : B8 pr p_0 lows_4 rest_5 out_6 low_7 k_8 w k Q = (
  bif decide (k_8 < (p_0.n : Int)) then (
  pr.call1 .bool PP F.spec_l2Has #[Sl.v lows_4, vI (w64 (k_8 + 1))] w fun (ρ14 : Bool) ω15 =>
  bif ρ14 then (
  pr.idxK 1 p_0 k_8 fun (a16 : Addr) =>
  pr.load1 (.int .i64) a16 ω15 fun (ξ17 : Int) =>
  pr.sem1 .sl PP (Instr.buildSlice T_Sint 1 #[(0, vI ξ17)]) ω15 fun (ρ18 : Sl) ω19 =>
  pr.sem1 .sl PP (Builtin.append_ #[T_Sint, T_Sint] T_Sint #[Sl.v out_6, Sl.v ρ18]) ω19 fun (ρ20 : Sl) ω21 =>
  k (emb8 p_0 lows_4 rest_5 ρ20 ξ17 (w64 (k_8 + 1))) ω21)
  else (
  L14 pr p_0 lows_4 rest_5 out_6 low_7 k_8 0 ω15 (q23 pr k Q)))
  else (
  Q (.exit 0) (x0 out_6) w)) := by kernel_rfl
theorem B8_s (p_0 : Sl) (lows_4 : Sl) (rest_5 : Sl) (out_6 : Sl) (low_7 : Int) (k_8 : Int) (w : World) (k : Env → World → Prop) (Q : Exit → Env → World → Prop) : B8 std p_0 lows_4 rest_5 out_6 low_7 k_8 w k Q = (
  bif decide (k_8 < (p_0.n : Int)) then (
  call1 .bool PP F.spec_l2Has #[Sl.v lows_4, vI (w64 (k_8 + 1))] w fun (ρ14 : Bool) ω15 =>
  bif ρ14 then (
  idxK 1 p_0 k_8 fun (a16 : Addr) =>
  load1 (.int .i64) a16 ω15 fun (ξ17 : Int) =>
  sem1 .sl PP (Instr.buildSlice T_Sint 1 #[(0, vI ξ17)]) ω15 fun (ρ18 : Sl) ω19 =>
  sem1 .sl PP (Builtin.append_ #[T_Sint, T_Sint] T_Sint #[Sl.v out_6, Sl.v ρ18]) ω19 fun (ρ20 : Sl) ω21 =>
  k (emb8 p_0 lows_4 rest_5 ρ20 ξ17 (w64 (k_8 + 1))) ω21)
  else (
  L14 std p_0 lows_4 rest_5 out_6 low_7 k_8 0 ω15 (q23 std k Q)))
  else (
  Q (.exit 0) (x0 out_6) w)) := B8_eq std p_0 lows_4 rest_5 out_6 low_7 k_8 w k Q
theorem L8_rule (p_0 : Sl) (lows_4 : Sl) (rest_5 : Sl) (out_6 : Sl) (low_7 : Int) (k_8 : Int) (w : World) (Q : Exit → Env → World → Prop) (I : Sl → Sl → Int → Int → World → Prop) (μ : Sl → Sl → Int → Int → World → Nat) (h0 : I rest_5 out_6 low_7 k_8 w)
    (h : ∀ (rest_5 : Sl) (out_6 : Sl) (low_7 : Int) (k_8 : Int) (w' : World), I rest_5 out_6 low_7 k_8 w' → B8 std p_0 lows_4 rest_5 out_6 low_7 k_8 w' (fun e2 w2 => ∃ rest_5_n out_6_n low_7_n k_8_n, e2 = emb8 p_0 lows_4 rest_5_n out_6_n low_7_n k_8_n ∧ I rest_5_n out_6_n low_7_n k_8_n w2 ∧ μ rest_5_n out_6_n low_7_n k_8_n w2 < μ rest_5 out_6 low_7 k_8 w') Q) :
    L8 std p_0 lows_4 rest_5 out_6 low_7 k_8 w Q := by
  unfold L8
  refine LoopE.intro (σ := Sl × Sl × Int × Int) (step := S8 std Q) (fun s => emb8 p_0 lows_4 s.1 s.2.1 s.2.2.1 s.2.2.2) (fun s w => I s.1 s.2.1 s.2.2.1 s.2.2.2 w) (fun s w => μ s.1 s.2.1 s.2.2.1 s.2.2.2 w) (rest_5, out_6, low_7, k_8) rfl h0 ?_
  intro s w' hI
  have h1 := h s.1 s.2.1 s.2.2.1 s.2.2.2 w' hI
  unfold B8 at h1
  simp only [Prod.exists]
  exact h1
theorem A8_0_eq (pr : Prims) (out_6 : Sl) (w : World) (R : Ending → World → Prop) : (q11 pr R) (.exit 0) (x0 out_6) w = (
  R (.returned (.tuple #[Sl.v out_6, .bool true])) w) := by kernel_rfl
theorem A8_0_s (out_6 : Sl) (w : World) (R : Ending → World → Prop) : (q11 std R) (.exit 0) (x0 out_6) w = (
  R (.returned (.tuple #[Sl.v out_6, .bool true])) w) := A8_0_eq std out_6 w R
theorem E_eq (pr : Prims) (p_0 : Sl) (w : World) (R : Ending → World → Prop) : E pr p_0 w R = (
  pr.call1 .bool PP F.spec_IsPerm #[Sl.v p_0] w fun (ρ0 : Bool) ω1 =>
  bif !ρ0 then (
  pr.sem1 .sl PP (Instr.buildSlice T_Sint 0 #[]) ω1 fun (ρ2 : Sl) ω3 =>
  R (.returned (.tuple #[Sl.v ρ2, .bool false])) ω3)
  else (
  pr.call1 .sl PP F.spec_LowsOf #[Sl.v p_0] ω1 fun (ρ4 : Sl) ω5 =>
  pr.call1 .sl PP F.spec_l17Rest #[Sl.v p_0] ω5 fun (ρ6 : Sl) ω7 =>
  pr.sem1 .sl PP (Instr.buildSlice T_Sint 0 #[]) ω7 fun (ρ8 : Sl) ω9 =>
  L8 pr p_0 ρ4 ρ6 ρ8 0 0 ω9 (q11 pr R))) := by kernel_rfl
theorem E_s (p_0 : Sl) (w : World) (R : Ending → World → Prop) : E std p_0 w R = (
  call1 .bool PP F.spec_IsPerm #[Sl.v p_0] w fun (ρ0 : Bool) ω1 =>
  bif !ρ0 then (
  sem1 .sl PP (Instr.buildSlice T_Sint 0 #[]) ω1 fun (ρ2 : Sl) ω3 =>
  R (.returned (.tuple #[Sl.v ρ2, .bool false])) ω3)
  else (
  call1 .sl PP F.spec_LowsOf #[Sl.v p_0] ω1 fun (ρ4 : Sl) ω5 =>
  call1 .sl PP F.spec_l17Rest #[Sl.v p_0] ω5 fun (ρ6 : Sl) ω7 =>
  sem1 .sl PP (Instr.buildSlice T_Sint 0 #[]) ω7 fun (ρ8 : Sl) ω9 =>
  L8 std p_0 ρ4 ρ6 ρ8 0 0 ω9 (q11 std R))) := E_eq std p_0 w R
theorem drawsOk : drawsOk PP cfg okD (codeOf Tryz.f53) = true := by kernel_rfl
theorem calls (p_0 : Sl) {w : World} {R : Ending → World → Prop} (h : E std p_0 w R) : Calls PP F.spec_NearestRest #[Sl.v p_0] w R :=
  calls_of noCount mixed drawOk Tryz.func53 rfl (c := cfg) (args := [Sl.v p_0]) rfl (Nat.le_of_ble_eq_true (by kernel_rfl)) drawsOk h
end spec_NearestRest

end Go.Proofs.YtlcemelmnkipmaaGreat

/- What each function does, step by step, written by a program (Gen.lean); each equation is checked by the kernel. -/
namespace Go.Proofs.YtlcemelmnkipmaaGreat
open Go
set_option linter.unusedVariables false
set_option maxRecDepth 100000
namespace spec_LowsOf
@[reducible] def cfg : Cfg := ⟨36, [(4, [0, 3, 4, 5])], [(1, [0, 3, 4, 5]), (0, [3])], [], [2], [], [13, 32, 63, 81], [41, 4, 46, 44, 48]⟩
def q2 (pr : Prims) (R : Ending → World → Prop) : Exit → Env → World → Prop := fun ex e w => normQ ex (fun e w => contE pr cfg (sub (codeOf Tryz.f74) [1, 1, 1, 1]) (fun e w => wpC pr PP cfg (DD pr) (sub (codeOf Tryz.f74) [1, 1, 1, 1]) (retQ Tryz.f74.results.toList R) e w) e w) (retQ Tryz.f74.results.toList R) e w
def q3 (pr : Prims) (R : Ending → World → Prop) : Exit → Env → World → Prop := fun ex e w => blockQ ex 0 (q2 pr R) e w
def emb4 (p_0 : Sl) (out_3 : Sl) (least_4 : Int) (k_5 : Int) : Env := [(0, Sl.v p_0), (3, Sl.v out_3), (4, vI least_4), (5, vI k_5)]
def x0 (out_3 : Sl) : Env := [(3, Sl.v out_3)]
def S4 (pr : Prims) (Q : Exit → Env → World → Prop) : (Env → World → Prop) → Env → World → Prop := fun k e w => wpC pr PP cfg (DD pr) (sub (codeOf Tryz.f74) [1, 1, 1, 0, 1, 0, 0]) (fun ex e w => normQ ex (fun e' w' => k (Env.restr e' (lookN cfg.loops (keyOf (sub (codeOf Tryz.f74) [1, 1, 1, 0, 1, 0, 0])))) w') Q e w) e w
def B4 (pr : Prims) (p_0 : Sl) (out_3 : Sl) (least_4 : Int) (k_5 : Int) (w : World) (k : Env → World → Prop) (Q : Exit → Env → World → Prop) : Prop :=
  S4 pr Q k (emb4 p_0 out_3 least_4 k_5) w
def L4 (pr : Prims) (p_0 : Sl) (out_3 : Sl) (least_4 : Int) (k_5 : Int) (w : World) (Q : Exit → Env → World → Prop) : Prop :=
  pr.loop (S4 pr Q) (emb4 p_0 out_3 least_4 k_5) w
def E (pr : Prims) (p_0 : Sl) (w : World) (R : Ending → World → Prop) : Prop :=
  wpC pr PP cfg (DD pr) (codeOf Tryz.f74) (retQ Tryz.f74.results.toList R) (argE 0 [Sl.v p_0]) w
theorem B4_eq (pr : Prims) (p_0 : Sl) (out_3 : Sl) (least_4 : Int) (k_5 : Int) (w : World) (k : Env → World → Prop) (Q : Exit → Env → World → Prop) : B4 pr p_0 out_3 least_4 k_5 w k Q = (
  bif decide (k_5 < (p_0.n : Int)) then (
  pr.call1 .bool PP F.spec_IsPerm #[Sl.v p_0] w fun (ρ4 : Bool) ω5 =>
  bif ρ4 then (
  pr.idxK 1 p_0 k_5 fun (a6 : Addr) =>
  pr.load1 (.int .i64) a6 ω5 fun (ξ7 : Int) =>
  bif decide (ξ7 < least_4) then (
  pr.idxK 1 p_0 k_5 fun (a8 : Addr) =>
  pr.load1 (.int .i64) a8 ω5 fun (ξ9 : Int) =>
  pr.sem1 .sl PP (Instr.buildSlice T_Sint 1 #[(0, vI (w64 (k_5 + 1)))]) ω5 fun (ρ10 : Sl) ω11 =>
  pr.sem1 .sl PP (Builtin.append_ #[T_Sint, T_Sint] T_Sint #[Sl.v out_3, Sl.v ρ10]) ω11 fun (ρ12 : Sl) ω13 =>
  k (emb4 p_0 ρ12 ξ9 (w64 (k_5 + 1))) ω13)
  else (
  k (emb4 p_0 out_3 least_4 (w64 (k_5 + 1))) ω5))
  else (
  Q (.exit 0) (x0 out_3) ω5))
  else (
  Q (.exit 0) (x0 out_3) w)) := by kernel_rfl
theorem B4_s (p_0 : Sl) (out_3 : Sl) (least_4 : Int) (k_5 : Int) (w : World) (k : Env → World → Prop) (Q : Exit → Env → World → Prop) : B4 std p_0 out_3 least_4 k_5 w k Q = (
  bif decide (k_5 < (p_0.n : Int)) then (
  call1 .bool PP F.spec_IsPerm #[Sl.v p_0] w fun (ρ4 : Bool) ω5 =>
  bif ρ4 then (
  idxK 1 p_0 k_5 fun (a6 : Addr) =>
  load1 (.int .i64) a6 ω5 fun (ξ7 : Int) =>
  bif decide (ξ7 < least_4) then (
  idxK 1 p_0 k_5 fun (a8 : Addr) =>
  load1 (.int .i64) a8 ω5 fun (ξ9 : Int) =>
  sem1 .sl PP (Instr.buildSlice T_Sint 1 #[(0, vI (w64 (k_5 + 1)))]) ω5 fun (ρ10 : Sl) ω11 =>
  sem1 .sl PP (Builtin.append_ #[T_Sint, T_Sint] T_Sint #[Sl.v out_3, Sl.v ρ10]) ω11 fun (ρ12 : Sl) ω13 =>
  k (emb4 p_0 ρ12 ξ9 (w64 (k_5 + 1))) ω13)
  else (
  k (emb4 p_0 out_3 least_4 (w64 (k_5 + 1))) ω5))
  else (
  Q (.exit 0) (x0 out_3) ω5))
  else (
  Q (.exit 0) (x0 out_3) w)) := B4_eq std p_0 out_3 least_4 k_5 w k Q
theorem L4_rule (p_0 : Sl) (out_3 : Sl) (least_4 : Int) (k_5 : Int) (w : World) (Q : Exit → Env → World → Prop) (I : Sl → Int → Int → World → Prop) (μ : Sl → Int → Int → World → Nat) (h0 : I out_3 least_4 k_5 w)
    (h : ∀ (out_3 : Sl) (least_4 : Int) (k_5 : Int) (w' : World), I out_3 least_4 k_5 w' → B4 std p_0 out_3 least_4 k_5 w' (fun e2 w2 => ∃ out_3_n least_4_n k_5_n, e2 = emb4 p_0 out_3_n least_4_n k_5_n ∧ I out_3_n least_4_n k_5_n w2 ∧ μ out_3_n least_4_n k_5_n w2 < μ out_3 least_4 k_5 w') Q) :
    L4 std p_0 out_3 least_4 k_5 w Q := by
  unfold L4
  refine LoopE.intro (σ := Sl × Int × Int) (step := S4 std Q) (fun s => emb4 p_0 s.1 s.2.1 s.2.2) (fun s w => I s.1 s.2.1 s.2.2 w) (fun s w => μ s.1 s.2.1 s.2.2 w) (out_3, least_4, k_5) rfl h0 ?_
  intro s w' hI
  have h1 := h s.1 s.2.1 s.2.2 w' hI
  unfold B4 at h1
  simp only [Prod.exists]
  exact h1
theorem A4_0_eq (pr : Prims) (out_3 : Sl) (w : World) (R : Ending → World → Prop) : (q3 pr R) (.exit 0) (x0 out_3) w = (
  R (.returned (Sl.v out_3)) w) := by kernel_rfl
theorem A4_0_s (out_3 : Sl) (w : World) (R : Ending → World → Prop) : (q3 std R) (.exit 0) (x0 out_3) w = (
  R (.returned (Sl.v out_3)) w) := A4_0_eq std out_3 w R
theorem E_eq (pr : Prims) (p_0 : Sl) (w : World) (R : Ending → World → Prop) : E pr p_0 w R = (
  pr.sem1 .sl PP (Instr.buildSlice T_Sint 0 #[]) w fun (ρ0 : Sl) ω1 =>
  L4 pr p_0 ρ0 (w64 ((p_0.n : Int) + 1)) 0 ω1 (q3 pr R)) := by kernel_rfl
theorem E_s (p_0 : Sl) (w : World) (R : Ending → World → Prop) : E std p_0 w R = (
  sem1 .sl PP (Instr.buildSlice T_Sint 0 #[]) w fun (ρ0 : Sl) ω1 =>
  L4 std p_0 ρ0 (w64 ((p_0.n : Int) + 1)) 0 ω1 (q3 std R)) := E_eq std p_0 w R
theorem drawsOk : drawsOk PP cfg okD (codeOf Tryz.f74) = true := by kernel_rfl
theorem calls (p_0 : Sl) {w : World} {R : Ending → World → Prop} (h : E std p_0 w R) : Calls PP F.spec_LowsOf #[Sl.v p_0] w R :=
  calls_of noCount mixed drawOk Tryz.func74 rfl (c := cfg) (args := [Sl.v p_0]) rfl (Nat.le_of_ble_eq_true (by kernel_rfl)) drawsOk h
end spec_LowsOf

end Go.Proofs.YtlcemelmnkipmaaGreat

/- The places of the lows: both texts. -/
namespace Go.Proofs.YtlcemelmnkipmaaGreat
open Go Go.RowKit
set_option maxRecDepth 100000

/-- Is no earlier number less? -/
def isLow (L : List Int) (i : Nat) : Bool := (List.range i).all fun j => !decide (L.getD j 0 < L.getD i 0)
theorem isLow_iff {L : List Int} {i : Nat} : isLow L i = true ↔ ∀ j, j < i → ¬ L.getD j 0 < L.getD i 0 := by simp [isLow]
def lowsT (L : List Int) : Nat → List Int
  | 0 => []
  | k + 1 => if isLow L k then lowsT L k ++ [(k : Int) + 1] else lowsT L k
theorem lowsT_length (L : List Int) : ∀ k, (lowsT L k).length ≤ k
  | 0 => by simp [lowsT]
  | k + 1 => by
    have := lowsT_length L k
    rw [lowsT]
    split
    · simp; omega
    · omega
theorem mem_lowsT {L : List Int} : ∀ {k : Nat} {x : Int}, x ∈ lowsT L k ↔ 1 ≤ x ∧ x ≤ k ∧ isLow L (x - 1).toNat = true
  | 0, x => by simp [lowsT]; omega
  | k + 1, x => by
    rw [lowsT]
    have ih := mem_lowsT (L := L) (k := k) (x := x)
    split
    · rename_i h
      rw [List.mem_append, ih]
      simp only [List.mem_singleton]
      constructor
      · rintro (⟨h1, h2, h3⟩ | rfl)
        · exact ⟨h1, by omega, h3⟩
        · exact ⟨by omega, by omega, by rw [show ((k : Int) + 1 - 1).toNat = k by omega]; exact h⟩
      · rintro ⟨h1, h2, h3⟩
        by_cases e : x = (k : Int) + 1
        · exact .inr e
        · exact .inl ⟨h1, by omega, h3⟩
    · rename_i h
      rw [ih]
      constructor
      · rintro ⟨h1, h2, h3⟩; exact ⟨h1, by omega, h3⟩
      · rintro ⟨h1, h2, h3⟩
        refine ⟨h1, ?_, h3⟩
        by_cases e : x = (k : Int) + 1
        · subst e
          rw [show ((k : Int) + 1 - 1).toNat = k by omega] at h3
          exact absurd h3 h
        · omega
open Classical in
noncomputable def LowsV (L : List Int) : List Int := if IsP L then lowsT L L.length else []
/-- The least of the first k. -/
def leastT (L : List Int) : Nat → Int
  | 0 => (L.length : Int) + 1
  | k + 1 => if L.getD k 0 < leastT L k then L.getD k 0 else leastT L k
theorem leastT_le (L : List Int) : ∀ k j, j < k → leastT L k ≤ L.getD j 0
  | k + 1, j, hj => by
    rw [leastT]
    by_cases e : j = k
    · subst e; split <;> omega
    · have := leastT_le L k j (by omega)
      split <;> omega
theorem leastT_mem (L : List Int) : ∀ k, leastT L k = (L.length : Int) + 1 ∨ ∃ j, j < k ∧ leastT L k = L.getD j 0
  | 0 => .inl rfl
  | k + 1 => by
    rw [leastT]
    split
    · exact .inr ⟨k, by omega, rfl⟩
    · rcases leastT_mem L k with h | ⟨j, h1, h2⟩
      · exact .inl h
      · exact .inr ⟨j, by omega, h2⟩
theorem low_least {L : List Int} (h : IsP L) {k : Nat} (hk : k < L.length) : L.getD k 0 < leastT L k ↔ isLow L k = true := by
  rw [isLow_iff]
  constructor
  · intro h1 j hj h2
    have := leastT_le L k j hj
    omega
  · intro h1
    rcases leastT_mem L k with h2 | ⟨j, h2, h3⟩
    · have := (h.2 k hk).2.1; omega
    · have := h1 j h2
      have := (h.2 k hk).2.2 j h2
      omega

open Classical in
theorem c_specLowsOf {w : World} {a : Sl} {L : List Int} (ha : RowI w a L) (hL : L.length < 2^38) :
    Calls PP F.spec_LowsOf #[a.v] w fun e w' => ∃ s : Sl, e = .returned s.v ∧ OwnI w' w.heap.size s (LowsV L) ∧ Below w.heap.size w w' := by
  have han : a.n = L.length := by have := ha.n; simpa using this
  refine spec_LowsOf.calls a ?_
  rw [spec_LowsOf.E_s, han]
  refine lit0 oneInt (B := w.heap.size) (Nat.le_refl _) ?_
  intro o0 w1 ho0 hg1 _
  rw [w64_succ (n := (L.length : Int)) (by omega) (by omega)]
  refine spec_LowsOf.L4_rule _ _ _ _ _ _ (I := fun o le k w' => 0 ≤ k ∧ k ≤ L.length ∧ le = leastT L k.toNat ∧ (0 < k → IsP L) ∧ OwnI w' w.heap.size o (lowsT L k.toNat) ∧ Below w.heap.size w w') (μ := fun _ _ k _ => (L.length - k).toNat)
    ⟨by omega, by omega, rfl, fun h => by omega, ho0, below_of_grow hg1⟩ ?_
  rintro o le k w' ⟨h0, hk, hle, hip, ho, hb⟩
  rw [spec_LowsOf.B4_s, han]
  have hll := lowsT_length L k.toNat
  refine bif_dec (fun h3 => ?_) (fun h3 => ?_)
  · have hlt : k.toNat < L.length := by omega
    refine Quiet.call1 (s := .bool) (c_specIsPerm (ha.grow hb) hL) ?_
    intro w2 hd
    have hb2 := hb.trans (hd.below _)
    have ho2 := ho.heap hd.heap'
    refine bif_dec (fun h4 => ?_) (fun h4 => ?_)
    · refine RowI.get (ha.grow hb2) h0 (by omega) ?_
      have hsc : (k + 1).toNat = k.toNat + 1 := by omega
      have hiff := low_least h4 hlt
      refine bif_dec (fun h5 => ?_) (fun h5 => ?_)
      · refine RowI.get (ha.grow hb2) h0 (by omega) ?_
        rw [hle] at h5
        rw [w64_succ (n := k) h0 (by omega)]
        refine append_int ho2 hb2.size (by omega) ?_
        intro o' w3 ho3 hg3 _
        refine ⟨o', _, k + 1, rfl, ⟨by omega, by omega, by rw [hsc, leastT, if_pos h5], fun _ => h4, ?_, hb2.grown hg3 hb2.size (fun g hg => (ho2.lt g hg).1)⟩, by omega⟩
        rw [hsc, lowsT, if_pos (hiff.1 h5), show ((k.toNat : Nat) : Int) + 1 = k + 1 by omega]
        exact ho3
      · rw [hle] at h5
        refine ⟨o, le, k + 1, by rw [w64_succ h0 (by omega)], ⟨by omega, by omega, by rw [hsc, leastT, if_neg h5, hle], fun _ => h4, ?_, hb2⟩, by omega⟩
        rw [hsc, lowsT, if_neg (fun h => h5 (hiff.2 h))]
        exact ho2
    · rw [spec_LowsOf.A4_0_s]
      have hk0 : k = 0 := by
        apply Classical.byContradiction
        intro hne
        exact h4 (hip (by omega))
      subst hk0
      exact ⟨o, rfl, by rw [LowsV, if_neg h4]; exact ho2, hb2⟩
  · rw [spec_LowsOf.A4_0_s]
    have hkl : k.toNat = L.length := by omega
    rw [hkl] at ho
    refine ⟨o, rfl, ?_, hb⟩
    unfold LowsV
    split
    · exact ho
    · rename_i hn
      have : L.length = 0 := by
        apply Classical.byContradiction
        intro hne
        exact hn (hip (by omega))
      rw [this] at ho
      exact ho
end Go.Proofs.YtlcemelmnkipmaaGreat

/- What each function does, step by step, written by a program (Gen.lean); each equation is checked by the kernel. -/
namespace Go.Proofs.YtlcemelmnkipmaaGreat
open Go
set_option linter.unusedVariables false
set_option maxRecDepth 100000
namespace spec_l15Sort
@[reducible] def cfg : Cfg := ⟨49, [(6, [0, 3, 4, 5]), (3, [0, 3, 4])], [(3, [0, 3, 4, 5]), (2, [0, 3, 4, 5]), (1, [0, 3, 4]), (0, [3])], [], [2], [6], [13, 32, 63, 81], [41, 4, 46, 44, 48]⟩
def q2 (pr : Prims) (R : Ending → World → Prop) : Exit → Env → World → Prop := fun ex e w => normQ ex (fun e w => contE pr cfg (sub (codeOf Tryz.f97) [1, 1, 1]) (fun e w => wpC pr PP cfg (DD pr) (sub (codeOf Tryz.f97) [1, 1, 1]) (retQ Tryz.f97.results.toList R) e w) e w) (retQ Tryz.f97.results.toList R) e w
def q3 (pr : Prims) (R : Ending → World → Prop) : Exit → Env → World → Prop := fun ex e w => blockQ ex 0 (q2 pr R) e w
def q4 (pr : Prims) (k : Env → World → Prop) (Q : Exit → Env → World → Prop) : Exit → Env → World → Prop := fun ex e w => normQ ex (fun e w => contE pr cfg (sub (codeOf Tryz.f97) [1, 1, 0, 1, 0, 0, 1, 1]) (fun e w => wpC pr PP cfg (DD pr) (sub (codeOf Tryz.f97) [1, 1, 0, 1, 0, 0, 1, 1]) (fun ex e w => normQ ex (fun e' w' => k (Env.restr e' (lookN cfg.loops (keyOf (sub (codeOf Tryz.f97) [1, 1, 0, 1, 0, 0])))) w') Q e w) e w) e w) (fun ex e w => normQ ex (fun e' w' => k (Env.restr e' (lookN cfg.loops (keyOf (sub (codeOf Tryz.f97) [1, 1, 0, 1, 0, 0])))) w') Q e w) e w
def q5 (pr : Prims) (k : Env → World → Prop) (Q : Exit → Env → World → Prop) : Exit → Env → World → Prop := fun ex e w => blockQ ex 1 (q4 pr k Q) e w
def q6 (pr : Prims) (k : Env → World → Prop) (Q : Exit → Env → World → Prop) : Exit → Env → World → Prop := fun ex e w => normQ ex (fun e w => contE pr cfg (sub (codeOf Tryz.f97) [1, 1, 0, 1, 0, 0, 1, 0, 0, 1, 1]) (fun e w => wpC pr PP cfg (DD pr) (sub (codeOf Tryz.f97) [1, 1, 0, 1, 0, 0, 1, 0, 0, 1, 1]) (q5 pr k Q) e w) e w) (q5 pr k Q) e w
def q7 (pr : Prims) (k : Env → World → Prop) (Q : Exit → Env → World → Prop) : Exit → Env → World → Prop := fun ex e w => blockQ ex 2 (q6 pr k Q) e w
def emb3 (list_0 : Sl) (out_3 : Sl) (k_4 : Int) : Env := [(0, Sl.v list_0), (3, Sl.v out_3), (4, vI k_4)]
def emb6 (list_0 : Sl) (out_3 : Sl) (k_4 : Int) (at_5 : Int) : Env := [(0, Sl.v list_0), (3, Sl.v out_3), (4, vI k_4), (5, vI at_5)]
def x2 (list_0 : Sl) (out_3 : Sl) (k_4 : Int) (at_5 : Int) : Env := [(0, Sl.v list_0), (3, Sl.v out_3), (4, vI k_4), (5, vI at_5)]
def x0 (out_3 : Sl) : Env := [(3, Sl.v out_3)]
def S6 (pr : Prims) (Q : Exit → Env → World → Prop) : (Env → World → Prop) → Env → World → Prop := fun k e w => wpC pr PP cfg (DD pr) (sub (codeOf Tryz.f97) [1, 1, 0, 1, 0, 0, 1, 0, 0, 1, 0, 0, 0]) (fun ex e w => normQ ex (fun e' w' => k (Env.restr e' (lookN cfg.loops (keyOf (sub (codeOf Tryz.f97) [1, 1, 0, 1, 0, 0, 1, 0, 0, 1, 0, 0, 0])))) w') Q e w) e w
def S3 (pr : Prims) (Q : Exit → Env → World → Prop) : (Env → World → Prop) → Env → World → Prop := fun k e w => wpC pr PP cfg (DD pr) (sub (codeOf Tryz.f97) [1, 1, 0, 1, 0, 0]) (fun ex e w => normQ ex (fun e' w' => k (Env.restr e' (lookN cfg.loops (keyOf (sub (codeOf Tryz.f97) [1, 1, 0, 1, 0, 0])))) w') Q e w) e w
def B6 (pr : Prims) (list_0 : Sl) (out_3 : Sl) (k_4 : Int) (at_5 : Int) (w : World) (k : Env → World → Prop) (Q : Exit → Env → World → Prop) : Prop :=
  S6 pr Q k (emb6 list_0 out_3 k_4 at_5) w
def L6 (pr : Prims) (list_0 : Sl) (out_3 : Sl) (k_4 : Int) (at_5 : Int) (w : World) (Q : Exit → Env → World → Prop) : Prop :=
  pr.loop (S6 pr Q) (emb6 list_0 out_3 k_4 at_5) w
def B3 (pr : Prims) (list_0 : Sl) (out_3 : Sl) (k_4 : Int) (w : World) (k : Env → World → Prop) (Q : Exit → Env → World → Prop) : Prop :=
  S3 pr Q k (emb3 list_0 out_3 k_4) w
def L3 (pr : Prims) (list_0 : Sl) (out_3 : Sl) (k_4 : Int) (w : World) (Q : Exit → Env → World → Prop) : Prop :=
  pr.loop (S3 pr Q) (emb3 list_0 out_3 k_4) w
def E (pr : Prims) (list_0 : Sl) (w : World) (R : Ending → World → Prop) : Prop :=
  wpC pr PP cfg (DD pr) (codeOf Tryz.f97) (retQ Tryz.f97.results.toList R) (argE 0 [Sl.v list_0]) w
theorem B6_eq (pr : Prims) (list_0 : Sl) (out_3 : Sl) (k_4 : Int) (at_5 : Int) (w : World) (k : Env → World → Prop) (Q : Exit → Env → World → Prop) : B6 pr list_0 out_3 k_4 at_5 w k Q = (
  bif decide (at_5 > 0) then (
  pr.idxK 1 list_0 k_4 fun (a8 : Addr) =>
  pr.load1 (.int .i64) a8 w fun (ξ9 : Int) =>
  pr.idxK 1 out_3 (w64 (at_5 - 1)) fun (a10 : Addr) =>
  pr.load1 (.int .i64) a10 w fun (ξ11 : Int) =>
  pr.drewAll w fun ω12 =>
  bif decide (ξ9 < ξ11) then (
  k (emb6 list_0 out_3 k_4 (w64 (at_5 - 1))) ω12)
  else (
  Q (.exit 2) (x2 list_0 out_3 k_4 at_5) ω12))
  else (
  pr.drewAll w fun ω13 =>
  Q (.exit 2) (x2 list_0 out_3 k_4 at_5) ω13)) := by kernel_rfl
theorem B6_s (list_0 : Sl) (out_3 : Sl) (k_4 : Int) (at_5 : Int) (w : World) (k : Env → World → Prop) (Q : Exit → Env → World → Prop) : B6 std list_0 out_3 k_4 at_5 w k Q = (
  bif decide (at_5 > 0) then (
  idxK 1 list_0 k_4 fun (a8 : Addr) =>
  load1 (.int .i64) a8 w fun (ξ9 : Int) =>
  idxK 1 out_3 (w64 (at_5 - 1)) fun (a10 : Addr) =>
  load1 (.int .i64) a10 w fun (ξ11 : Int) =>
  drewAll w fun ω12 =>
  bif decide (ξ9 < ξ11) then (
  k (emb6 list_0 out_3 k_4 (w64 (at_5 - 1))) ω12)
  else (
  Q (.exit 2) (x2 list_0 out_3 k_4 at_5) ω12))
  else (
  drewAll w fun ω13 =>
  Q (.exit 2) (x2 list_0 out_3 k_4 at_5) ω13)) := B6_eq std list_0 out_3 k_4 at_5 w k Q
theorem L6_rule (list_0 : Sl) (out_3 : Sl) (k_4 : Int) (at_5 : Int) (w : World) (Q : Exit → Env → World → Prop) (I : Int → World → Prop) (μ : Int → World → Nat) (h0 : I at_5 w)
    (h : ∀ (at_5 : Int) (w' : World), I at_5 w' → B6 std list_0 out_3 k_4 at_5 w' (fun e2 w2 => ∃ at_5_n, e2 = emb6 list_0 out_3 k_4 at_5_n ∧ I at_5_n w2 ∧ μ at_5_n w2 < μ at_5 w') Q) :
    L6 std list_0 out_3 k_4 at_5 w Q := by
  unfold L6
  refine LoopE.intro (σ := Int) (step := S6 std Q) (fun s => emb6 list_0 out_3 k_4 s) (fun s w => I s w) (fun s w => μ s w) at_5 rfl h0 ?_
  intro s w' hI
  have h1 := h s w' hI
  unfold B6 at h1
  exact h1
theorem A6_2_eq (pr : Prims) (list_0 : Sl) (out_3 : Sl) (k_4 : Int) (at_5 : Int) (w : World) (k : Env → World → Prop) (Q : Exit → Env → World → Prop) : (q7 pr k Q) (.exit 2) (x2 list_0 out_3 k_4 at_5) w = (
  pr.sem1 .sl PP (Instr.buildSlice T_Sint 0 #[]) w fun (ρ14 : Sl) ω15 =>
  pr.cutK 1 out_3 (some at_5) none fun (s16 : Sl) =>
  pr.sem1 .sl PP (Builtin.append_ #[T_Sint, T_Sint] T_Sint #[Sl.v ρ14, Sl.v s16]) ω15 fun (ρ17 : Sl) ω18 =>
  pr.drewAll ω18 fun ω19 =>
  pr.cutK 1 out_3 none (some at_5) fun (s20 : Sl) =>
  pr.idxK 1 list_0 k_4 fun (a21 : Addr) =>
  pr.load1 (.int .i64) a21 ω19 fun (ξ22 : Int) =>
  pr.sem1 .sl PP (Instr.buildSlice T_Sint 1 #[(0, vI ξ22)]) ω19 fun (ρ23 : Sl) ω24 =>
  pr.sem1 .sl PP (Builtin.append_ #[T_Sint, T_Sint] T_Sint #[Sl.v s20, Sl.v ρ23]) ω24 fun (ρ25 : Sl) ω26 =>
  pr.sem1 .sl PP (Builtin.append_ #[T_Sint, T_Sint] T_Sint #[Sl.v ρ25, Sl.v ρ17]) ω26 fun (ρ27 : Sl) ω28 =>
  k (emb3 list_0 ρ27 (w64 (k_4 + 1))) ω28) := by kernel_rfl
theorem A6_2_s (list_0 : Sl) (out_3 : Sl) (k_4 : Int) (at_5 : Int) (w : World) (k : Env → World → Prop) (Q : Exit → Env → World → Prop) : (q7 std k Q) (.exit 2) (x2 list_0 out_3 k_4 at_5) w = (
  sem1 .sl PP (Instr.buildSlice T_Sint 0 #[]) w fun (ρ14 : Sl) ω15 =>
  cutK 1 out_3 (some at_5) none fun (s16 : Sl) =>
  sem1 .sl PP (Builtin.append_ #[T_Sint, T_Sint] T_Sint #[Sl.v ρ14, Sl.v s16]) ω15 fun (ρ17 : Sl) ω18 =>
  drewAll ω18 fun ω19 =>
  cutK 1 out_3 none (some at_5) fun (s20 : Sl) =>
  idxK 1 list_0 k_4 fun (a21 : Addr) =>
  load1 (.int .i64) a21 ω19 fun (ξ22 : Int) =>
  sem1 .sl PP (Instr.buildSlice T_Sint 1 #[(0, vI ξ22)]) ω19 fun (ρ23 : Sl) ω24 =>
  sem1 .sl PP (Builtin.append_ #[T_Sint, T_Sint] T_Sint #[Sl.v s20, Sl.v ρ23]) ω24 fun (ρ25 : Sl) ω26 =>
  sem1 .sl PP (Builtin.append_ #[T_Sint, T_Sint] T_Sint #[Sl.v ρ25, Sl.v ρ17]) ω26 fun (ρ27 : Sl) ω28 =>
  k (emb3 list_0 ρ27 (w64 (k_4 + 1))) ω28) := A6_2_eq std list_0 out_3 k_4 at_5 w k Q
theorem B3_eq (pr : Prims) (list_0 : Sl) (out_3 : Sl) (k_4 : Int) (w : World) (k : Env → World → Prop) (Q : Exit → Env → World → Prop) : B3 pr list_0 out_3 k_4 w k Q = (
  bif decide (k_4 < (list_0.n : Int)) then (
  L6 pr list_0 out_3 k_4 (out_3.n : Int) w (q7 pr k Q))
  else (
  Q (.exit 0) (x0 out_3) w)) := by kernel_rfl
theorem B3_s (list_0 : Sl) (out_3 : Sl) (k_4 : Int) (w : World) (k : Env → World → Prop) (Q : Exit → Env → World → Prop) : B3 std list_0 out_3 k_4 w k Q = (
  bif decide (k_4 < (list_0.n : Int)) then (
  L6 std list_0 out_3 k_4 (out_3.n : Int) w (q7 std k Q))
  else (
  Q (.exit 0) (x0 out_3) w)) := B3_eq std list_0 out_3 k_4 w k Q
theorem L3_rule (list_0 : Sl) (out_3 : Sl) (k_4 : Int) (w : World) (Q : Exit → Env → World → Prop) (I : Sl → Int → World → Prop) (μ : Sl → Int → World → Nat) (h0 : I out_3 k_4 w)
    (h : ∀ (out_3 : Sl) (k_4 : Int) (w' : World), I out_3 k_4 w' → B3 std list_0 out_3 k_4 w' (fun e2 w2 => ∃ out_3_n k_4_n, e2 = emb3 list_0 out_3_n k_4_n ∧ I out_3_n k_4_n w2 ∧ μ out_3_n k_4_n w2 < μ out_3 k_4 w') Q) :
    L3 std list_0 out_3 k_4 w Q := by
  unfold L3
  refine LoopE.intro (σ := Sl × Int) (step := S3 std Q) (fun s => emb3 list_0 s.1 s.2) (fun s w => I s.1 s.2 w) (fun s w => μ s.1 s.2 w) (out_3, k_4) rfl h0 ?_
  intro s w' hI
  have h1 := h s.1 s.2 w' hI
  unfold B3 at h1
  simp only [Prod.exists]
  exact h1
theorem A3_0_eq (pr : Prims) (out_3 : Sl) (w : World) (R : Ending → World → Prop) : (q3 pr R) (.exit 0) (x0 out_3) w = (
  R (.returned (Sl.v out_3)) w) := by kernel_rfl
theorem A3_0_s (out_3 : Sl) (w : World) (R : Ending → World → Prop) : (q3 std R) (.exit 0) (x0 out_3) w = (
  R (.returned (Sl.v out_3)) w) := A3_0_eq std out_3 w R
theorem E_eq (pr : Prims) (list_0 : Sl) (w : World) (R : Ending → World → Prop) : E pr list_0 w R = (
  pr.sem1 .sl PP (Instr.buildSlice T_Sint 0 #[]) w fun (ρ0 : Sl) ω1 =>
  L3 pr list_0 ρ0 0 ω1 (q3 pr R)) := by kernel_rfl
theorem E_s (list_0 : Sl) (w : World) (R : Ending → World → Prop) : E std list_0 w R = (
  sem1 .sl PP (Instr.buildSlice T_Sint 0 #[]) w fun (ρ0 : Sl) ω1 =>
  L3 std list_0 ρ0 0 ω1 (q3 std R)) := E_eq std list_0 w R
theorem drawsOk : drawsOk PP cfg okD (codeOf Tryz.f97) = true := by kernel_rfl
theorem calls (list_0 : Sl) {w : World} {R : Ending → World → Prop} (h : E std list_0 w R) : Calls PP F.spec_l15Sort #[Sl.v list_0] w R :=
  calls_of noCount mixed drawOk Tryz.func97 rfl (c := cfg) (args := [Sl.v list_0]) rfl (Nat.le_of_ble_eq_true (by kernel_rfl)) drawsOk h
end spec_l15Sort

end Go.Proofs.YtlcemelmnkipmaaGreat

/- slices.Sort at []int: the shelf's contract in this proof's words. -/
namespace Go.Proofs.YtlcemelmnkipmaaGreat
open Go Go.RowKit
set_option maxRecDepth 100000

def sortI (L : List Int) : List Int := L.mergeSort fun x y => decide (x ≤ y)
theorem sortI_length (L : List Int) : (sortI L).length = L.length := List.length_mergeSort L
theorem sortI_perm (L : List Int) : (sortI L).Perm L := List.mergeSort_perm L _
theorem sortI_sorted (L : List Int) : (sortI L).Pairwise (· ≤ ·) := by
  have := List.pairwise_mergeSort (le := fun x y : Int => decide (x ≤ y)) (fun a b c h1 h2 => by simp at h1 h2 ⊢; omega) (fun a b => by simp; omega) L
  exact this.imp fun h => by simpa using h
end Go.Proofs.YtlcemelmnkipmaaGreat

/- The model text's insertion sort. -/
namespace Go.Proofs.YtlcemelmnkipmaaGreat
open Go Go.RowKit
set_option maxRecDepth 100000

def insAt (O : List Int) (x : Int) (k : Nat) : List Int := O.take k ++ [x] ++ O.drop k
theorem insAt_perm (O : List Int) (x : Int) (k : Nat) : (insAt O x k).Perm (O ++ [x]) := by
  unfold insAt
  have h1 : (O.take k ++ [x] ++ O.drop k).Perm (O.take k ++ (O.drop k ++ [x])) := by
    rw [List.append_assoc]
    exact List.Perm.append_left _ List.perm_append_comm
  rw [← List.append_assoc, List.take_append_drop] at h1
  exact h1
theorem insAt_sorted {O : List Int} {x : Int} {k : Nat} (hk : k ≤ O.length) (hs : O.Pairwise (· ≤ ·)) (h1 : ∀ j, k ≤ j → j < O.length → x < O.getD j 0) (h2 : k = 0 ∨ O.getD (k - 1) 0 ≤ x) : (insAt O x k).Pairwise (· ≤ ·) := by
  have hg : ∀ i j, i ≤ j → j < O.length → O.getD i 0 ≤ O.getD j 0 := fun i j hij hj => by
    by_cases e : i = j
    · subst e; omega
    · have := List.pairwise_iff_getElem.1 hs i j (by omega) hj (by omega)
      rwa [getD_lt (by omega), getD_lt hj]
  have ht : ∀ a ∈ O.take k, a ≤ x := fun a ha => by
    obtain ⟨i, hi, rfl⟩ := List.getElem_of_mem ha
    rw [List.length_take] at hi
    rw [List.getElem_take]
    rcases h2 with h2 | h2
    · omega
    · have := hg i (k - 1) (by omega) (by omega)
      rw [getD_lt (by omega)] at this
      omega
  have hd : ∀ b ∈ O.drop k, x ≤ b := fun b hb => by
    obtain ⟨i, hi, rfl⟩ := List.getElem_of_mem hb
    rw [List.length_drop] at hi
    rw [List.getElem_drop]
    have := h1 (k + i) (by omega) (by omega)
    rw [getD_lt (by omega)] at this
    omega
  have hs' : (O.take k ++ O.drop k).Pairwise (· ≤ ·) := by rw [List.take_append_drop]; exact hs
  rw [List.pairwise_append] at hs'
  unfold insAt
  rw [List.append_assoc, List.pairwise_append]
  refine ⟨hs'.1, ?_, fun a ha b hb => ?_⟩
  · rw [List.singleton_append, List.pairwise_cons]
    exact ⟨hd, hs'.2.1⟩
  · rcases List.mem_append.1 hb with hb | hb
    · have : b = x := by simpa using hb
      rw [this]; exact ht a ha
    · exact hs'.2.2 a ha b hb
theorem sortI_eq {L O : List Int} (hp : O.Perm L) (hs : O.Pairwise (· ≤ ·)) : O = sortI L :=
  List.Perm.eq_of_pairwise (fun a b _ _ h1 h2 => Int.le_antisymm h1 h2) hs (sortI_sorted L) (hp.trans (sortI_perm L).symm)
theorem c_l15Sort {w : World} {a : Sl} {L : List Int} (ha : RowI w a L) (hL : L.length < 2^38) :
    Calls PP F.spec_l15Sort #[a.v] w fun e w' => ∃ s : Sl, e = .returned s.v ∧ OwnI w' w.heap.size s (sortI L) ∧ Below w.heap.size w w' := by
  have han : a.n = L.length := by have := ha.n; simpa using this
  refine spec_l15Sort.calls a ?_
  rw [spec_l15Sort.E_s]
  refine lit0 oneInt (B := w.heap.size) (Nat.le_refl _) ?_
  intro o w1 ho hg1 _
  have hb1 := below_of_grow hg1
  refine spec_l15Sort.L3_rule _ _ _ _ _ (I := fun o k w' => 0 ≤ k ∧ k ≤ L.length ∧ Below w.heap.size w w' ∧ ∃ O : List Int, OwnI w' w.heap.size o O ∧ O.Perm (L.take k.toNat) ∧ O.Pairwise (· ≤ ·)) (μ := fun _ k _ => (L.length - k).toNat)
    ⟨by omega, by omega, hb1, [], by simpa [OwnI] using ho, by simp, List.Pairwise.nil⟩ ?_
  rintro o k w2 ⟨hk0, hk, hb2, O, ho, hp, hs⟩
  have hOl : O.length = k.toNat := by rw [hp.length_eq, List.length_take]; omega
  have hon : o.n = O.length := by have := ho.n; simpa using this
  rw [spec_l15Sort.B3_s, han]
  refine bif_dec (fun h3 => ?_) (fun h3 => ?_)
  · have hlt : k.toNat < L.length := by omega
    rw [hon]
    have fin : ∀ (at_ : Int) (w3 : World), 0 ≤ at_ → at_ ≤ O.length → Drew w2 w3 → (∀ j, at_.toNat ≤ j → j < O.length → L[k.toNat] < O.getD j 0) → (at_ = 0 ∨ O.getD (at_.toNat - 1) 0 ≤ L[k.toNat]) →
        ∀ Q, spec_l15Sort.q7 std (fun e2 w2' => ∃ out_3_n k_4_n, e2 = spec_l15Sort.emb3 a out_3_n k_4_n ∧ (0 ≤ k_4_n ∧ k_4_n ≤ L.length ∧ Below w.heap.size w w2' ∧ ∃ O : List Int, OwnI w2' w.heap.size out_3_n O ∧ O.Perm (L.take k_4_n.toNat) ∧ O.Pairwise (· ≤ ·)) ∧ (L.length - k_4_n).toNat < (L.length - k).toNat) Q (.exit 2) (spec_l15Sort.x2 a o k at_) w3 := by
      intro at_ w3 h0 h1 hd hgt hle Q
      rw [spec_l15Sort.A6_2_s]
      have hb3 := hb2.trans (hd.below _)
      have ho3 := ho.heap hd.heap'
      refine lit0 oneInt (B := w3.heap.size) (Nat.le_refl _) ?_
      intro r w4 hr hg4 _
      have hb34 := below_of_grow hg4
      have hb4 := hb3.trans (hb34.mono hb3.size)
      have ho4 := Own.grow ho3 hb34
      refine Row.cut ho4.row (by simpa using h0) (by simp <;> omega) (by simp <;> omega) fun s16 hs16 => ?_
      have e2 : (List.take ((none : Option Int).getD (o.n : Int)).toNat (O.map vI)).drop ((some at_).getD 0).toNat = (O.drop at_.toNat).map vI := by
        rw [hon]; simp [List.map_drop, List.take_of_length_le]
      rw [e2] at hs16
      refine append_row oneInt hr (by have := hb34.size; omega) hs16 (fun v hv => by obtain ⟨x, _, rfl⟩ := List.mem_map.1 hv; exact One.int x) (by simp; omega) ?_
      intro r2 w5 hr2 hg5 _ _
      rw [List.nil_append] at hr2
      have hb35 := hb34.grown hg5 hb34.size (fun g hg => (hr.lt g hg).1)
      have hb5 := hb3.trans (hb35.mono hb3.size)
      have ho5 := Own.grow ho3 hb35
      refine drew_intro fun w6 hd6 => ?_
      have hb36 := hb35.trans ((hd6.below _).mono hb35.size)
      have hb6 := hb3.trans (hb36.mono hb3.size)
      have ho6 := Own.heap ho5 hd6.heap'
      have hr6 := Own.heap hr2 hd6.heap'
      refine Own.pop ho6 h0 (by rw [List.length_map]; omega) fun s20 hs20 hblk => ?_
      refine RowI.get (ha.grow hb6) hk0 (by omega) ?_
      rw [getD_lt hlt]
      rw [← List.map_take] at hs20
      have hs20 : OwnI w6 w.heap.size s20 (O.take at_.toNat) := hs20
      refine append_int hs20 hb6.size (by rw [List.length_take]; omega) ?_
      intro o7 w7 ho7 hg7 hn7
      have hb67 : Below w.heap.size w w7 := hb6.grown hg7 hb6.size (fun g hg => (hs20.lt g hg).1)
      have hlt3 : ∀ g, o.blk = some g → g < w3.heap.size := fun g hg => (ho3.lt g hg).2
      have hr7 : Own w7 w3.heap.size T_int r2 ((O.drop at_.toNat).map vI) := Own.keeps hr6 (keeps_grown hg7) (fun g hg hg2 => by
        rw [hblk] at hg2; have := hlt3 g hg2; have := (hr6.lt g hg).1; omega)
      refine append_row oneInt ho7 hb67.size hr7.row (fun v hv => by obtain ⟨x, _, rfl⟩ := List.mem_map.1 hv; exact One.int x) (by simp; omega) ?_
      intro o8 w8 ho8 hg8 _ _
      rw [← List.map_append] at ho8
      have ek : (k + 1).toNat = k.toNat + 1 := by omega
      refine ⟨o8, k + 1, by rw [w64_succ hk0 (by omega)], ⟨by omega, by omega, hb67.grown hg8 hb67.size (fun g hg => (ho7.lt g hg).1), insAt O L[k.toNat] at_.toNat, ho8, ?_, ?_⟩, by omega⟩
      · rw [ek, List.take_succ_eq_append_getElem hlt]
        exact (insAt_perm O _ _).trans (List.Perm.append_right _ hp)
      · exact insAt_sorted (by omega) hs hgt (by rcases hle with h | h; · left; omega
                                                 · right; exact h)
    refine spec_l15Sort.L6_rule _ _ _ _ _ _ (I := fun at_ w3 => 0 ≤ at_ ∧ at_ ≤ O.length ∧ Drew w2 w3 ∧ ∀ j, at_.toNat ≤ j → j < O.length → L[k.toNat] < O.getD j 0) (μ := fun at_ _ => at_.toNat)
      ⟨by omega, by omega, ⟨0, rfl⟩, fun j hj1 hj2 => by omega⟩ ?_
    rintro at_ w3 ⟨h0, h1, hd, hgt⟩
    rw [spec_l15Sort.B6_s]
    have hb3 := hb2.trans (hd.below _)
    have ho3 := ho.heap hd.heap'
    refine bif_dec (fun h4 => ?_) (fun h4 => ?_)
    · refine RowI.get (ha.grow hb3) hk0 (by omega) ?_
      rw [getD_lt hlt]
      have e1 : w64 (at_ - 1) = at_ - 1 := w64_id (by omega) (by omega)
      rw [e1]
      refine RowI.get (Own.row ho3) (by omega) (by omega) ?_
      refine drew_intro fun w4 hd4 => ?_
      have en : (at_ - 1).toNat = at_.toNat - 1 := by omega
      rw [en]
      refine bif_dec (fun h5 => ?_) (fun h5 => ?_)
      · refine ⟨at_ - 1, rfl, ⟨by omega, by omega, hd.trans hd4, fun j hj1 hj2 => ?_⟩, by omega⟩
        by_cases e : j = at_.toNat - 1
        · subst e; exact h5
        · exact hgt j (by omega) hj2
      · exact fin at_ w4 h0 h1 (hd.trans hd4) hgt (.inr (by omega)) _
    · refine drew_intro fun w4 hd4 => ?_
      exact fin at_ w4 h0 h1 (hd.trans hd4) hgt (.inl (by omega)) _
  · rw [spec_l15Sort.A3_0_s]
    rw [show k.toNat = L.length by omega, List.take_length] at hp
    rw [sortI_eq hp hs] at ho
    exact ⟨o, rfl, ho, hb2⟩
end Go.Proofs.YtlcemelmnkipmaaGreat

/- The rests: what both texts compute, as lists. -/
namespace Go.Proofs.YtlcemelmnkipmaaGreat
open Go
set_option maxRecDepth 100000

def nonL (L : List Int) : Nat → List Int
  | 0 => []
  | k + 1 => if isLow L k = true then nonL L k else nonL L k ++ [L.getD k 0]
def lastLow (L : List Int) : Nat → Int
  | 0 => 0
  | k + 1 => if isLow L k = true then L.getD k 0 else lastLow L k
def stR (pk : List Int → Int → Nat) (L : List Int) : Nat → List Int
  | 0 => sortI (nonL L L.length)
  | k + 1 => if isLow L k = true then stR pk L k else (stR pk L k).eraseIdx (pk (stR pk L k) (lastLow L k))
def stO (pk : List Int → Int → Nat) (L : List Int) : Nat → List Int
  | 0 => []
  | k + 1 => stO pk L k ++ [if isLow L k = true then L.getD k 0 else (stR pk L k).getD (pk (stR pk L k) (lastLow L k)) 0]
def PkOk (pk : List Int → Int → Nat) (L : List Int) : Prop := ∀ k, k < L.length → isLow L k = false → pk (stR pk L k) (lastLow L k) < (stR pk L k).length
theorem stO_length (pk : List Int → Int → Nat) (L : List Int) : ∀ k, (stO pk L k).length = k
  | 0 => rfl
  | k + 1 => by simp [stO, stO_length pk L k]
theorem nonL_prefix (L : List Int) : ∀ {n k : Nat}, k ≤ n → ∃ M, nonL L n = nonL L k ++ M
  | 0, k, h => ⟨[], by have : k = 0 := by omega
                       subst this; simp⟩
  | n + 1, k, h => by
    by_cases e : k = n + 1
    · subst e; exact ⟨[], by simp⟩
    · obtain ⟨M, hM⟩ := nonL_prefix L (n := n) (k := k) (by omega)
      rw [nonL]
      split
      · exact ⟨M, hM⟩
      · exact ⟨M ++ [L.getD n 0], by rw [hM, List.append_assoc]⟩
theorem nonL_le (L : List Int) {n k : Nat} (h : k ≤ n) : (nonL L k).length ≤ (nonL L n).length := by
  obtain ⟨M, hM⟩ := nonL_prefix L h
  rw [hM, List.length_append]; omega
theorem nonL_len (L : List Int) : ∀ k, (nonL L k).length ≤ k
  | 0 => by simp [nonL]
  | k + 1 => by
    have := nonL_len L k
    rw [nonL]
    split
    · omega
    · rw [List.length_append, List.length_singleton]; omega
theorem mem_nonL {L : List Int} : ∀ {k : Nat} {x : Int}, x ∈ nonL L k → ∃ j, j < k ∧ isLow L j = false ∧ x = L.getD j 0
  | 0, x, h => by simp [nonL] at h
  | k + 1, x, h => by
    rw [nonL] at h
    split at h
    · obtain ⟨j, h1, h2, h3⟩ := mem_nonL h
      exact ⟨j, by omega, h2, h3⟩
    · rename_i h5
      rcases List.mem_append.1 h with h | h
      · obtain ⟨j, h1, h2, h3⟩ := mem_nonL h
        exact ⟨j, by omega, h2, h3⟩
      · exact ⟨k, by omega, by simpa using h5, by simpa using h⟩
theorem isLow_zero (L : List Int) : isLow L 0 = true := isLow_iff.2 fun j hj => by omega
theorem nonlow_ex {L : List Int} {k : Nat} (h : isLow L k = false) : ∃ j, j < k ∧ L.getD j 0 < L.getD k 0 := by
  apply Classical.byContradiction
  intro hc
  have : isLow L k = true := isLow_iff.2 fun j hj hlt => hc ⟨j, hj, hlt⟩
  rw [this] at h; cases h
theorem lastLow_le {L : List Int} : ∀ {k i : Nat}, i < k → lastLow L k ≤ L.getD i 0
  | k + 1, i, h => by
    rw [lastLow]
    split
    · rename_i h5
      by_cases e : i = k
      · subst e; omega
      · have := isLow_iff.1 h5 i (by omega); omega
    · rename_i h5
      by_cases e : i = k
      · subst e
        obtain ⟨j, hj, hlt⟩ := nonlow_ex (by simpa using h5)
        have := lastLow_le (L := L) hj; omega
      · exact lastLow_le (by omega)
theorem lastLow_at {L : List Int} : ∀ {k : Nat}, 1 ≤ k → ∃ i, i < k ∧ isLow L i = true ∧ lastLow L k = L.getD i 0
  | k + 1, _ => by
    rw [lastLow]
    split
    · rename_i h5; exact ⟨k, by omega, h5, rfl⟩
    · rename_i h5
      have : 1 ≤ k := by
        rcases Nat.eq_zero_or_pos k with e | e
        · subst e; exact absurd (isLow_zero L) h5
        · exact e
      obtain ⟨i, h1, h2, h3⟩ := lastLow_at this
      exact ⟨i, by omega, h2, h3⟩
theorem stR_len {pk : List Int → Int → Nat} {L : List Int} : ∀ k, (∀ j, j < k → isLow L j = false → pk (stR pk L j) (lastLow L j) < (stR pk L j).length) → (stR pk L k).length + (nonL L k).length = (nonL L L.length).length
  | 0, _ => by simp [stR, nonL, sortI_length]
  | k + 1, h => by
    have ih := stR_len k (fun j hj => h j (by omega))
    rw [stR, nonL]
    split
    · exact ih
    · rename_i h5
      have := h k (by omega) (by simpa using h5)
      rw [List.length_eraseIdx, if_pos this, List.length_append, List.length_singleton]
      omega
theorem stR_sub {pk : List Int → Int → Nat} {L : List Int} : ∀ {k : Nat} {x : Int}, x ∈ stR pk L k → x ∈ nonL L L.length
  | 0, x, h => (sortI_perm _).mem_iff.1 h
  | k + 1, x, h => by
    rw [stR] at h
    split at h
    · exact stR_sub h
    · exact stR_sub (List.mem_of_mem_eraseIdx h)
theorem stR_sorted {pk : List Int → Int → Nat} {L : List Int} : ∀ k, (stR pk L k).Pairwise (· ≤ ·)
  | 0 => sortI_sorted _
  | k + 1 => by
    rw [stR]
    split
    · exact stR_sorted k
    · exact (stR_sorted k).sublist (List.eraseIdx_sublist _ _)
def pkD (R : List Int) (_ : Int) : Nat := R.length - 1
def pkN (R : List Int) (low : Int) : Nat := R.findIdx fun v => decide (v > low)
theorem pkOk_of {pk : List Int → Int → Nat} {L : List Int} (h : ∀ k, k < L.length → isLow L k = false → (∀ j, j < k → isLow L j = false → pk (stR pk L j) (lastLow L j) < (stR pk L j).length) → pk (stR pk L k) (lastLow L k) < (stR pk L k).length) : PkOk pk L := by
  have : ∀ n k, k < n → k < L.length → isLow L k = false → pk (stR pk L k) (lastLow L k) < (stR pk L k).length := by
    intro n
    induction n with
    | zero => intro k hk; omega
    | succ n ih => exact fun k hk hkL hl => h k hkL hl fun j hj hjl => ih j (by omega) (by omega) hjl
  exact fun k hk hl => this (k + 1) k (by omega) hk hl
theorem nonL_lt {L : List Int} {k : Nat} (hk : k < L.length) (hl : isLow L k = false) : (nonL L k).length + 1 ≤ (nonL L L.length).length := by
  have := nonL_le L (n := L.length) (k := k + 1) (by omega)
  rw [nonL, if_neg (by rw [hl]; simp), List.length_append, List.length_singleton] at this
  omega
theorem pkOk_D (L : List Int) : PkOk pkD L := pkOk_of fun k hk hl hj => by
  have h1 := stR_len k hj
  have h2 := nonL_lt hk hl
  unfold pkD
  unfold pkD at h1
  omega
theorem countP_eraseIdx (p : Int → Bool) : ∀ (l : List Int) (i : Nat), l.countP p ≤ (l.eraseIdx i).countP p + 1
  | [], i => by simp
  | x :: r, 0 => by
    rw [List.eraseIdx_cons_zero, List.countP_cons]; split <;> omega
  | x :: r, i + 1 => by
    have := countP_eraseIdx p r i
    rw [List.eraseIdx_cons_succ, List.countP_cons, List.countP_cons]; omega
theorem stR_count {pk : List Int → Int → Nat} {L : List Int} (p : Int → Bool) : ∀ k, (nonL L L.length).countP p ≤ (stR pk L k).countP p + (nonL L k).length
  | 0 => by rw [stR, nonL, (sortI_perm _).countP_eq]; simp
  | k + 1 => by
    have ih := stR_count (pk := pk) (L := L) p k
    rw [stR, nonL]
    split
    · exact ih
    · have := countP_eraseIdx p (stR pk L k) (pk (stR pk L k) (lastLow L k))
      rw [List.length_append, List.length_singleton]; omega
theorem greater_ex {pk : List Int → Int → Nat} {L : List Int} {k : Nat} (hk : k < L.length) (hl : isLow L k = false) : ∃ v ∈ stR pk L k, v > lastLow L k := by
  have h1 := stR_count (pk := pk) (L := L) (fun v => decide (v > lastLow L k)) k
  obtain ⟨M, hM⟩ := nonL_prefix L (n := L.length) (k := k + 1) (by omega)
  have h2 : (nonL L (k + 1)).countP (fun v => decide (v > lastLow L k)) = (nonL L (k + 1)).length := by
    rw [List.countP_eq_length]
    intro x hx
    obtain ⟨j, hj, hjl, rfl⟩ := mem_nonL hx
    obtain ⟨i, hi, hlt⟩ := nonlow_ex hjl
    have := lastLow_le (L := L) (k := k) (i := i) (by omega)
    simp only [gt_iff_lt, decide_eq_true_eq]; omega
  rw [hM, List.countP_append, h2] at h1
  rw [nonL, if_neg (by rw [hl]; simp), List.length_append, List.length_singleton] at h1
  have h3 : 0 < (stR pk L k).countP (fun v => decide (v > lastLow L k)) := by omega
  obtain ⟨v, hv, hp⟩ := List.countP_pos_iff.1 h3
  exact ⟨v, hv, by simpa using hp⟩
theorem pkOk_N (L : List Int) : PkOk pkN L := fun k hk hl => by
  obtain ⟨v, hv, hp⟩ := greater_ex (pk := pkN) hk hl
  exact List.findIdx_lt_length.2 ⟨v, hv, by simpa using hp⟩
theorem low_notin {pk : List Int → Int → Nat} {L : List Int} (h : IsP L) {k : Nat} (hk : k < L.length) (hl : isLow L k = false) : lastLow L k ∉ stR pk L k := by
  intro hm
  have h0 : 1 ≤ k := by
    rcases Nat.eq_zero_or_pos k with e | e
    · subst e; rw [isLow_zero] at hl; cases hl
    · exact e
  obtain ⟨i, hi, hil, he⟩ := lastLow_at (L := L) h0
  obtain ⟨j, hj, hjl, he2⟩ := mem_nonL (stR_sub hm)
  rw [he] at he2
  have hn := h.nodup
  have : i = j := by
    rw [getD_lt (by omega), getD_lt hj] at he2
    exact (List.getElem_inj hn).1 he2
  subst this
  rw [hil] at hjl; cases hjl
end Go.Proofs.YtlcemelmnkipmaaGreat

/- What each function does, step by step, written by a program (Gen.lean); each equation is checked by the kernel. -/
namespace Go.Proofs.YtlcemelmnkipmaaGreat
open Go
set_option linter.unusedVariables false
set_option maxRecDepth 100000
end Go.Proofs.YtlcemelmnkipmaaGreat

/- The library's IndexFunc over rows of ints. -/
namespace Go.Proofs.YtlcemelmnkipmaaGreat
open Go Go.RowKit
set_option maxRecDepth 100000

end Go.Proofs.YtlcemelmnkipmaaGreat
