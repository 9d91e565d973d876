/- The texts CodeLo, Lows, CodeSo, Shelf, Sort, Ins15, RestMath, CodeDe, Del, CodeFu, FuI, Rest, PassMath, StMath, Pat3, Nd, CodeSL, FuIc, CodeEq, Eq, Law2, SameLows, LowMath in one (gmerge.py). -/
import Derived.Shelf.Sort.Plain
import Derived.Shelf.Slices.In.SortNone
import Derived.Test.YtlcemelmnkipmaaProg
import Derived.Sort.OwnSortedInts
import Derived.Test.YtlcemelmnkipmaaLoM3
/- What each function does, step by step, written by a program (Gen.lean); each equation is checked by the kernel. -/
namespace Go.Proofs.Ytlcemelmnkipmaa
open Go
set_option linter.unusedVariables false
set_option maxRecDepth 100000
namespace spec_LowsOf
@[reducible] def cfg : Cfg := ⟨36, [(4, [0, 3, 4, 5])], [(1, [0, 3, 4, 5]), (0, [3])], [], [2], [], [29, 12, 74, 34, 92, 23, 62, 26, 37, 94], [72, 85, 91, 22, 40, 4, 43]⟩
def q2 (pr : Prims) (R : Ending → World → Prop) : Exit → Env → World → Prop := fun ex e w => normQ ex (fun e w => contE pr cfg (sub (codeOf Try.f24) [1, 1, 1, 1]) (fun e w => wpC pr PP cfg (DD pr) (sub (codeOf Try.f24) [1, 1, 1, 1]) (retQ Try.f24.results.toList R) e w) e w) (retQ Try.f24.results.toList R) e w
def q3 (pr : Prims) (R : Ending → World → Prop) : Exit → Env → World → Prop := fun ex e w => blockQ ex 0 (q2 pr R) e w
def emb4 (p_0 : Sl) (out_3 : Sl) (least_4 : Int) (k_5 : Int) : Env := [(0, Sl.v p_0), (3, Sl.v out_3), (4, vI least_4), (5, vI k_5)]
def x0 (out_3 : Sl) : Env := [(3, Sl.v out_3)]
def S4 (pr : Prims) (Q : Exit → Env → World → Prop) : (Env → World → Prop) → Env → World → Prop := fun k e w => wpC pr PP cfg (DD pr) (sub (codeOf Try.f24) [1, 1, 1, 0, 1, 0, 0]) (fun ex e w => normQ ex (fun e' w' => k (Env.restr e' (lookN cfg.loops (keyOf (sub (codeOf Try.f24) [1, 1, 1, 0, 1, 0, 0])))) w') Q e w) e w
def B4 (pr : Prims) (p_0 : Sl) (out_3 : Sl) (least_4 : Int) (k_5 : Int) (w : World) (k : Env → World → Prop) (Q : Exit → Env → World → Prop) : Prop :=
  S4 pr Q k (emb4 p_0 out_3 least_4 k_5) w
def L4 (pr : Prims) (p_0 : Sl) (out_3 : Sl) (least_4 : Int) (k_5 : Int) (w : World) (Q : Exit → Env → World → Prop) : Prop :=
  pr.loop (S4 pr Q) (emb4 p_0 out_3 least_4 k_5) w
def E (pr : Prims) (p_0 : Sl) (w : World) (R : Ending → World → Prop) : Prop :=
  wpC pr PP cfg (DD pr) (codeOf Try.f24) (retQ Try.f24.results.toList R) (argE 0 [Sl.v p_0]) w
theorem B4_eq (pr : Prims) (p_0 : Sl) (out_3 : Sl) (least_4 : Int) (k_5 : Int) (w : World) (k : Env → World → Prop) (Q : Exit → Env → World → Prop) : B4 pr p_0 out_3 least_4 k_5 w k Q = (
  bif decide (k_5 < (p_0.n : Int)) then (
  pr.call1 .bool PP F.spec_IsPerm #[Sl.v p_0] w fun (ρ4 : Bool) ω5 =>
  bif ρ4 then (
  pr.idxK 1 p_0 k_5 fun (a6 : Addr) =>
  pr.load1 (.int .i64) a6 ω5 fun (ξ7 : Int) =>
  bif decide (ξ7 < least_4) then (
  pr.idxK 1 p_0 k_5 fun (a8 : Addr) =>
  pr.load1 (.int .i64) a8 ω5 fun (ξ9 : Int) =>
  pr.sem1 .sl PP (Instr.buildSlice T_Sint 1 #[(0, vI (w64 (k_5 + 1)))]) ω5 fun (ρ10 : Sl) ω11 =>
  pr.sem1 .sl PP (Builtin.append_ #[T_Sint, T_Sint] T_Sint #[Sl.v out_3, Sl.v ρ10]) ω11 fun (ρ12 : Sl) ω13 =>
  k (emb4 p_0 ρ12 ξ9 (w64 (k_5 + 1))) ω13)
  else (
  k (emb4 p_0 out_3 least_4 (w64 (k_5 + 1))) ω5))
  else (
  Q (.exit 0) (x0 out_3) ω5))
  else (
  Q (.exit 0) (x0 out_3) w)) := by kernel_rfl
theorem B4_s (p_0 : Sl) (out_3 : Sl) (least_4 : Int) (k_5 : Int) (w : World) (k : Env → World → Prop) (Q : Exit → Env → World → Prop) : B4 std p_0 out_3 least_4 k_5 w k Q = (
  bif decide (k_5 < (p_0.n : Int)) then (
  call1 .bool PP F.spec_IsPerm #[Sl.v p_0] w fun (ρ4 : Bool) ω5 =>
  bif ρ4 then (
  idxK 1 p_0 k_5 fun (a6 : Addr) =>
  load1 (.int .i64) a6 ω5 fun (ξ7 : Int) =>
  bif decide (ξ7 < least_4) then (
  idxK 1 p_0 k_5 fun (a8 : Addr) =>
  load1 (.int .i64) a8 ω5 fun (ξ9 : Int) =>
  sem1 .sl PP (Instr.buildSlice T_Sint 1 #[(0, vI (w64 (k_5 + 1)))]) ω5 fun (ρ10 : Sl) ω11 =>
  sem1 .sl PP (Builtin.append_ #[T_Sint, T_Sint] T_Sint #[Sl.v out_3, Sl.v ρ10]) ω11 fun (ρ12 : Sl) ω13 =>
  k (emb4 p_0 ρ12 ξ9 (w64 (k_5 + 1))) ω13)
  else (
  k (emb4 p_0 out_3 least_4 (w64 (k_5 + 1))) ω5))
  else (
  Q (.exit 0) (x0 out_3) ω5))
  else (
  Q (.exit 0) (x0 out_3) w)) := B4_eq std p_0 out_3 least_4 k_5 w k Q
theorem L4_rule (p_0 : Sl) (out_3 : Sl) (least_4 : Int) (k_5 : Int) (w : World) (Q : Exit → Env → World → Prop) (I : Sl → Int → Int → World → Prop) (μ : Sl → Int → Int → World → Nat) (h0 : I out_3 least_4 k_5 w)
    (h : ∀ (out_3 : Sl) (least_4 : Int) (k_5 : Int) (w' : World), I out_3 least_4 k_5 w' → B4 std p_0 out_3 least_4 k_5 w' (fun e2 w2 => ∃ out_3_n least_4_n k_5_n, e2 = emb4 p_0 out_3_n least_4_n k_5_n ∧ I out_3_n least_4_n k_5_n w2 ∧ μ out_3_n least_4_n k_5_n w2 < μ out_3 least_4 k_5 w') Q) :
    L4 std p_0 out_3 least_4 k_5 w Q := by
  unfold L4
  refine LoopE.intro (σ := Sl × Int × Int) (step := S4 std Q) (fun s => emb4 p_0 s.1 s.2.1 s.2.2) (fun s w => I s.1 s.2.1 s.2.2 w) (fun s w => μ s.1 s.2.1 s.2.2 w) (out_3, least_4, k_5) rfl h0 ?_
  intro s w' hI
  have h1 := h s.1 s.2.1 s.2.2 w' hI
  unfold B4 at h1
  simp only [Prod.exists]
  exact h1
theorem A4_0_eq (pr : Prims) (out_3 : Sl) (w : World) (R : Ending → World → Prop) : (q3 pr R) (.exit 0) (x0 out_3) w = (
  R (.returned (Sl.v out_3)) w) := by kernel_rfl
theorem A4_0_s (out_3 : Sl) (w : World) (R : Ending → World → Prop) : (q3 std R) (.exit 0) (x0 out_3) w = (
  R (.returned (Sl.v out_3)) w) := A4_0_eq std out_3 w R
theorem E_eq (pr : Prims) (p_0 : Sl) (w : World) (R : Ending → World → Prop) : E pr p_0 w R = (
  pr.sem1 .sl PP (Instr.buildSlice T_Sint 0 #[]) w fun (ρ0 : Sl) ω1 =>
  L4 pr p_0 ρ0 (w64 ((p_0.n : Int) + 1)) 0 ω1 (q3 pr R)) := by kernel_rfl
theorem E_s (p_0 : Sl) (w : World) (R : Ending → World → Prop) : E std p_0 w R = (
  sem1 .sl PP (Instr.buildSlice T_Sint 0 #[]) w fun (ρ0 : Sl) ω1 =>
  L4 std p_0 ρ0 (w64 ((p_0.n : Int) + 1)) 0 ω1 (q3 std R)) := E_eq std p_0 w R
theorem drawsOk : drawsOk PP cfg okD (codeOf Try.f24) = true := by kernel_rfl
theorem calls (p_0 : Sl) {w : World} {R : Ending → World → Prop} (h : E std p_0 w R) : Calls PP F.spec_LowsOf #[Sl.v p_0] w R :=
  calls_of noCount mixed drawOk Try.func24 rfl (c := cfg) (args := [Sl.v p_0]) rfl (Nat.le_of_ble_eq_true (by kernel_rfl)) drawsOk h
end spec_LowsOf

namespace impl_LowsOf
@[reducible] def cfg : Cfg := ⟨6, [], [], [], [2], [], [29, 12, 74, 34, 92, 23, 62, 26, 37, 94], [72, 85, 91, 22, 40, 4, 43]⟩
def E (pr : Prims) (p_0 : Sl) (w : World) (R : Ending → World → Prop) : Prop :=
  wpC pr PP cfg (DD pr) (codeOf Try.f33) (retQ Try.f33.results.toList R) (argE 0 [Sl.v p_0]) w
theorem E_eq (pr : Prims) (p_0 : Sl) (w : World) (R : Ending → World → Prop) : E pr p_0 w R = (
  pr.newK T_Sint #[Sl.v p_0] w fun (a0 : Addr) ω1 =>
  pr.load1 .sl a0 ω1 fun (ξ2 : Sl) =>
  pr.call1 .sl PP F.impl_listed #[Sl.v ξ2, (.func (.func F.impl_LowsOfL1) #[] #[.pointer (some a0)])] ω1 fun (ρ3 : Sl) ω4 =>
  R (.returned (Sl.v ρ3)) ω4) := by kernel_rfl
theorem E_s (p_0 : Sl) (w : World) (R : Ending → World → Prop) : E std p_0 w R = (
  newK T_Sint #[Sl.v p_0] w fun (a0 : Addr) ω1 =>
  load1 .sl a0 ω1 fun (ξ2 : Sl) =>
  call1 .sl PP F.impl_listed #[Sl.v ξ2, (.func (.func F.impl_LowsOfL1) #[] #[.pointer (some a0)])] ω1 fun (ρ3 : Sl) ω4 =>
  R (.returned (Sl.v ρ3)) ω4) := E_eq std p_0 w R
theorem drawsOk : drawsOk PP cfg okD (codeOf Try.f33) = true := by kernel_rfl
theorem calls (p_0 : Sl) {w : World} {R : Ending → World → Prop} (h : E std p_0 w R) : Calls PP F.impl_LowsOf #[Sl.v p_0] w R :=
  calls_of noCount mixed drawOk Try.func33 rfl (c := cfg) (args := [Sl.v p_0]) rfl (Nat.le_of_ble_eq_true (by kernel_rfl)) drawsOk h
end impl_LowsOf

namespace impl_LowsOfL1
@[reducible] def cfg : Cfg := ⟨21, [(2, [0, 1, 8, 9, 10])], [(1, [0, 1, 8, 9, 10]), (0, [])], [], [3], [], [29, 12, 74, 34, 92, 23, 62, 26, 37, 94], [72, 85, 91, 22, 40, 4, 43]⟩
def q0 (pr : Prims) (R : Ending → World → Prop) : Exit → Env → World → Prop := fun ex e w => normQ ex (fun e w => contE pr cfg (sub (codeOf Try.f57) [1, 1]) (fun e w => wpC pr PP cfg (DD pr) (sub (codeOf Try.f57) [1, 1]) (retQ Try.f57.results.toList R) e w) e w) (retQ Try.f57.results.toList R) e w
def q3 (pr : Prims) (R : Ending → World → Prop) : Exit → Env → World → Prop := fun ex e w => blockQ ex 0 (q0 pr R) e w
def emb2 (i_0 : Int) (t1 : Addr) (t8 : Sl) (t9 : Int) (t10 : Int) : Env := [(0, vI i_0), (1, .pointer (some t1)), (8, Sl.v t8), (9, vI t9), (10, vI t10)]
def x0 : Env := []
def S2 (pr : Prims) (Q : Exit → Env → World → Prop) : (Env → World → Prop) → Env → World → Prop := fun k e w => wpC pr PP cfg (DD pr) (sub (codeOf Try.f57) [1, 0, 1, 0, 0]) (fun ex e w => normQ ex (fun e' w' => k (Env.restr e' (lookN cfg.loops (keyOf (sub (codeOf Try.f57) [1, 0, 1, 0, 0])))) w') Q e w) e w
def B2 (pr : Prims) (i_0 : Int) (t1 : Addr) (t8 : Sl) (t9 : Int) (t10 : Int) (w : World) (k : Env → World → Prop) (Q : Exit → Env → World → Prop) : Prop :=
  S2 pr Q k (emb2 i_0 t1 t8 t9 t10) w
def L2 (pr : Prims) (i_0 : Int) (t1 : Addr) (t8 : Sl) (t9 : Int) (t10 : Int) (w : World) (Q : Exit → Env → World → Prop) : Prop :=
  pr.loop (S2 pr Q) (emb2 i_0 t1 t8 t9 t10) w
def E (pr : Prims) (i_0 : Int) (t1 : Addr) (w : World) (R : Ending → World → Prop) : Prop :=
  wpC pr PP cfg (DD pr) (codeOf Try.f57) (retQ Try.f57.results.toList R) (argE 0 [vI i_0, .pointer (some t1)]) w
theorem B2_eq (pr : Prims) (i_0 : Int) (t1 : Addr) (t8 : Sl) (t9 : Int) (t10 : Int) (w : World) (k : Env → World → Prop) (Q : Exit → Env → World → Prop) : B2 pr i_0 t1 t8 t9 t10 w k Q = (
  bif decide (t10 < t9) then (
  pr.idxK 1 t8 t10 fun (a4 : Addr) =>
  pr.load1 (.int .i64) a4 w fun (ξ5 : Int) =>
  pr.load1 .sl t1 w fun (ξ6 : Sl) =>
  pr.idxK 1 ξ6 i_0 fun (a7 : Addr) =>
  pr.load1 (.int .i64) a7 w fun (ξ8 : Int) =>
  bif decide (ξ5 < ξ8) then (
  Q .ret [(3, .bool false)] w)
  else (
  k (emb2 i_0 t1 t8 t9 (w64 (t10 + 1))) w))
  else (
  Q (.exit 0) (x0) w)) := by kernel_rfl
theorem B2_s (i_0 : Int) (t1 : Addr) (t8 : Sl) (t9 : Int) (t10 : Int) (w : World) (k : Env → World → Prop) (Q : Exit → Env → World → Prop) : B2 std i_0 t1 t8 t9 t10 w k Q = (
  bif decide (t10 < t9) then (
  idxK 1 t8 t10 fun (a4 : Addr) =>
  load1 (.int .i64) a4 w fun (ξ5 : Int) =>
  load1 .sl t1 w fun (ξ6 : Sl) =>
  idxK 1 ξ6 i_0 fun (a7 : Addr) =>
  load1 (.int .i64) a7 w fun (ξ8 : Int) =>
  bif decide (ξ5 < ξ8) then (
  Q .ret [(3, .bool false)] w)
  else (
  k (emb2 i_0 t1 t8 t9 (w64 (t10 + 1))) w))
  else (
  Q (.exit 0) (x0) w)) := B2_eq std i_0 t1 t8 t9 t10 w k Q
theorem L2_rule (i_0 : Int) (t1 : Addr) (t8 : Sl) (t9 : Int) (t10 : Int) (w : World) (Q : Exit → Env → World → Prop) (I : Int → World → Prop) (μ : Int → World → Nat) (h0 : I t10 w)
    (h : ∀ (t10 : Int) (w' : World), I t10 w' → B2 std i_0 t1 t8 t9 t10 w' (fun e2 w2 => ∃ t10_n, e2 = emb2 i_0 t1 t8 t9 t10_n ∧ I t10_n w2 ∧ μ t10_n w2 < μ t10 w') Q) :
    L2 std i_0 t1 t8 t9 t10 w Q := by
  unfold L2
  refine LoopE.intro (σ := Int) (step := S2 std Q) (fun s => emb2 i_0 t1 t8 t9 s) (fun s w => I s w) (fun s w => μ s w) t10 rfl h0 ?_
  intro s w' hI
  have h1 := h s w' hI
  unfold B2 at h1
  exact h1
theorem A2_0_eq (pr : Prims) (w : World) (R : Ending → World → Prop) : (q3 pr R) (.exit 0) (x0) w = (
  R (.returned (.bool true)) w) := by kernel_rfl
theorem A2_0_s (w : World) (R : Ending → World → Prop) : (q3 std R) (.exit 0) (x0) w = (
  R (.returned (.bool true)) w) := A2_0_eq std w R
theorem R2_eq (pr : Prims) (v3 : Value) (w : World) (R : Ending → World → Prop) : (q3 pr R) .ret [(3, v3)] w = (
  R (.returned (v3)) w) := by kernel_rfl
theorem R2_s (v3 : Value) (w : World) (R : Ending → World → Prop) : (q3 std R) .ret [(3, v3)] w = (
  R (.returned (v3)) w) := R2_eq std v3 w R
theorem E_eq (pr : Prims) (i_0 : Int) (t1 : Addr) (w : World) (R : Ending → World → Prop) : E pr i_0 t1 w R = (
  pr.load1 .sl t1 w fun (ξ1 : Sl) =>
  pr.cutK 1 ξ1 none (some i_0) fun (s2 : Sl) =>
  L2 pr i_0 t1 s2 (s2.n : Int) 0 w (q3 pr R)) := by kernel_rfl
theorem E_s (i_0 : Int) (t1 : Addr) (w : World) (R : Ending → World → Prop) : E std i_0 t1 w R = (
  load1 .sl t1 w fun (ξ1 : Sl) =>
  cutK 1 ξ1 none (some i_0) fun (s2 : Sl) =>
  L2 std i_0 t1 s2 (s2.n : Int) 0 w (q3 std R)) := E_eq std i_0 t1 w R
theorem drawsOk : drawsOk PP cfg okD (codeOf Try.f57) = true := by kernel_rfl
theorem calls (i_0 : Int) (t1 : Addr) {w : World} {R : Ending → World → Prop} (h : E std i_0 t1 w R) : Calls PP F.impl_LowsOfL1 #[vI i_0, .pointer (some t1)] w R :=
  calls_of noCount mixed drawOk Try.func57 rfl (c := cfg) (args := [vI i_0, .pointer (some t1)]) rfl (Nat.le_of_ble_eq_true (by kernel_rfl)) drawsOk h
end impl_LowsOfL1

namespace impl_listed
@[reducible] def cfg : Cfg := ⟨26, [(5, [1, 5, 12, 13])], [(1, [1, 5, 12, 13]), (0, [5])], [], [4], [], [29, 12, 74, 34, 92, 23, 62, 26, 37, 94], [72, 85, 91, 22, 40, 4, 43]⟩
def q4 (pr : Prims) (R : Ending → World → Prop) : Exit → Env → World → Prop := fun ex e w => normQ ex (fun e w => contE pr cfg (sub (codeOf Try.f56) [1, 1, 1, 1]) (fun e w => wpC pr PP cfg (DD pr) (sub (codeOf Try.f56) [1, 1, 1, 1]) (retQ Try.f56.results.toList R) e w) e w) (retQ Try.f56.results.toList R) e w
def q5 (pr : Prims) (R : Ending → World → Prop) : Exit → Env → World → Prop := fun ex e w => blockQ ex 0 (q4 pr R) e w
def emb5 (holds_1 : Value) (out_5 : Sl) (t12 : Int) (t13 : Int) : Env := [(1, holds_1), (5, Sl.v out_5), (12, vI t12), (13, vI t13)]
def x0 (out_5 : Sl) : Env := [(5, Sl.v out_5)]
def S5 (pr : Prims) (Q : Exit → Env → World → Prop) : (Env → World → Prop) → Env → World → Prop := fun k e w => wpC pr PP cfg (DD pr) (sub (codeOf Try.f56) [1, 1, 1, 0, 1, 0, 0]) (fun ex e w => normQ ex (fun e' w' => k (Env.restr e' (lookN cfg.loops (keyOf (sub (codeOf Try.f56) [1, 1, 1, 0, 1, 0, 0])))) w') Q e w) e w
def B5 (pr : Prims) (holds_1 : Value) (out_5 : Sl) (t12 : Int) (t13 : Int) (w : World) (k : Env → World → Prop) (Q : Exit → Env → World → Prop) : Prop :=
  S5 pr Q k (emb5 holds_1 out_5 t12 t13) w
def L5 (pr : Prims) (holds_1 : Value) (out_5 : Sl) (t12 : Int) (t13 : Int) (w : World) (Q : Exit → Env → World → Prop) : Prop :=
  pr.loop (S5 pr Q) (emb5 holds_1 out_5 t12 t13) w
def E (pr : Prims) (p_0 : Sl) (holds_1 : Value) (w : World) (R : Ending → World → Prop) : Prop :=
  wpC pr PP cfg (DD pr) (codeOf Try.f56) (retQ Try.f56.results.toList R) (argE 0 [Sl.v p_0, holds_1]) w
theorem B5_eq (pr : Prims) (holds_1 : Value) (out_5 : Sl) (t12 : Int) (t13 : Int) (w : World) (k : Env → World → Prop) (Q : Exit → Env → World → Prop) : B5 pr holds_1 out_5 t12 t13 w k Q = (
  bif decide (t13 < t12) then (
  pr.callV1 .bool PP (holds_1) [vI t13] w fun (ρ6 : Bool) ω7 =>
  bif ρ6 then (
  pr.sem1 .sl PP (Instr.buildSlice T_Sint 1 #[(0, vI (w64 (t13 + 1)))]) ω7 fun (ρ8 : Sl) ω9 =>
  pr.sem1 .sl PP (Builtin.append_ #[T_Sint, T_Sint] T_Sint #[Sl.v out_5, Sl.v ρ8]) ω9 fun (ρ10 : Sl) ω11 =>
  k (emb5 holds_1 ρ10 t12 (w64 (t13 + 1))) ω11)
  else (
  k (emb5 holds_1 out_5 t12 (w64 (t13 + 1))) ω7))
  else (
  Q (.exit 0) (x0 out_5) w)) := by kernel_rfl
theorem B5_s (holds_1 : Value) (out_5 : Sl) (t12 : Int) (t13 : Int) (w : World) (k : Env → World → Prop) (Q : Exit → Env → World → Prop) : B5 std holds_1 out_5 t12 t13 w k Q = (
  bif decide (t13 < t12) then (
  callV1 .bool PP (holds_1) [vI t13] w fun (ρ6 : Bool) ω7 =>
  bif ρ6 then (
  sem1 .sl PP (Instr.buildSlice T_Sint 1 #[(0, vI (w64 (t13 + 1)))]) ω7 fun (ρ8 : Sl) ω9 =>
  sem1 .sl PP (Builtin.append_ #[T_Sint, T_Sint] T_Sint #[Sl.v out_5, Sl.v ρ8]) ω9 fun (ρ10 : Sl) ω11 =>
  k (emb5 holds_1 ρ10 t12 (w64 (t13 + 1))) ω11)
  else (
  k (emb5 holds_1 out_5 t12 (w64 (t13 + 1))) ω7))
  else (
  Q (.exit 0) (x0 out_5) w)) := B5_eq std holds_1 out_5 t12 t13 w k Q
theorem L5_rule (holds_1 : Value) (out_5 : Sl) (t12 : Int) (t13 : Int) (w : World) (Q : Exit → Env → World → Prop) (I : Sl → Int → World → Prop) (μ : Sl → Int → World → Nat) (h0 : I out_5 t13 w)
    (h : ∀ (out_5 : Sl) (t13 : Int) (w' : World), I out_5 t13 w' → B5 std holds_1 out_5 t12 t13 w' (fun e2 w2 => ∃ out_5_n t13_n, e2 = emb5 holds_1 out_5_n t12 t13_n ∧ I out_5_n t13_n w2 ∧ μ out_5_n t13_n w2 < μ out_5 t13 w') Q) :
    L5 std holds_1 out_5 t12 t13 w Q := by
  unfold L5
  refine LoopE.intro (σ := Sl × Int) (step := S5 std Q) (fun s => emb5 holds_1 s.1 t12 s.2) (fun s w => I s.1 s.2 w) (fun s w => μ s.1 s.2 w) (out_5, t13) rfl h0 ?_
  intro s w' hI
  have h1 := h s.1 s.2 w' hI
  unfold B5 at h1
  simp only [Prod.exists]
  exact h1
theorem A5_0_eq (pr : Prims) (out_5 : Sl) (w : World) (R : Ending → World → Prop) : (q5 pr R) (.exit 0) (x0 out_5) w = (
  R (.returned (Sl.v out_5)) w) := by kernel_rfl
theorem A5_0_s (out_5 : Sl) (w : World) (R : Ending → World → Prop) : (q5 std R) (.exit 0) (x0 out_5) w = (
  R (.returned (Sl.v out_5)) w) := A5_0_eq std out_5 w R
theorem E_eq (pr : Prims) (p_0 : Sl) (holds_1 : Value) (w : World) (R : Ending → World → Prop) : E pr p_0 holds_1 w R = (
  pr.call1 .bool PP F.impl_IsPerm #[Sl.v p_0] w fun (ρ0 : Bool) ω1 =>
  bif !ρ0 then (
  R (.returned (Sl.v Sl.nil)) ω1)
  else (
  pr.sem1 .sl PP (Instr.buildSlice T_Sint 0 #[]) ω1 fun (ρ2 : Sl) ω3 =>
  L5 pr holds_1 ρ2 (p_0.n : Int) 0 ω3 (q5 pr R))) := by kernel_rfl
theorem E_s (p_0 : Sl) (holds_1 : Value) (w : World) (R : Ending → World → Prop) : E std p_0 holds_1 w R = (
  call1 .bool PP F.impl_IsPerm #[Sl.v p_0] w fun (ρ0 : Bool) ω1 =>
  bif !ρ0 then (
  R (.returned (Sl.v Sl.nil)) ω1)
  else (
  sem1 .sl PP (Instr.buildSlice T_Sint 0 #[]) ω1 fun (ρ2 : Sl) ω3 =>
  L5 std holds_1 ρ2 (p_0.n : Int) 0 ω3 (q5 std R))) := E_eq std p_0 holds_1 w R
theorem drawsOk : drawsOk PP cfg okD (codeOf Try.f56) = true := by kernel_rfl
theorem calls (p_0 : Sl) (holds_1 : Value) {w : World} {R : Ending → World → Prop} (h : E std p_0 holds_1 w R) : Calls PP F.impl_listed #[Sl.v p_0, holds_1] w R :=
  calls_of noCount mixed drawOk Try.func56 rfl (c := cfg) (args := [Sl.v p_0, holds_1]) rfl (Nat.le_of_ble_eq_true (by kernel_rfl)) drawsOk h
end impl_listed

end Go.Proofs.Ytlcemelmnkipmaa

/- The places of the lows: both texts. -/
namespace Go.Proofs.Ytlcemelmnkipmaa
open Go Go.RowKit
set_option maxRecDepth 100000

/-- Is no earlier number less? -/
def isLow (L : List Int) (i : Nat) : Bool := (List.range i).all fun j => !decide (L.getD j 0 < L.getD i 0)
theorem isLow_iff {L : List Int} {i : Nat} : isLow L i = true ↔ ∀ j, j < i → ¬ L.getD j 0 < L.getD i 0 := by simp [isLow]
def lowsT (L : List Int) : Nat → List Int
  | 0 => []
  | k + 1 => if isLow L k then lowsT L k ++ [(k : Int) + 1] else lowsT L k
theorem lowsT_length (L : List Int) : ∀ k, (lowsT L k).length ≤ k
  | 0 => by simp [lowsT]
  | k + 1 => by
    have := lowsT_length L k
    rw [lowsT]
    split
    · simp; omega
    · omega
theorem mem_lowsT {L : List Int} : ∀ {k : Nat} {x : Int}, x ∈ lowsT L k ↔ 1 ≤ x ∧ x ≤ k ∧ isLow L (x - 1).toNat = true
  | 0, x => by simp [lowsT]; omega
  | k + 1, x => by
    rw [lowsT]
    have ih := mem_lowsT (L := L) (k := k) (x := x)
    split
    · rename_i h
      rw [List.mem_append, ih]
      simp only [List.mem_singleton]
      constructor
      · rintro (⟨h1, h2, h3⟩ | rfl)
        · exact ⟨h1, by omega, h3⟩
        · exact ⟨by omega, by omega, by rw [show ((k : Int) + 1 - 1).toNat = k by omega]; exact h⟩
      · rintro ⟨h1, h2, h3⟩
        by_cases e : x = (k : Int) + 1
        · exact .inr e
        · exact .inl ⟨h1, by omega, h3⟩
    · rename_i h
      rw [ih]
      constructor
      · rintro ⟨h1, h2, h3⟩; exact ⟨h1, by omega, h3⟩
      · rintro ⟨h1, h2, h3⟩
        refine ⟨h1, ?_, h3⟩
        by_cases e : x = (k : Int) + 1
        · subst e
          rw [show ((k : Int) + 1 - 1).toNat = k by omega] at h3
          exact absurd h3 h
        · omega
open Classical in
noncomputable def LowsV (L : List Int) : List Int := if IsP L then lowsT L L.length else []
/-- The least of the first k. -/
def leastT (L : List Int) : Nat → Int
  | 0 => (L.length : Int) + 1
  | k + 1 => if L.getD k 0 < leastT L k then L.getD k 0 else leastT L k
theorem leastT_le (L : List Int) : ∀ k j, j < k → leastT L k ≤ L.getD j 0
  | k + 1, j, hj => by
    rw [leastT]
    by_cases e : j = k
    · subst e; split <;> omega
    · have := leastT_le L k j (by omega)
      split <;> omega
theorem leastT_mem (L : List Int) : ∀ k, leastT L k = (L.length : Int) + 1 ∨ ∃ j, j < k ∧ leastT L k = L.getD j 0
  | 0 => .inl rfl
  | k + 1 => by
    rw [leastT]
    split
    · exact .inr ⟨k, by omega, rfl⟩
    · rcases leastT_mem L k with h | ⟨j, h1, h2⟩
      · exact .inl h
      · exact .inr ⟨j, by omega, h2⟩
theorem low_least {L : List Int} (h : IsP L) {k : Nat} (hk : k < L.length) : L.getD k 0 < leastT L k ↔ isLow L k = true := by
  rw [isLow_iff]
  constructor
  · intro h1 j hj h2
    have := leastT_le L k j hj
    omega
  · intro h1
    rcases leastT_mem L k with h2 | ⟨j, h2, h3⟩
    · have := (h.2 k hk).2.1; omega
    · have := h1 j h2
      have := (h.2 k hk).2.2 j h2
      omega

theorem c_lowL1 {w0 : World} {a : Sl} {L : List Int} {p : Addr} (ha : RowI w0 a L) (hL : L.length < 2^38) (hp : w0.cell? p = some a.v) {i : Nat} (hi : i < L.length) :
    FnB w0 (.func (.func F.impl_LowsOfL1) #[] #[.pointer (some p)]) [vI i] (isLow L i) := by
  intro w hb
  have han : a.n = L.length := by have := ha.n; simpa using this
  refine ⟨_, _, _, rfl, by kernel_rfl, ?_⟩
  show Calls PP F.impl_LowsOfL1 #[vI i, .pointer (some p)] w _
  refine impl_LowsOfL1.calls i p ?_
  rw [impl_LowsOfL1.E_s]
  have haw := ha.grow hb
  have hpw := cell_grow hp hb
  refine load_sl hpw ?_
  refine Row.cut haw (by simp) (by simp <;> omega) (by simp <;> omega) ?_
  intro s2 hs2
  have e2 : (List.take ((some (i : Int)).getD (a.n : Int)).toNat (L.map vI)).drop ((none : Option Int).getD 0).toNat = (L.take i).map vI := by simp
  rw [e2] at hs2
  have hn2 : s2.n = i := by have := hs2.n; simp at this; omega
  rw [hn2]
  refine impl_LowsOfL1.L2_rule _ _ _ _ _ _ _ (I := fun k w' => w' = w ∧ 0 ≤ k ∧ k ≤ i ∧ ∀ j, j < k.toNat → ¬ L.getD j 0 < L.getD i 0) (μ := fun k _ => (i - k).toNat) ⟨rfl, by omega, by omega, fun j hj => by simp at hj⟩ ?_
  rintro k w' ⟨rfl, h0, hk, hall⟩
  rw [impl_LowsOfL1.B2_s]
  refine bif_dec (fun h3 => ?_) (fun h3 => ?_)
  · refine RowI.get hs2 h0 (by simp; omega) ?_
    have e3 : (L.take i).getD k.toNat 0 = L.getD k.toNat 0 := by
      simp only [List.getD_eq_getElem?_getD, List.getElem?_take]
      rw [if_pos (by omega)]
    rw [e3]
    refine load_sl hpw ?_
    refine RowI.get haw (by omega) (by omega) ?_
    rw [Int.toNat_natCast]
    refine bif_dec (fun h4 => ?_) (fun h4 => ?_)
    · rw [impl_LowsOfL1.R2_s]
      have : isLow L i = false := by
        cases hl : isLow L i
        · rfl
        · exact absurd h4 (isLow_iff.1 hl k.toNat (by omega))
      exact ⟨by rw [this], Below.refl _ _⟩
    · refine ⟨k + 1, by rw [w64_succ h0 (by omega)], ⟨rfl, by omega, by omega, fun j hj => ?_⟩, by omega⟩
      by_cases e : j = k.toNat
      · rw [e]; exact h4
      · exact hall j (by omega)
  · rw [impl_LowsOfL1.A2_0_s]
    have : isLow L i = true := isLow_iff.2 fun j hj => hall j (by omega)
    exact ⟨by rw [this], Below.refl _ _⟩
theorem c_implLowsOf {w : World} {a : Sl} {L : List Int} (ha : RowI w a L) (hL : L.length < 2^38) :
    Calls PP F.impl_LowsOf #[a.v] w fun e w' => ∃ s : Sl, e = .returned s.v ∧ OwnI w' w.heap.size s (LowsV L) ∧ Below w.heap.size w w' := by
  have han : a.n = L.length := by have := ha.n; simpa using this
  refine impl_LowsOf.calls a ?_
  rw [impl_LowsOf.E_s]
  refine new_one ?_
  intro p w1 hp hb1
  refine load_sl hp ?_
  have ha1 := ha.grow hb1
  suffices h : Calls PP F.impl_listed #[a.v, .func (.func F.impl_LowsOfL1) #[] #[.pointer (some p)]] w1 fun e w' => ∃ s : Sl, e = .returned s.v ∧ OwnI w' w1.heap.size s (LowsV L) ∧ Below w1.heap.size w1 w' by
    refine h.mono ?_
    rintro e w2 ⟨s, rfl, hs, hb2⟩
    exact ⟨s, rfl, s, rfl, hs.mono hb1.size, hb1.trans (hb2.mono hb1.size)⟩
  refine impl_listed.calls a _ ?_
  rw [impl_listed.E_s, han]
  refine (c_implIsPerm ha1 hL).mono ?_
  rintro e w2 ⟨rfl, hb2⟩
  refine ⟨_, rfl, ?_⟩
  refine bif_intro (fun h => ?_) (fun h => ?_)
  · have h : ¬ IsP L := by simpa using h
    exact ⟨Sl.nil, rfl, by rw [LowsV, if_neg h]; exact Own.nil _ _ _, hb2⟩
  have h : IsP L := by simpa using h
  have h8 := h.1
  refine lit0 oneInt (B := w1.heap.size) hb2.size ?_
  intro o0 w3 ho0 hg3 _
  have hb3 := hb2.grown hg3 hb2.size (by simp)
  refine impl_listed.L5_rule _ _ _ _ _ _ (I := fun o k w' => 0 ≤ k ∧ k ≤ L.length ∧ OwnI w' w1.heap.size o (lowsT L k.toNat) ∧ Below w1.heap.size w1 w') (μ := fun _ k _ => (L.length - k).toNat) ⟨by omega, by omega, ho0, hb3⟩ ?_
  rintro o k w' ⟨h0, hk, ho, hb⟩
  rw [impl_listed.B5_s]
  have hll := lowsT_length L k.toNat
  refine bif_dec (fun h3 => ?_) (fun h3 => ?_)
  · obtain ⟨m, rfl⟩ : ∃ m : Nat, k = m := ⟨k.toNat, by omega⟩
    refine (c_lowL1 ha1 hL hp (i := m) (by omega)).callV1 hb ?_
    intro w4 hb4
    have hb14 := hb.trans (hb4.mono hb.size)
    have ho4 := ho.grow hb4
    rw [Int.toNat_natCast] at ho4 hll
    have hsc : ((m : Int) + 1).toNat = m + 1 := by omega
    refine bif_intro (fun h4 => ?_) (fun h4 => ?_)
    · rw [w64_succ (n := (m : Int)) h0 (by omega)]
      refine append_int ho4 hb14.size (by omega) ?_
      intro o' w5 ho5 hg5 _
      refine ⟨o', (m : Int) + 1, rfl, ⟨by omega, by omega, ?_, hb14.grown hg5 hb14.size (fun g hg => (ho4.lt g hg).1)⟩, by omega⟩
      rw [hsc, lowsT, if_pos h4]; exact ho5
    · refine ⟨o, (m : Int) + 1, by rw [w64_succ h0 (by omega)], ⟨by omega, by omega, ?_, hb14⟩, by omega⟩
      rw [hsc, lowsT, if_neg (by simp [h4])]; exact ho4
  · rw [impl_listed.A5_0_s]
    rw [show k.toNat = L.length by omega] at ho
    exact ⟨o, rfl, by rw [LowsV, if_pos h]; exact ho, hb⟩
open Classical in
theorem c_specLowsOf {w : World} {a : Sl} {L : List Int} (ha : RowI w a L) (hL : L.length < 2^38) :
    Calls PP F.spec_LowsOf #[a.v] w fun e w' => ∃ s : Sl, e = .returned s.v ∧ OwnI w' w.heap.size s (LowsV L) ∧ Below w.heap.size w w' := by
  have han : a.n = L.length := by have := ha.n; simpa using this
  refine spec_LowsOf.calls a ?_
  rw [spec_LowsOf.E_s, han]
  refine lit0 oneInt (B := w.heap.size) (Nat.le_refl _) ?_
  intro o0 w1 ho0 hg1 _
  rw [w64_succ (n := (L.length : Int)) (by omega) (by omega)]
  refine spec_LowsOf.L4_rule _ _ _ _ _ _ (I := fun o le k w' => 0 ≤ k ∧ k ≤ L.length ∧ le = leastT L k.toNat ∧ (0 < k → IsP L) ∧ OwnI w' w.heap.size o (lowsT L k.toNat) ∧ Below w.heap.size w w') (μ := fun _ _ k _ => (L.length - k).toNat)
    ⟨by omega, by omega, rfl, fun h => by omega, ho0, below_of_grow hg1⟩ ?_
  rintro o le k w' ⟨h0, hk, hle, hip, ho, hb⟩
  rw [spec_LowsOf.B4_s, han]
  have hll := lowsT_length L k.toNat
  refine bif_dec (fun h3 => ?_) (fun h3 => ?_)
  · have hlt : k.toNat < L.length := by omega
    refine Quiet.call1 (s := .bool) (c_specIsPerm (ha.grow hb) hL) ?_
    intro w2 hd
    have hb2 := hb.trans (hd.below _)
    have ho2 := ho.heap hd.heap'
    refine bif_dec (fun h4 => ?_) (fun h4 => ?_)
    · refine RowI.get (ha.grow hb2) h0 (by omega) ?_
      have hsc : (k + 1).toNat = k.toNat + 1 := by omega
      have hiff := low_least h4 hlt
      refine bif_dec (fun h5 => ?_) (fun h5 => ?_)
      · refine RowI.get (ha.grow hb2) h0 (by omega) ?_
        rw [hle] at h5
        rw [w64_succ (n := k) h0 (by omega)]
        refine append_int ho2 hb2.size (by omega) ?_
        intro o' w3 ho3 hg3 _
        refine ⟨o', _, k + 1, rfl, ⟨by omega, by omega, by rw [hsc, leastT, if_pos h5], fun _ => h4, ?_, hb2.grown hg3 hb2.size (fun g hg => (ho2.lt g hg).1)⟩, by omega⟩
        rw [hsc, lowsT, if_pos (hiff.1 h5), show ((k.toNat : Nat) : Int) + 1 = k + 1 by omega]
        exact ho3
      · rw [hle] at h5
        refine ⟨o, le, k + 1, by rw [w64_succ h0 (by omega)], ⟨by omega, by omega, by rw [hsc, leastT, if_neg h5, hle], fun _ => h4, ?_, hb2⟩, by omega⟩
        rw [hsc, lowsT, if_neg (fun h => h5 (hiff.2 h))]
        exact ho2
    · rw [spec_LowsOf.A4_0_s]
      have hk0 : k = 0 := by
        apply Classical.byContradiction
        intro hne
        exact h4 (hip (by omega))
      subst hk0
      exact ⟨o, rfl, by rw [LowsV, if_neg h4]; exact ho2, hb2⟩
  · rw [spec_LowsOf.A4_0_s]
    have hkl : k.toNat = L.length := by omega
    rw [hkl] at ho
    refine ⟨o, rfl, ?_, hb⟩
    unfold LowsV
    split
    · exact ho
    · rename_i hn
      have : L.length = 0 := by
        apply Classical.byContradiction
        intro hne
        exact hn (hip (by omega))
      rw [this] at ho
      exact ho
end Go.Proofs.Ytlcemelmnkipmaa

/- What each function does, step by step, written by a program (Gen.lean); each equation is checked by the kernel. -/
namespace Go.Proofs.Ytlcemelmnkipmaa
open Go
set_option linter.unusedVariables false
set_option maxRecDepth 100000
namespace spec_l15Sort
@[reducible] def cfg : Cfg := ⟨49, [(6, [0, 3, 4, 5]), (3, [0, 3, 4])], [(3, [0, 3, 4, 5]), (2, [0, 3, 4, 5]), (1, [0, 3, 4]), (0, [3])], [], [2], [6], [29, 12, 74, 34, 92, 23, 62, 26, 37, 94], [72, 85, 91, 22, 40, 4, 43]⟩
def q2 (pr : Prims) (R : Ending → World → Prop) : Exit → Env → World → Prop := fun ex e w => normQ ex (fun e w => contE pr cfg (sub (codeOf Try.f52) [1, 1, 1]) (fun e w => wpC pr PP cfg (DD pr) (sub (codeOf Try.f52) [1, 1, 1]) (retQ Try.f52.results.toList R) e w) e w) (retQ Try.f52.results.toList R) e w
def q3 (pr : Prims) (R : Ending → World → Prop) : Exit → Env → World → Prop := fun ex e w => blockQ ex 0 (q2 pr R) e w
def q4 (pr : Prims) (k : Env → World → Prop) (Q : Exit → Env → World → Prop) : Exit → Env → World → Prop := fun ex e w => normQ ex (fun e w => contE pr cfg (sub (codeOf Try.f52) [1, 1, 0, 1, 0, 0, 1, 1]) (fun e w => wpC pr PP cfg (DD pr) (sub (codeOf Try.f52) [1, 1, 0, 1, 0, 0, 1, 1]) (fun ex e w => normQ ex (fun e' w' => k (Env.restr e' (lookN cfg.loops (keyOf (sub (codeOf Try.f52) [1, 1, 0, 1, 0, 0])))) w') Q e w) e w) e w) (fun ex e w => normQ ex (fun e' w' => k (Env.restr e' (lookN cfg.loops (keyOf (sub (codeOf Try.f52) [1, 1, 0, 1, 0, 0])))) w') Q e w) e w
def q5 (pr : Prims) (k : Env → World → Prop) (Q : Exit → Env → World → Prop) : Exit → Env → World → Prop := fun ex e w => blockQ ex 1 (q4 pr k Q) e w
def q6 (pr : Prims) (k : Env → World → Prop) (Q : Exit → Env → World → Prop) : Exit → Env → World → Prop := fun ex e w => normQ ex (fun e w => contE pr cfg (sub (codeOf Try.f52) [1, 1, 0, 1, 0, 0, 1, 0, 0, 1, 1]) (fun e w => wpC pr PP cfg (DD pr) (sub (codeOf Try.f52) [1, 1, 0, 1, 0, 0, 1, 0, 0, 1, 1]) (q5 pr k Q) e w) e w) (q5 pr k Q) e w
def q7 (pr : Prims) (k : Env → World → Prop) (Q : Exit → Env → World → Prop) : Exit → Env → World → Prop := fun ex e w => blockQ ex 2 (q6 pr k Q) e w
def emb3 (list_0 : Sl) (out_3 : Sl) (k_4 : Int) : Env := [(0, Sl.v list_0), (3, Sl.v out_3), (4, vI k_4)]
def emb6 (list_0 : Sl) (out_3 : Sl) (k_4 : Int) (at_5 : Int) : Env := [(0, Sl.v list_0), (3, Sl.v out_3), (4, vI k_4), (5, vI at_5)]
def x2 (list_0 : Sl) (out_3 : Sl) (k_4 : Int) (at_5 : Int) : Env := [(0, Sl.v list_0), (3, Sl.v out_3), (4, vI k_4), (5, vI at_5)]
def x0 (out_3 : Sl) : Env := [(3, Sl.v out_3)]
def S6 (pr : Prims) (Q : Exit → Env → World → Prop) : (Env → World → Prop) → Env → World → Prop := fun k e w => wpC pr PP cfg (DD pr) (sub (codeOf Try.f52) [1, 1, 0, 1, 0, 0, 1, 0, 0, 1, 0, 0, 0]) (fun ex e w => normQ ex (fun e' w' => k (Env.restr e' (lookN cfg.loops (keyOf (sub (codeOf Try.f52) [1, 1, 0, 1, 0, 0, 1, 0, 0, 1, 0, 0, 0])))) w') Q e w) e w
def S3 (pr : Prims) (Q : Exit → Env → World → Prop) : (Env → World → Prop) → Env → World → Prop := fun k e w => wpC pr PP cfg (DD pr) (sub (codeOf Try.f52) [1, 1, 0, 1, 0, 0]) (fun ex e w => normQ ex (fun e' w' => k (Env.restr e' (lookN cfg.loops (keyOf (sub (codeOf Try.f52) [1, 1, 0, 1, 0, 0])))) w') Q e w) e w
def B6 (pr : Prims) (list_0 : Sl) (out_3 : Sl) (k_4 : Int) (at_5 : Int) (w : World) (k : Env → World → Prop) (Q : Exit → Env → World → Prop) : Prop :=
  S6 pr Q k (emb6 list_0 out_3 k_4 at_5) w
def L6 (pr : Prims) (list_0 : Sl) (out_3 : Sl) (k_4 : Int) (at_5 : Int) (w : World) (Q : Exit → Env → World → Prop) : Prop :=
  pr.loop (S6 pr Q) (emb6 list_0 out_3 k_4 at_5) w
def B3 (pr : Prims) (list_0 : Sl) (out_3 : Sl) (k_4 : Int) (w : World) (k : Env → World → Prop) (Q : Exit → Env → World → Prop) : Prop :=
  S3 pr Q k (emb3 list_0 out_3 k_4) w
def L3 (pr : Prims) (list_0 : Sl) (out_3 : Sl) (k_4 : Int) (w : World) (Q : Exit → Env → World → Prop) : Prop :=
  pr.loop (S3 pr Q) (emb3 list_0 out_3 k_4) w
def E (pr : Prims) (list_0 : Sl) (w : World) (R : Ending → World → Prop) : Prop :=
  wpC pr PP cfg (DD pr) (codeOf Try.f52) (retQ Try.f52.results.toList R) (argE 0 [Sl.v list_0]) w
theorem B6_eq (pr : Prims) (list_0 : Sl) (out_3 : Sl) (k_4 : Int) (at_5 : Int) (w : World) (k : Env → World → Prop) (Q : Exit → Env → World → Prop) : B6 pr list_0 out_3 k_4 at_5 w k Q = (
  bif decide (at_5 > 0) then (
  pr.idxK 1 list_0 k_4 fun (a8 : Addr) =>
  pr.load1 (.int .i64) a8 w fun (ξ9 : Int) =>
  pr.idxK 1 out_3 (w64 (at_5 - 1)) fun (a10 : Addr) =>
  pr.load1 (.int .i64) a10 w fun (ξ11 : Int) =>
  pr.drewAll w fun ω12 =>
  bif decide (ξ9 < ξ11) then (
  k (emb6 list_0 out_3 k_4 (w64 (at_5 - 1))) ω12)
  else (
  Q (.exit 2) (x2 list_0 out_3 k_4 at_5) ω12))
  else (
  pr.drewAll w fun ω13 =>
  Q (.exit 2) (x2 list_0 out_3 k_4 at_5) ω13)) := by kernel_rfl
theorem B6_s (list_0 : Sl) (out_3 : Sl) (k_4 : Int) (at_5 : Int) (w : World) (k : Env → World → Prop) (Q : Exit → Env → World → Prop) : B6 std list_0 out_3 k_4 at_5 w k Q = (
  bif decide (at_5 > 0) then (
  idxK 1 list_0 k_4 fun (a8 : Addr) =>
  load1 (.int .i64) a8 w fun (ξ9 : Int) =>
  idxK 1 out_3 (w64 (at_5 - 1)) fun (a10 : Addr) =>
  load1 (.int .i64) a10 w fun (ξ11 : Int) =>
  drewAll w fun ω12 =>
  bif decide (ξ9 < ξ11) then (
  k (emb6 list_0 out_3 k_4 (w64 (at_5 - 1))) ω12)
  else (
  Q (.exit 2) (x2 list_0 out_3 k_4 at_5) ω12))
  else (
  drewAll w fun ω13 =>
  Q (.exit 2) (x2 list_0 out_3 k_4 at_5) ω13)) := B6_eq std list_0 out_3 k_4 at_5 w k Q
theorem L6_rule (list_0 : Sl) (out_3 : Sl) (k_4 : Int) (at_5 : Int) (w : World) (Q : Exit → Env → World → Prop) (I : Int → World → Prop) (μ : Int → World → Nat) (h0 : I at_5 w)
    (h : ∀ (at_5 : Int) (w' : World), I at_5 w' → B6 std list_0 out_3 k_4 at_5 w' (fun e2 w2 => ∃ at_5_n, e2 = emb6 list_0 out_3 k_4 at_5_n ∧ I at_5_n w2 ∧ μ at_5_n w2 < μ at_5 w') Q) :
    L6 std list_0 out_3 k_4 at_5 w Q := by
  unfold L6
  refine LoopE.intro (σ := Int) (step := S6 std Q) (fun s => emb6 list_0 out_3 k_4 s) (fun s w => I s w) (fun s w => μ s w) at_5 rfl h0 ?_
  intro s w' hI
  have h1 := h s w' hI
  unfold B6 at h1
  exact h1
theorem A6_2_eq (pr : Prims) (list_0 : Sl) (out_3 : Sl) (k_4 : Int) (at_5 : Int) (w : World) (k : Env → World → Prop) (Q : Exit → Env → World → Prop) : (q7 pr k Q) (.exit 2) (x2 list_0 out_3 k_4 at_5) w = (
  pr.sem1 .sl PP (Instr.buildSlice T_Sint 0 #[]) w fun (ρ14 : Sl) ω15 =>
  pr.cutK 1 out_3 (some at_5) none fun (s16 : Sl) =>
  pr.sem1 .sl PP (Builtin.append_ #[T_Sint, T_Sint] T_Sint #[Sl.v ρ14, Sl.v s16]) ω15 fun (ρ17 : Sl) ω18 =>
  pr.drewAll ω18 fun ω19 =>
  pr.cutK 1 out_3 none (some at_5) fun (s20 : Sl) =>
  pr.idxK 1 list_0 k_4 fun (a21 : Addr) =>
  pr.load1 (.int .i64) a21 ω19 fun (ξ22 : Int) =>
  pr.sem1 .sl PP (Instr.buildSlice T_Sint 1 #[(0, vI ξ22)]) ω19 fun (ρ23 : Sl) ω24 =>
  pr.sem1 .sl PP (Builtin.append_ #[T_Sint, T_Sint] T_Sint #[Sl.v s20, Sl.v ρ23]) ω24 fun (ρ25 : Sl) ω26 =>
  pr.sem1 .sl PP (Builtin.append_ #[T_Sint, T_Sint] T_Sint #[Sl.v ρ25, Sl.v ρ17]) ω26 fun (ρ27 : Sl) ω28 =>
  k (emb3 list_0 ρ27 (w64 (k_4 + 1))) ω28) := by kernel_rfl
theorem A6_2_s (list_0 : Sl) (out_3 : Sl) (k_4 : Int) (at_5 : Int) (w : World) (k : Env → World → Prop) (Q : Exit → Env → World → Prop) : (q7 std k Q) (.exit 2) (x2 list_0 out_3 k_4 at_5) w = (
  sem1 .sl PP (Instr.buildSlice T_Sint 0 #[]) w fun (ρ14 : Sl) ω15 =>
  cutK 1 out_3 (some at_5) none fun (s16 : Sl) =>
  sem1 .sl PP (Builtin.append_ #[T_Sint, T_Sint] T_Sint #[Sl.v ρ14, Sl.v s16]) ω15 fun (ρ17 : Sl) ω18 =>
  drewAll ω18 fun ω19 =>
  cutK 1 out_3 none (some at_5) fun (s20 : Sl) =>
  idxK 1 list_0 k_4 fun (a21 : Addr) =>
  load1 (.int .i64) a21 ω19 fun (ξ22 : Int) =>
  sem1 .sl PP (Instr.buildSlice T_Sint 1 #[(0, vI ξ22)]) ω19 fun (ρ23 : Sl) ω24 =>
  sem1 .sl PP (Builtin.append_ #[T_Sint, T_Sint] T_Sint #[Sl.v s20, Sl.v ρ23]) ω24 fun (ρ25 : Sl) ω26 =>
  sem1 .sl PP (Builtin.append_ #[T_Sint, T_Sint] T_Sint #[Sl.v ρ25, Sl.v ρ17]) ω26 fun (ρ27 : Sl) ω28 =>
  k (emb3 list_0 ρ27 (w64 (k_4 + 1))) ω28) := A6_2_eq std list_0 out_3 k_4 at_5 w k Q
theorem B3_eq (pr : Prims) (list_0 : Sl) (out_3 : Sl) (k_4 : Int) (w : World) (k : Env → World → Prop) (Q : Exit → Env → World → Prop) : B3 pr list_0 out_3 k_4 w k Q = (
  bif decide (k_4 < (list_0.n : Int)) then (
  L6 pr list_0 out_3 k_4 (out_3.n : Int) w (q7 pr k Q))
  else (
  Q (.exit 0) (x0 out_3) w)) := by kernel_rfl
theorem B3_s (list_0 : Sl) (out_3 : Sl) (k_4 : Int) (w : World) (k : Env → World → Prop) (Q : Exit → Env → World → Prop) : B3 std list_0 out_3 k_4 w k Q = (
  bif decide (k_4 < (list_0.n : Int)) then (
  L6 std list_0 out_3 k_4 (out_3.n : Int) w (q7 std k Q))
  else (
  Q (.exit 0) (x0 out_3) w)) := B3_eq std list_0 out_3 k_4 w k Q
theorem L3_rule (list_0 : Sl) (out_3 : Sl) (k_4 : Int) (w : World) (Q : Exit → Env → World → Prop) (I : Sl → Int → World → Prop) (μ : Sl → Int → World → Nat) (h0 : I out_3 k_4 w)
    (h : ∀ (out_3 : Sl) (k_4 : Int) (w' : World), I out_3 k_4 w' → B3 std list_0 out_3 k_4 w' (fun e2 w2 => ∃ out_3_n k_4_n, e2 = emb3 list_0 out_3_n k_4_n ∧ I out_3_n k_4_n w2 ∧ μ out_3_n k_4_n w2 < μ out_3 k_4 w') Q) :
    L3 std list_0 out_3 k_4 w Q := by
  unfold L3
  refine LoopE.intro (σ := Sl × Int) (step := S3 std Q) (fun s => emb3 list_0 s.1 s.2) (fun s w => I s.1 s.2 w) (fun s w => μ s.1 s.2 w) (out_3, k_4) rfl h0 ?_
  intro s w' hI
  have h1 := h s.1 s.2 w' hI
  unfold B3 at h1
  simp only [Prod.exists]
  exact h1
theorem A3_0_eq (pr : Prims) (out_3 : Sl) (w : World) (R : Ending → World → Prop) : (q3 pr R) (.exit 0) (x0 out_3) w = (
  R (.returned (Sl.v out_3)) w) := by kernel_rfl
theorem A3_0_s (out_3 : Sl) (w : World) (R : Ending → World → Prop) : (q3 std R) (.exit 0) (x0 out_3) w = (
  R (.returned (Sl.v out_3)) w) := A3_0_eq std out_3 w R
theorem E_eq (pr : Prims) (list_0 : Sl) (w : World) (R : Ending → World → Prop) : E pr list_0 w R = (
  pr.sem1 .sl PP (Instr.buildSlice T_Sint 0 #[]) w fun (ρ0 : Sl) ω1 =>
  L3 pr list_0 ρ0 0 ω1 (q3 pr R)) := by kernel_rfl
theorem E_s (list_0 : Sl) (w : World) (R : Ending → World → Prop) : E std list_0 w R = (
  sem1 .sl PP (Instr.buildSlice T_Sint 0 #[]) w fun (ρ0 : Sl) ω1 =>
  L3 std list_0 ρ0 0 ω1 (q3 std R)) := E_eq std list_0 w R
theorem drawsOk : drawsOk PP cfg okD (codeOf Try.f52) = true := by kernel_rfl
theorem calls (list_0 : Sl) {w : World} {R : Ending → World → Prop} (h : E std list_0 w R) : Calls PP F.spec_l15Sort #[Sl.v list_0] w R :=
  calls_of noCount mixed drawOk Try.func52 rfl (c := cfg) (args := [Sl.v list_0]) rfl (Nat.le_of_ble_eq_true (by kernel_rfl)) drawsOk h
end spec_l15Sort

end Go.Proofs.Ytlcemelmnkipmaa

/-
  DERIVED: THE SHELF's CONTRACTS AT THIS DUMP, IN PLAIN WORDS (tools/lay-plain.mjs out of 'TryShelf.lean', which tools/lay-shelf.mjs wrote): THE SAME DECLARATIONS UNDER THE SAME NAMES: 'import', 'namespace', 'open', 'def', 'theorem' AND NOTHING ELSE: no command of the shelf's: FOR A HAND-IN. Each laying: the table of numbers ('.._ren') and one theorem, a field a fact of the dump's own or the kernel's comparison; each contract: ONE APPLICATION.
-/
namespace Go.Proofs
open Go.Shelf
def Try.lays189_ren : Go.Shelf.Ren := ⟨fun | 189 => 50 | 125 => 69 | 257 => 68 | 128 => 88 | 129 => 89 | 294 => 79 | 295 => 80 | 296 => 81 | 297 => 82 | 298 => 83 | 299 => 84 | 216 => 85 | 300 => 86 | 301 => 87 | 328 => 95 | 329 => 96 | 330 => 97 | 331 => 98 | 332 => 99 | 215 => 91 | 343 => 102 | n => n, fun | 28 => 24 | 3 => 3 | 46 => 69 | 0 => 0 | 51 => 85 | 53 => 87 | 4 => 4 | 183 => 77 | 182 => 76 | 131 => 82 | 5 => 5 | 9 => 9 | 218 => 91 | 222 => 95 | 228 => 98 | 229 => 99 | n => n, fun | n => n⟩
theorem Try.lays189 : Go.Proofs.Lays.n189 Try.prog Try.lays189_ren := {
  mixed := by kernel_rfl
  f125 := Try.func69.trans (congrArg some (by kernel_rfl))
  f128 := Try.func88.trans (congrArg some (by kernel_rfl))
  f129 := Try.func89.trans (congrArg some (by kernel_rfl))
  f189 := Try.func50.trans (congrArg some (by kernel_rfl))
  f215 := Try.func91.trans (congrArg some (by kernel_rfl))
  f216 := Try.func85.trans (congrArg some (by kernel_rfl))
  f257 := Try.func68.trans (congrArg some (by kernel_rfl))
  f294 := Try.func79.trans (congrArg some (by kernel_rfl))
  f295 := Try.func80.trans (congrArg some (by kernel_rfl))
  f296 := Try.func81.trans (congrArg some (by kernel_rfl))
  f297 := Try.func82.trans (congrArg some (by kernel_rfl))
  f298 := Try.func83.trans (congrArg some (by kernel_rfl))
  f299 := Try.func84.trans (congrArg some (by kernel_rfl))
  f300 := Try.func86.trans (congrArg some (by kernel_rfl))
  f301 := Try.func87.trans (congrArg some (by kernel_rfl))
  f328 := Try.func95.trans (congrArg some (by kernel_rfl))
  f329 := Try.func96.trans (congrArg some (by kernel_rfl))
  f330 := Try.func97.trans (congrArg some (by kernel_rfl))
  f331 := Try.func98.trans (congrArg some (by kernel_rfl))
  f332 := Try.func99.trans (congrArg some (by kernel_rfl))
  f343 := Try.func102.trans (congrArg some (by kernel_rfl))
  t0 := Try.underlying0
  a0 := Try.isAgg0
  z0 := Try.sizeOf0
  v0 := Try.zeroValue0
  t3 := Try.underlying3
  a3 := Try.isAgg3
  z3 := Try.sizeOf3
  v3 := Try.zeroValue3
  t4 := Try.underlying4
  a4 := Try.isAgg4
  z4 := Try.sizeOf4
  v4 := Try.zeroValue4
  t5 := Try.underlying5
  a5 := Try.isAgg5
  z5 := Try.sizeOf5
  v5 := Try.zeroValue5
  t9 := Try.underlying9
  a9 := Try.isAgg9
  z9 := Try.sizeOf9
  v9 := Try.zeroValue9
  t28 := Try.underlying24
  a28 := Try.isAgg24
  z28 := Try.sizeOf24
  v28 := Try.zeroValue24
  t46 := Try.underlying69
  a46 := Try.isAgg69
  z46 := Try.sizeOf69
  v46 := Try.zeroValue69
  t51 := Try.underlying85
  a51 := Try.isAgg85
  z51 := Try.sizeOf85
  v51 := Try.zeroValue85
  t53 := Try.underlying87
  a53 := Try.isAgg87
  z53 := Try.sizeOf87
  v53 := Try.zeroValue87
  t131 := Try.underlying82
  a131 := Try.isAgg82
  z131 := Try.sizeOf82
  v131 := Try.zeroValue82
  t182 := Try.underlying76
  a182 := Try.isAgg76
  z182 := Try.sizeOf76
  v182 := Try.zeroValue76
  t183 := Try.underlying77
  a183 := Try.isAgg77
  z183 := Try.sizeOf77
  v183 := Try.zeroValue77
  t218 := Try.underlying91
  a218 := Try.isAgg91
  z218 := Try.sizeOf91
  v218 := Try.zeroValue91
  t222 := Try.underlying95
  a222 := Try.isAgg95
  z222 := Try.sizeOf95
  v222 := Try.zeroValue95
  t228 := Try.underlying98
  a228 := Try.isAgg98
  z228 := Try.sizeOf98
  v228 := Try.zeroValue98
  t229 := Try.underlying99
  a229 := Try.isAgg99
  z229 := Try.sizeOf99
  v229 := Try.zeroValue99 }
open Go.Sort Go.RowKit in
theorem Try.slices_Sort_int (blk off cap : Nat) (zs : List Int) (w : World) (hH : Holds (Value.int .i64) w blk off zs.toArray) (hblk : blk < w.heap.size) (hsz : zs.length < 4611686018427387904) :
    Calls Try.prog 50 #[.slice (some ⟨blk, off, none⟩) zs.length cap] w fun e w' =>
      e = .returned (.tuple #[]) ∧ ∃ n os, w' = grow (putRow (Value.int .i64) (Sort.ahead w n) blk off (zs.mergeSort fun x y => decide (x ≤ y)).toArray) os := Any.slices_Sort_int Try.lays189 blk off cap zs w hH hblk hsz
open Go.RowKit Go.Sort in
/-- .. and plain. (LAID: no walk: one application.) -/
theorem Try.slices_Sort_int_none (p : Option Addr) (cap : Nat) (w : World) :
    Calls Try.prog 50 #[.slice p 0 cap] w fun e w' => e = .returned (.tuple #[]) ∧ w' = w := Any.slices_Sort_int_none Try.lays189 p cap w
end Go.Proofs

/- slices.Sort at []int: the shelf's contract in this proof's words. -/
namespace Go.Proofs.Ytlcemelmnkipmaa
open Go Go.RowKit
set_option maxRecDepth 100000

def sortI (L : List Int) : List Int := L.mergeSort fun x y => decide (x ≤ y)
theorem sortI_length (L : List Int) : (sortI L).length = L.length := List.length_mergeSort L
theorem sortI_perm (L : List Int) : (sortI L).Perm L := List.mergeSort_perm L _
theorem sortI_sorted (L : List Int) : (sortI L).Pairwise (· ≤ ·) := by
  have := List.pairwise_mergeSort (le := fun x y : Int => decide (x ≤ y)) (fun a b c h1 h2 => by simp at h1 h2 ⊢; omega) (fun a b => by simp; omega) L
  exact this.imp fun h => by simpa using h
theorem c_Sort {w : World} {B : Nat} {s : Sl} {L : List Int} (h : OwnI w B s L) (hL : L.length < 2^40) {K : World → Prop} (hk : ∀ w', OwnI w' B s (sortI L) → w.grownBy w' s.blk → K w') :
    call0 PP F.slices_Sort___int_int_ #[s.v] w K := by
  have hn : s.n = L.length := by have := h.n; simpa using this
  have hnc := h.nc
  have hcm := h.cm
  rcases h.at_ with hc | ⟨g, cur, ha, hBg, hg, hsz, ht⟩
  · have h0 : L.length = 0 := by omega
    obtain rfl : L = [] := List.eq_nil_of_length_eq_zero h0
    have e : s.v = .slice s.a 0 s.c := by rw [Sl.v, hn]; rfl
    rw [e]
    refine (Try.slices_Sort_int_none s.a s.c w).mono ?_
    rintro e w' ⟨rfl, rfl⟩
    exact ⟨rfl, hk _ (by simpa [sortI] using h) ⟨rfl, rfl, rfl, Nat.le_refl _, fun _ _ _ => rfl⟩⟩
  · have hglt : g < w.heap.size := (Array.getElem?_eq_some_iff.1 hg).1
    have e : s.v = .slice (some ⟨g, 0, none⟩) L.length s.c := by rw [Sl.v, hn, ha]
    rw [e]
    rw [hn] at ht
    refine (Try.slices_Sort_int g 0 s.c L w (holds_of_blockI hg ht) hglt (by omega)).mono ?_
    rintro e w' ⟨rfl, n, os, rfl⟩
    have hl : (sortI L).length = L.length := sortI_length L
    refine ⟨rfl, hk _ ⟨by rw [List.length_map, hl, hn], hnc, hcm, .inr ⟨g, _, ha, hBg, heap_sortedI _ hg, by simp [Go.Sort.putCells, hsz], ?_⟩⟩ ?_⟩
    · rw [hn, ← hl]
      exact take_putCellsI cur (sortI L) (by omega)
    · by_cases hc0 : s.c = 0
      · have : L.length = 0 := by omega
        obtain rfl : L = [] := List.eq_nil_of_length_eq_zero this
        have hb : s.blk = none := by rw [Sl.blk, if_pos hc0]
        rw [hb]
        refine ⟨rfl, rfl, rfl, by simp, fun k hk _ => ?_⟩
        rw [Go.Sort.heap_grow_old _ _ (by simpa using hk)]
        by_cases e : k = g
        · subst e
          have := heap_sortedI (n := n) (os := os) (#[] : Array Int) hg
          rw [Go.Sort.heap_grow_old _ _ (by simpa using hk)] at this
          have h5 : ([] : List Int).mergeSort (fun x y => decide (x ≤ y)) = [] := by simp
          rw [h5, this, hg]
          congr 1
          have : cur = #[] := Array.eq_empty_of_size_eq_zero (by omega)
          subst this
          rfl
        · have := (grownBy_sortedI (w := w) (g := g) (n := n) (os := os) (([] : List Int).mergeSort fun x y => decide (x ≤ y)).toArray).block k hk (fun e2 => e (by simpa using e2))
          rw [Go.Sort.heap_grow_old _ _ (by simpa using hk)] at this
          exact this
      · have hb : s.blk = some g := by rw [Sl.blk, if_neg hc0, ha]; rfl
        rw [hb]
        exact grownBy_sortedI _
end Go.Proofs.Ytlcemelmnkipmaa

/- The model text's insertion sort. -/
namespace Go.Proofs.Ytlcemelmnkipmaa
open Go Go.RowKit
set_option maxRecDepth 100000

def insAt (O : List Int) (x : Int) (k : Nat) : List Int := O.take k ++ [x] ++ O.drop k
theorem insAt_perm (O : List Int) (x : Int) (k : Nat) : (insAt O x k).Perm (O ++ [x]) := by
  unfold insAt
  have h1 : (O.take k ++ [x] ++ O.drop k).Perm (O.take k ++ (O.drop k ++ [x])) := by
    rw [List.append_assoc]
    exact List.Perm.append_left _ List.perm_append_comm
  rw [← List.append_assoc, List.take_append_drop] at h1
  exact h1
theorem insAt_sorted {O : List Int} {x : Int} {k : Nat} (hk : k ≤ O.length) (hs : O.Pairwise (· ≤ ·)) (h1 : ∀ j, k ≤ j → j < O.length → x < O.getD j 0) (h2 : k = 0 ∨ O.getD (k - 1) 0 ≤ x) : (insAt O x k).Pairwise (· ≤ ·) := by
  have hg : ∀ i j, i ≤ j → j < O.length → O.getD i 0 ≤ O.getD j 0 := fun i j hij hj => by
    by_cases e : i = j
    · subst e; omega
    · have := List.pairwise_iff_getElem.1 hs i j (by omega) hj (by omega)
      rwa [getD_lt (by omega), getD_lt hj]
  have ht : ∀ a ∈ O.take k, a ≤ x := fun a ha => by
    obtain ⟨i, hi, rfl⟩ := List.getElem_of_mem ha
    rw [List.length_take] at hi
    rw [List.getElem_take]
    rcases h2 with h2 | h2
    · omega
    · have := hg i (k - 1) (by omega) (by omega)
      rw [getD_lt (by omega)] at this
      omega
  have hd : ∀ b ∈ O.drop k, x ≤ b := fun b hb => by
    obtain ⟨i, hi, rfl⟩ := List.getElem_of_mem hb
    rw [List.length_drop] at hi
    rw [List.getElem_drop]
    have := h1 (k + i) (by omega) (by omega)
    rw [getD_lt (by omega)] at this
    omega
  have hs' : (O.take k ++ O.drop k).Pairwise (· ≤ ·) := by rw [List.take_append_drop]; exact hs
  rw [List.pairwise_append] at hs'
  unfold insAt
  rw [List.append_assoc, List.pairwise_append]
  refine ⟨hs'.1, ?_, fun a ha b hb => ?_⟩
  · rw [List.singleton_append, List.pairwise_cons]
    exact ⟨hd, hs'.2.1⟩
  · rcases List.mem_append.1 hb with hb | hb
    · have : b = x := by simpa using hb
      rw [this]; exact ht a ha
    · exact hs'.2.2 a ha b hb
theorem sortI_eq {L O : List Int} (hp : O.Perm L) (hs : O.Pairwise (· ≤ ·)) : O = sortI L :=
  List.Perm.eq_of_pairwise (fun a b _ _ h1 h2 => Int.le_antisymm h1 h2) hs (sortI_sorted L) (hp.trans (sortI_perm L).symm)
theorem c_l15Sort {w : World} {a : Sl} {L : List Int} (ha : RowI w a L) (hL : L.length < 2^38) :
    Calls PP F.spec_l15Sort #[a.v] w fun e w' => ∃ s : Sl, e = .returned s.v ∧ OwnI w' w.heap.size s (sortI L) ∧ Below w.heap.size w w' := by
  have han : a.n = L.length := by have := ha.n; simpa using this
  refine spec_l15Sort.calls a ?_
  rw [spec_l15Sort.E_s]
  refine lit0 oneInt (B := w.heap.size) (Nat.le_refl _) ?_
  intro o w1 ho hg1 _
  have hb1 := below_of_grow hg1
  refine spec_l15Sort.L3_rule _ _ _ _ _ (I := fun o k w' => 0 ≤ k ∧ k ≤ L.length ∧ Below w.heap.size w w' ∧ ∃ O : List Int, OwnI w' w.heap.size o O ∧ O.Perm (L.take k.toNat) ∧ O.Pairwise (· ≤ ·)) (μ := fun _ k _ => (L.length - k).toNat)
    ⟨by omega, by omega, hb1, [], by simpa [OwnI] using ho, by simp, List.Pairwise.nil⟩ ?_
  rintro o k w2 ⟨hk0, hk, hb2, O, ho, hp, hs⟩
  have hOl : O.length = k.toNat := by rw [hp.length_eq, List.length_take]; omega
  have hon : o.n = O.length := by have := ho.n; simpa using this
  rw [spec_l15Sort.B3_s, han]
  refine bif_dec (fun h3 => ?_) (fun h3 => ?_)
  · have hlt : k.toNat < L.length := by omega
    rw [hon]
    have fin : ∀ (at_ : Int) (w3 : World), 0 ≤ at_ → at_ ≤ O.length → Drew w2 w3 → (∀ j, at_.toNat ≤ j → j < O.length → L[k.toNat] < O.getD j 0) → (at_ = 0 ∨ O.getD (at_.toNat - 1) 0 ≤ L[k.toNat]) →
        ∀ Q, spec_l15Sort.q7 std (fun e2 w2' => ∃ out_3_n k_4_n, e2 = spec_l15Sort.emb3 a out_3_n k_4_n ∧ (0 ≤ k_4_n ∧ k_4_n ≤ L.length ∧ Below w.heap.size w w2' ∧ ∃ O : List Int, OwnI w2' w.heap.size out_3_n O ∧ O.Perm (L.take k_4_n.toNat) ∧ O.Pairwise (· ≤ ·)) ∧ (L.length - k_4_n).toNat < (L.length - k).toNat) Q (.exit 2) (spec_l15Sort.x2 a o k at_) w3 := by
      intro at_ w3 h0 h1 hd hgt hle Q
      rw [spec_l15Sort.A6_2_s]
      have hb3 := hb2.trans (hd.below _)
      have ho3 := ho.heap hd.heap'
      refine lit0 oneInt (B := w3.heap.size) (Nat.le_refl _) ?_
      intro r w4 hr hg4 _
      have hb34 := below_of_grow hg4
      have hb4 := hb3.trans (hb34.mono hb3.size)
      have ho4 := Own.grow ho3 hb34
      refine Row.cut ho4.row (by simpa using h0) (by simp <;> omega) (by simp <;> omega) fun s16 hs16 => ?_
      have e2 : (List.take ((none : Option Int).getD (o.n : Int)).toNat (O.map vI)).drop ((some at_).getD 0).toNat = (O.drop at_.toNat).map vI := by
        rw [hon]; simp [List.map_drop, List.take_of_length_le]
      rw [e2] at hs16
      refine append_row oneInt hr (by have := hb34.size; omega) hs16 (fun v hv => by obtain ⟨x, _, rfl⟩ := List.mem_map.1 hv; exact One.int x) (by simp; omega) ?_
      intro r2 w5 hr2 hg5 _ _
      rw [List.nil_append] at hr2
      have hb35 := hb34.grown hg5 hb34.size (fun g hg => (hr.lt g hg).1)
      have hb5 := hb3.trans (hb35.mono hb3.size)
      have ho5 := Own.grow ho3 hb35
      refine drew_intro fun w6 hd6 => ?_
      have hb36 := hb35.trans ((hd6.below _).mono hb35.size)
      have hb6 := hb3.trans (hb36.mono hb3.size)
      have ho6 := Own.heap ho5 hd6.heap'
      have hr6 := Own.heap hr2 hd6.heap'
      refine Own.pop ho6 h0 (by rw [List.length_map]; omega) fun s20 hs20 hblk => ?_
      refine RowI.get (ha.grow hb6) hk0 (by omega) ?_
      rw [getD_lt hlt]
      rw [← List.map_take] at hs20
      have hs20 : OwnI w6 w.heap.size s20 (O.take at_.toNat) := hs20
      refine append_int hs20 hb6.size (by rw [List.length_take]; omega) ?_
      intro o7 w7 ho7 hg7 hn7
      have hb67 : Below w.heap.size w w7 := hb6.grown hg7 hb6.size (fun g hg => (hs20.lt g hg).1)
      have hlt3 : ∀ g, o.blk = some g → g < w3.heap.size := fun g hg => (ho3.lt g hg).2
      have hr7 : Own w7 w3.heap.size T_int r2 ((O.drop at_.toNat).map vI) := Own.keeps hr6 (keeps_grown hg7) (fun g hg hg2 => by
        rw [hblk] at hg2; have := hlt3 g hg2; have := (hr6.lt g hg).1; omega)
      refine append_row oneInt ho7 hb67.size hr7.row (fun v hv => by obtain ⟨x, _, rfl⟩ := List.mem_map.1 hv; exact One.int x) (by simp; omega) ?_
      intro o8 w8 ho8 hg8 _ _
      rw [← List.map_append] at ho8
      have ek : (k + 1).toNat = k.toNat + 1 := by omega
      refine ⟨o8, k + 1, by rw [w64_succ hk0 (by omega)], ⟨by omega, by omega, hb67.grown hg8 hb67.size (fun g hg => (ho7.lt g hg).1), insAt O L[k.toNat] at_.toNat, ho8, ?_, ?_⟩, by omega⟩
      · rw [ek, List.take_succ_eq_append_getElem hlt]
        exact (insAt_perm O _ _).trans (List.Perm.append_right _ hp)
      · exact insAt_sorted (by omega) hs hgt (by rcases hle with h | h; · left; omega
                                                 · right; exact h)
    refine spec_l15Sort.L6_rule _ _ _ _ _ _ (I := fun at_ w3 => 0 ≤ at_ ∧ at_ ≤ O.length ∧ Drew w2 w3 ∧ ∀ j, at_.toNat ≤ j → j < O.length → L[k.toNat] < O.getD j 0) (μ := fun at_ _ => at_.toNat)
      ⟨by omega, by omega, ⟨0, rfl⟩, fun j hj1 hj2 => by omega⟩ ?_
    rintro at_ w3 ⟨h0, h1, hd, hgt⟩
    rw [spec_l15Sort.B6_s]
    have hb3 := hb2.trans (hd.below _)
    have ho3 := ho.heap hd.heap'
    refine bif_dec (fun h4 => ?_) (fun h4 => ?_)
    · refine RowI.get (ha.grow hb3) hk0 (by omega) ?_
      rw [getD_lt hlt]
      have e1 : w64 (at_ - 1) = at_ - 1 := w64_id (by omega) (by omega)
      rw [e1]
      refine RowI.get (Own.row ho3) (by omega) (by omega) ?_
      refine drew_intro fun w4 hd4 => ?_
      have en : (at_ - 1).toNat = at_.toNat - 1 := by omega
      rw [en]
      refine bif_dec (fun h5 => ?_) (fun h5 => ?_)
      · refine ⟨at_ - 1, rfl, ⟨by omega, by omega, hd.trans hd4, fun j hj1 hj2 => ?_⟩, by omega⟩
        by_cases e : j = at_.toNat - 1
        · subst e; exact h5
        · exact hgt j (by omega) hj2
      · exact fin at_ w4 h0 h1 (hd.trans hd4) hgt (.inr (by omega)) _
    · refine drew_intro fun w4 hd4 => ?_
      exact fin at_ w4 h0 h1 (hd.trans hd4) hgt (.inl (by omega)) _
  · rw [spec_l15Sort.A3_0_s]
    rw [show k.toNat = L.length by omega, List.take_length] at hp
    rw [sortI_eq hp hs] at ho
    exact ⟨o, rfl, ho, hb2⟩
end Go.Proofs.Ytlcemelmnkipmaa

/- The rests: what both texts compute, as lists. -/
namespace Go.Proofs.Ytlcemelmnkipmaa
open Go
set_option maxRecDepth 100000

def nonL (L : List Int) : Nat → List Int
  | 0 => []
  | k + 1 => if isLow L k = true then nonL L k else nonL L k ++ [L.getD k 0]
def lastLow (L : List Int) : Nat → Int
  | 0 => 0
  | k + 1 => if isLow L k = true then L.getD k 0 else lastLow L k
def stR (pk : List Int → Int → Nat) (L : List Int) : Nat → List Int
  | 0 => sortI (nonL L L.length)
  | k + 1 => if isLow L k = true then stR pk L k else (stR pk L k).eraseIdx (pk (stR pk L k) (lastLow L k))
def stO (pk : List Int → Int → Nat) (L : List Int) : Nat → List Int
  | 0 => []
  | k + 1 => stO pk L k ++ [if isLow L k = true then L.getD k 0 else (stR pk L k).getD (pk (stR pk L k) (lastLow L k)) 0]
def PkOk (pk : List Int → Int → Nat) (L : List Int) : Prop := ∀ k, k < L.length → isLow L k = false → pk (stR pk L k) (lastLow L k) < (stR pk L k).length
theorem stO_length (pk : List Int → Int → Nat) (L : List Int) : ∀ k, (stO pk L k).length = k
  | 0 => rfl
  | k + 1 => by simp [stO, stO_length pk L k]
theorem nonL_prefix (L : List Int) : ∀ {n k : Nat}, k ≤ n → ∃ M, nonL L n = nonL L k ++ M
  | 0, k, h => ⟨[], by have : k = 0 := by omega
                       subst this; simp⟩
  | n + 1, k, h => by
    by_cases e : k = n + 1
    · subst e; exact ⟨[], by simp⟩
    · obtain ⟨M, hM⟩ := nonL_prefix L (n := n) (k := k) (by omega)
      rw [nonL]
      split
      · exact ⟨M, hM⟩
      · exact ⟨M ++ [L.getD n 0], by rw [hM, List.append_assoc]⟩
theorem nonL_le (L : List Int) {n k : Nat} (h : k ≤ n) : (nonL L k).length ≤ (nonL L n).length := by
  obtain ⟨M, hM⟩ := nonL_prefix L h
  rw [hM, List.length_append]; omega
theorem nonL_len (L : List Int) : ∀ k, (nonL L k).length ≤ k
  | 0 => by simp [nonL]
  | k + 1 => by
    have := nonL_len L k
    rw [nonL]
    split
    · omega
    · rw [List.length_append, List.length_singleton]; omega
theorem mem_nonL {L : List Int} : ∀ {k : Nat} {x : Int}, x ∈ nonL L k → ∃ j, j < k ∧ isLow L j = false ∧ x = L.getD j 0
  | 0, x, h => by simp [nonL] at h
  | k + 1, x, h => by
    rw [nonL] at h
    split at h
    · obtain ⟨j, h1, h2, h3⟩ := mem_nonL h
      exact ⟨j, by omega, h2, h3⟩
    · rename_i h5
      rcases List.mem_append.1 h with h | h
      · obtain ⟨j, h1, h2, h3⟩ := mem_nonL h
        exact ⟨j, by omega, h2, h3⟩
      · exact ⟨k, by omega, by simpa using h5, by simpa using h⟩
theorem isLow_zero (L : List Int) : isLow L 0 = true := isLow_iff.2 fun j hj => by omega
theorem nonlow_ex {L : List Int} {k : Nat} (h : isLow L k = false) : ∃ j, j < k ∧ L.getD j 0 < L.getD k 0 := by
  apply Classical.byContradiction
  intro hc
  have : isLow L k = true := isLow_iff.2 fun j hj hlt => hc ⟨j, hj, hlt⟩
  rw [this] at h; cases h
theorem lastLow_le {L : List Int} : ∀ {k i : Nat}, i < k → lastLow L k ≤ L.getD i 0
  | k + 1, i, h => by
    rw [lastLow]
    split
    · rename_i h5
      by_cases e : i = k
      · subst e; omega
      · have := isLow_iff.1 h5 i (by omega); omega
    · rename_i h5
      by_cases e : i = k
      · subst e
        obtain ⟨j, hj, hlt⟩ := nonlow_ex (by simpa using h5)
        have := lastLow_le (L := L) hj; omega
      · exact lastLow_le (by omega)
theorem lastLow_at {L : List Int} : ∀ {k : Nat}, 1 ≤ k → ∃ i, i < k ∧ isLow L i = true ∧ lastLow L k = L.getD i 0
  | k + 1, _ => by
    rw [lastLow]
    split
    · rename_i h5; exact ⟨k, by omega, h5, rfl⟩
    · rename_i h5
      have : 1 ≤ k := by
        rcases Nat.eq_zero_or_pos k with e | e
        · subst e; exact absurd (isLow_zero L) h5
        · exact e
      obtain ⟨i, h1, h2, h3⟩ := lastLow_at this
      exact ⟨i, by omega, h2, h3⟩
theorem stR_len {pk : List Int → Int → Nat} {L : List Int} : ∀ k, (∀ j, j < k → isLow L j = false → pk (stR pk L j) (lastLow L j) < (stR pk L j).length) → (stR pk L k).length + (nonL L k).length = (nonL L L.length).length
  | 0, _ => by simp [stR, nonL, sortI_length]
  | k + 1, h => by
    have ih := stR_len k (fun j hj => h j (by omega))
    rw [stR, nonL]
    split
    · exact ih
    · rename_i h5
      have := h k (by omega) (by simpa using h5)
      rw [List.length_eraseIdx, if_pos this, List.length_append, List.length_singleton]
      omega
theorem stR_sub {pk : List Int → Int → Nat} {L : List Int} : ∀ {k : Nat} {x : Int}, x ∈ stR pk L k → x ∈ nonL L L.length
  | 0, x, h => (sortI_perm _).mem_iff.1 h
  | k + 1, x, h => by
    rw [stR] at h
    split at h
    · exact stR_sub h
    · exact stR_sub (List.mem_of_mem_eraseIdx h)
theorem stR_sorted {pk : List Int → Int → Nat} {L : List Int} : ∀ k, (stR pk L k).Pairwise (· ≤ ·)
  | 0 => sortI_sorted _
  | k + 1 => by
    rw [stR]
    split
    · exact stR_sorted k
    · exact (stR_sorted k).sublist (List.eraseIdx_sublist _ _)
def pkD (R : List Int) (_ : Int) : Nat := R.length - 1
def pkN (R : List Int) (low : Int) : Nat := R.findIdx fun v => decide (v > low)
theorem pkOk_of {pk : List Int → Int → Nat} {L : List Int} (h : ∀ k, k < L.length → isLow L k = false → (∀ j, j < k → isLow L j = false → pk (stR pk L j) (lastLow L j) < (stR pk L j).length) → pk (stR pk L k) (lastLow L k) < (stR pk L k).length) : PkOk pk L := by
  have : ∀ n k, k < n → k < L.length → isLow L k = false → pk (stR pk L k) (lastLow L k) < (stR pk L k).length := by
    intro n
    induction n with
    | zero => intro k hk; omega
    | succ n ih => exact fun k hk hkL hl => h k hkL hl fun j hj hjl => ih j (by omega) (by omega) hjl
  exact fun k hk hl => this (k + 1) k (by omega) hk hl
theorem nonL_lt {L : List Int} {k : Nat} (hk : k < L.length) (hl : isLow L k = false) : (nonL L k).length + 1 ≤ (nonL L L.length).length := by
  have := nonL_le L (n := L.length) (k := k + 1) (by omega)
  rw [nonL, if_neg (by rw [hl]; simp), List.length_append, List.length_singleton] at this
  omega
theorem pkOk_D (L : List Int) : PkOk pkD L := pkOk_of fun k hk hl hj => by
  have h1 := stR_len k hj
  have h2 := nonL_lt hk hl
  unfold pkD
  unfold pkD at h1
  omega
theorem countP_eraseIdx (p : Int → Bool) : ∀ (l : List Int) (i : Nat), l.countP p ≤ (l.eraseIdx i).countP p + 1
  | [], i => by simp
  | x :: r, 0 => by
    rw [List.eraseIdx_cons_zero, List.countP_cons]; split <;> omega
  | x :: r, i + 1 => by
    have := countP_eraseIdx p r i
    rw [List.eraseIdx_cons_succ, List.countP_cons, List.countP_cons]; omega
theorem stR_count {pk : List Int → Int → Nat} {L : List Int} (p : Int → Bool) : ∀ k, (nonL L L.length).countP p ≤ (stR pk L k).countP p + (nonL L k).length
  | 0 => by rw [stR, nonL, (sortI_perm _).countP_eq]; simp
  | k + 1 => by
    have ih := stR_count (pk := pk) (L := L) p k
    rw [stR, nonL]
    split
    · exact ih
    · have := countP_eraseIdx p (stR pk L k) (pk (stR pk L k) (lastLow L k))
      rw [List.length_append, List.length_singleton]; omega
theorem greater_ex {pk : List Int → Int → Nat} {L : List Int} {k : Nat} (hk : k < L.length) (hl : isLow L k = false) : ∃ v ∈ stR pk L k, v > lastLow L k := by
  have h1 := stR_count (pk := pk) (L := L) (fun v => decide (v > lastLow L k)) k
  obtain ⟨M, hM⟩ := nonL_prefix L (n := L.length) (k := k + 1) (by omega)
  have h2 : (nonL L (k + 1)).countP (fun v => decide (v > lastLow L k)) = (nonL L (k + 1)).length := by
    rw [List.countP_eq_length]
    intro x hx
    obtain ⟨j, hj, hjl, rfl⟩ := mem_nonL hx
    obtain ⟨i, hi, hlt⟩ := nonlow_ex hjl
    have := lastLow_le (L := L) (k := k) (i := i) (by omega)
    simp only [gt_iff_lt, decide_eq_true_eq]; omega
  rw [hM, List.countP_append, h2] at h1
  rw [nonL, if_neg (by rw [hl]; simp), List.length_append, List.length_singleton] at h1
  have h3 : 0 < (stR pk L k).countP (fun v => decide (v > lastLow L k)) := by omega
  obtain ⟨v, hv, hp⟩ := List.countP_pos_iff.1 h3
  exact ⟨v, hv, by simpa using hp⟩
theorem pkOk_N (L : List Int) : PkOk pkN L := fun k hk hl => by
  obtain ⟨v, hv, hp⟩ := greater_ex (pk := pkN) hk hl
  exact List.findIdx_lt_length.2 ⟨v, hv, by simpa using hp⟩
theorem low_notin {pk : List Int → Int → Nat} {L : List Int} (h : IsP L) {k : Nat} (hk : k < L.length) (hl : isLow L k = false) : lastLow L k ∉ stR pk L k := by
  intro hm
  have h0 : 1 ≤ k := by
    rcases Nat.eq_zero_or_pos k with e | e
    · subst e; rw [isLow_zero] at hl; cases hl
    · exact e
  obtain ⟨i, hi, hil, he⟩ := lastLow_at (L := L) h0
  obtain ⟨j, hj, hjl, he2⟩ := mem_nonL (stR_sub hm)
  rw [he] at he2
  have hn := h.nodup
  have : i = j := by
    rw [getD_lt (by omega), getD_lt hj] at he2
    exact (List.getElem_inj hn).1 he2
  subst this
  rw [hil] at hjl; cases hjl
end Go.Proofs.Ytlcemelmnkipmaa

/- What each function does, step by step, written by a program (Gen.lean); each equation is checked by the kernel. -/
namespace Go.Proofs.Ytlcemelmnkipmaa
open Go
set_option linter.unusedVariables false
set_option maxRecDepth 100000
namespace slices_Delete___int_int_
@[reducible] def cfg : Cfg := ⟨33, [], [], [], [6], [], [29, 12, 74, 34, 92, 23, 62, 26, 37, 94], [72, 85, 91, 22, 40, 4, 43]⟩
def E (pr : Prims) (s_0 : Sl) (i_1 : Int) (j_2 : Int) (w : World) (R : Ending → World → Prop) : Prop :=
  wpC pr PP cfg (DD pr) (codeOf Try.f51) (retQ Try.f51.results.toList R) (argE 0 [Sl.v s_0, vI i_1, vI j_2]) w
theorem E_eq (pr : Prims) (s_0 : Sl) (i_1 : Int) (j_2 : Int) (w : World) (R : Ending → World → Prop) : E pr s_0 i_1 j_2 w R = (
  pr.cut3K 1 s_0 (some i_1) j_2 (s_0.n : Int) fun (s0 : Sl) =>
  bif i_1 == j_2 then (
  R (.returned (Sl.v s_0)) w)
  else (
  pr.drewAll w fun ω1 =>
  pr.cutK 1 s_0 none (some i_1) fun (s2 : Sl) =>
  pr.cutK 1 s_0 (some j_2) none fun (s3 : Sl) =>
  pr.sem1 .sl PP (Builtin.append_ #[T_Sint, T_Sint] T_Sint #[Sl.v s2, Sl.v s3]) ω1 fun (ρ4 : Sl) ω5 =>
  pr.cutK 1 ρ4 (some (ρ4.n : Int)) (some (s_0.n : Int)) fun (s6 : Sl) =>
  pr.sem1 .any PP (Builtin.clear_ #[T_Sint] T___ #[Sl.v s6]) ω5 fun (ρ7 : Value) ω8 =>
  R (.returned (Sl.v ρ4)) ω8)) := by kernel_rfl
theorem E_s (s_0 : Sl) (i_1 : Int) (j_2 : Int) (w : World) (R : Ending → World → Prop) : E std s_0 i_1 j_2 w R = (
  cut3K 1 s_0 (some i_1) j_2 (s_0.n : Int) fun (s0 : Sl) =>
  bif i_1 == j_2 then (
  R (.returned (Sl.v s_0)) w)
  else (
  drewAll w fun ω1 =>
  cutK 1 s_0 none (some i_1) fun (s2 : Sl) =>
  cutK 1 s_0 (some j_2) none fun (s3 : Sl) =>
  sem1 .sl PP (Builtin.append_ #[T_Sint, T_Sint] T_Sint #[Sl.v s2, Sl.v s3]) ω1 fun (ρ4 : Sl) ω5 =>
  cutK 1 ρ4 (some (ρ4.n : Int)) (some (s_0.n : Int)) fun (s6 : Sl) =>
  sem1 .any PP (Builtin.clear_ #[T_Sint] T___ #[Sl.v s6]) ω5 fun (ρ7 : Value) ω8 =>
  R (.returned (Sl.v ρ4)) ω8)) := E_eq std s_0 i_1 j_2 w R
theorem drawsOk : drawsOk PP cfg okD (codeOf Try.f51) = true := by kernel_rfl
theorem calls (s_0 : Sl) (i_1 : Int) (j_2 : Int) {w : World} {R : Ending → World → Prop} (h : E std s_0 i_1 j_2 w R) : Calls PP F.slices_Delete___int_int_ #[Sl.v s_0, vI i_1, vI j_2] w R :=
  calls_of noCount mixed drawOk Try.func51 rfl (c := cfg) (args := [Sl.v s_0, vI i_1, vI j_2]) rfl (Nat.le_of_ble_eq_true (by kernel_rfl)) drawsOk h
end slices_Delete___int_int_

end Go.Proofs.Ytlcemelmnkipmaa

/- The library's Delete of one element of a row of ints that the call owns. -/
namespace Go.Proofs.Ytlcemelmnkipmaa
open Go Go.RowKit
set_option maxRecDepth 100000

theorem keepsTrans {a b c : World} {r : Option Nat} (h : a.grownBy b r) (k : b.grownBy c r) : a.grownBy c r :=
  ⟨k.os.trans h.os, k.tape.trans h.tape, k.output.trans h.output, Nat.le_trans h.size k.size, fun x hx hne => (k.block x (Nat.lt_of_lt_of_le hx h.size) hne).trans (h.block x hx hne)⟩
theorem c_Delete {w : World} {B : Nat} {s : Sl} {L : List Int} (h : OwnI w B s L) (hB : B ≤ w.heap.size) (hL : L.length < 2^38) {i : Int} (h0 : 0 ≤ i) (hi : i < L.length) :
    Calls PP F.slices_Delete___int_int_ #[s.v, vI i, vI (i + 1)] w fun e w' => ∃ s' : Sl, e = .returned s'.v ∧ OwnI w' B s' (L.take i.toNat ++ L.drop (i.toNat + 1)) ∧ w.grownBy w' s.blk ∧ Next w s s' := by
  have hsn : s.n = L.length := by have := h.n; simpa using this
  have hnc := h.nc
  refine slices_Delete___int_int_.calls s i (i + 1) ?_
  rw [slices_Delete___int_int_.E_s]
  refine ⟨by simpa using h0, by simp; omega, by omega, by omega, ?_⟩
  refine bif_f (by simp; omega) ?_
  refine drew_intro fun w1 hd => ?_
  have h1 : OwnI w1 B s L := h.heap hd.heap'
  refine Own.popE h1 h0 (by simp; omega) fun hs2 => ?_
  refine Row.cut h1.row (lo := some (i + 1)) (hi := none) (by simp; omega) (by simp; omega) (by simp; omega) ?_
  intro s3 hs3
  have e3 : (List.take ((none : Option Int).getD (s.n : Int)).toNat (L.map vI)).drop ((some (i + 1)).getD 0).toNat = (L.drop (i.toNat + 1)).map vI := by
    simp only [Option.getD_none, Option.getD_some, Int.toNat_natCast]
    rw [List.take_of_length_le (by simp; omega), List.map_drop, show (i + 1).toNat = i.toNat + 1 by omega]
  rw [e3] at hs3
  have e2 : (L.map vI).take i.toNat = (L.take i.toNat).map vI := by rw [List.map_take]
  rw [e2] at hs2
  have hsz : w1.heap.size = w.heap.size := by rw [hd.heap']
  have hlen : (List.map vI (List.take i.toNat L) ++ List.map vI (List.drop (i.toNat + 1) L)).length + 1 = L.length := by simp; omega
  refine append_room oneInt hs2 (by omega) hs3 (fun v hv => by obtain ⟨x, _, rfl⟩ := List.mem_map.1 hv; exact One.int x) (by simp; omega) (by simp only [List.length_map, List.length_take, List.length_drop]; omega) ?_
  intro s4 w4 hs4 hg4 hn4 hc4
  simp only at hc4
  refine clear_spare hs4 (by omega) (by omega) ?_
  intro r w5 hs5 hg5 _
  have hblk2 : ∀ g, (⟨s.a, i.toNat, s.c⟩ : Sl).blk = some g ↔ s.blk = some g := fun g => by simp [Sl.blk]
  have eblk : (⟨s.a, i.toNat, s.c⟩ : Sl).blk = s.blk := by simp [Sl.blk]
  rw [eblk] at hg4
  have hw4 : w.grownBy w4 s.blk := ⟨hg4.os.trans (hd.below 0).os, hg4.tape.trans (hd.below 0).tape, hg4.output.trans (hd.below 0).output, by have := hg4.size; omega, fun x hx hne => by rw [hg4.block x (by omega) hne, hd.heap']⟩
  refine ⟨s4, rfl, by simpa [OwnI] using hs5, ⟨hg5.os.trans hw4.os, hg5.tape.trans hw4.tape, hg5.output.trans hw4.output, Nat.le_trans hw4.size hg5.size, fun x hx hne => ?_⟩, fun g hg => ?_⟩
  · rw [hg5.block x (Nat.lt_of_lt_of_le hx hw4.size) (fun e => ?_), hw4.block x hx hne]
    rcases hn4 x e.symm with h6 | h6
    · rw [eblk] at h6; exact hne h6.symm
    · omega
  · rcases hn4 g hg with h6 | h6
    · rw [eblk] at h6; exact .inl h6
    · exact .inr (by omega)
end Go.Proofs.Ytlcemelmnkipmaa

/- What each function does, step by step, written by a program (Gen.lean); each equation is checked by the kernel. -/
namespace Go.Proofs.Ytlcemelmnkipmaa
open Go
set_option linter.unusedVariables false
set_option maxRecDepth 100000
namespace slices_IndexFunc___int_int_
@[reducible] def cfg : Cfg := ⟨19, [(2, [0, 1, 7, 8])], [(1, [0, 1, 7, 8]), (0, [])], [], [4], [], [29, 12, 74, 34, 92, 23, 62, 26, 37, 94], [72, 85, 91, 22, 40, 4, 43]⟩
def q0 (pr : Prims) (R : Ending → World → Prop) : Exit → Env → World → Prop := fun ex e w => normQ ex (fun e w => contE pr cfg (sub (codeOf Try.f28) [1, 1]) (fun e w => wpC pr PP cfg (DD pr) (sub (codeOf Try.f28) [1, 1]) (retQ Try.f28.results.toList R) e w) e w) (retQ Try.f28.results.toList R) e w
def q1 (pr : Prims) (R : Ending → World → Prop) : Exit → Env → World → Prop := fun ex e w => blockQ ex 0 (q0 pr R) e w
def emb2 (s_0 : Sl) (f_1 : Value) (t7 : Int) (t8 : Int) : Env := [(0, Sl.v s_0), (1, f_1), (7, vI t7), (8, vI t8)]
def x0 : Env := []
def S2 (pr : Prims) (Q : Exit → Env → World → Prop) : (Env → World → Prop) → Env → World → Prop := fun k e w => wpC pr PP cfg (DD pr) (sub (codeOf Try.f28) [1, 0, 1, 0, 0]) (fun ex e w => normQ ex (fun e' w' => k (Env.restr e' (lookN cfg.loops (keyOf (sub (codeOf Try.f28) [1, 0, 1, 0, 0])))) w') Q e w) e w
def B2 (pr : Prims) (s_0 : Sl) (f_1 : Value) (t7 : Int) (t8 : Int) (w : World) (k : Env → World → Prop) (Q : Exit → Env → World → Prop) : Prop :=
  S2 pr Q k (emb2 s_0 f_1 t7 t8) w
def L2 (pr : Prims) (s_0 : Sl) (f_1 : Value) (t7 : Int) (t8 : Int) (w : World) (Q : Exit → Env → World → Prop) : Prop :=
  pr.loop (S2 pr Q) (emb2 s_0 f_1 t7 t8) w
def E (pr : Prims) (s_0 : Sl) (f_1 : Value) (w : World) (R : Ending → World → Prop) : Prop :=
  wpC pr PP cfg (DD pr) (codeOf Try.f28) (retQ Try.f28.results.toList R) (argE 0 [Sl.v s_0, f_1]) w
theorem B2_eq (pr : Prims) (s_0 : Sl) (f_1 : Value) (t7 : Int) (t8 : Int) (w : World) (k : Env → World → Prop) (Q : Exit → Env → World → Prop) : B2 pr s_0 f_1 t7 t8 w k Q = (
  bif decide (t8 < t7) then (
  pr.idxK 1 s_0 t8 fun (a2 : Addr) =>
  pr.load1 (.int .i64) a2 w fun (ξ3 : Int) =>
  pr.callV1 .bool PP (f_1) [vI ξ3] w fun (ρ4 : Bool) ω5 =>
  bif ρ4 then (
  Q .ret [(4, vI t8)] ω5)
  else (
  k (emb2 s_0 f_1 t7 (w64 (t8 + 1))) ω5))
  else (
  Q (.exit 0) (x0) w)) := by kernel_rfl
theorem B2_s (s_0 : Sl) (f_1 : Value) (t7 : Int) (t8 : Int) (w : World) (k : Env → World → Prop) (Q : Exit → Env → World → Prop) : B2 std s_0 f_1 t7 t8 w k Q = (
  bif decide (t8 < t7) then (
  idxK 1 s_0 t8 fun (a2 : Addr) =>
  load1 (.int .i64) a2 w fun (ξ3 : Int) =>
  callV1 .bool PP (f_1) [vI ξ3] w fun (ρ4 : Bool) ω5 =>
  bif ρ4 then (
  Q .ret [(4, vI t8)] ω5)
  else (
  k (emb2 s_0 f_1 t7 (w64 (t8 + 1))) ω5))
  else (
  Q (.exit 0) (x0) w)) := B2_eq std s_0 f_1 t7 t8 w k Q
theorem L2_rule (s_0 : Sl) (f_1 : Value) (t7 : Int) (t8 : Int) (w : World) (Q : Exit → Env → World → Prop) (I : Int → World → Prop) (μ : Int → World → Nat) (h0 : I t8 w)
    (h : ∀ (t8 : Int) (w' : World), I t8 w' → B2 std s_0 f_1 t7 t8 w' (fun e2 w2 => ∃ t8_n, e2 = emb2 s_0 f_1 t7 t8_n ∧ I t8_n w2 ∧ μ t8_n w2 < μ t8 w') Q) :
    L2 std s_0 f_1 t7 t8 w Q := by
  unfold L2
  refine LoopE.intro (σ := Int) (step := S2 std Q) (fun s => emb2 s_0 f_1 t7 s) (fun s w => I s w) (fun s w => μ s w) t8 rfl h0 ?_
  intro s w' hI
  have h1 := h s w' hI
  unfold B2 at h1
  exact h1
theorem A2_0_eq (pr : Prims) (w : World) (R : Ending → World → Prop) : (q1 pr R) (.exit 0) (x0) w = (
  R (.returned (vI (-1))) w) := by kernel_rfl
theorem A2_0_s (w : World) (R : Ending → World → Prop) : (q1 std R) (.exit 0) (x0) w = (
  R (.returned (vI (-1))) w) := A2_0_eq std w R
theorem R2_eq (pr : Prims) (v4 : Value) (w : World) (R : Ending → World → Prop) : (q1 pr R) .ret [(4, v4)] w = (
  R (.returned (v4)) w) := by kernel_rfl
theorem R2_s (v4 : Value) (w : World) (R : Ending → World → Prop) : (q1 std R) .ret [(4, v4)] w = (
  R (.returned (v4)) w) := R2_eq std v4 w R
theorem E_eq (pr : Prims) (s_0 : Sl) (f_1 : Value) (w : World) (R : Ending → World → Prop) : E pr s_0 f_1 w R = (
  L2 pr s_0 f_1 (s_0.n : Int) 0 w (q1 pr R)) := by kernel_rfl
theorem E_s (s_0 : Sl) (f_1 : Value) (w : World) (R : Ending → World → Prop) : E std s_0 f_1 w R = (
  L2 std s_0 f_1 (s_0.n : Int) 0 w (q1 std R)) := E_eq std s_0 f_1 w R
theorem drawsOk : drawsOk PP cfg okD (codeOf Try.f28) = true := by kernel_rfl
theorem calls (s_0 : Sl) (f_1 : Value) {w : World} {R : Ending → World → Prop} (h : E std s_0 f_1 w R) : Calls PP F.slices_IndexFunc___int_int_ #[Sl.v s_0, f_1] w R :=
  calls_of noCount mixed drawOk Try.func28 rfl (c := cfg) (args := [Sl.v s_0, f_1]) rfl (Nat.le_of_ble_eq_true (by kernel_rfl)) drawsOk h
end slices_IndexFunc___int_int_

namespace slices_ContainsFunc___int_int_
@[reducible] def cfg : Cfg := ⟨9, [], [], [], [4], [], [29, 12, 74, 34, 92, 23, 62, 26, 37, 94], [72, 85, 91, 22, 40, 4, 43]⟩
def E (pr : Prims) (s_0 : Sl) (f_1 : Value) (w : World) (R : Ending → World → Prop) : Prop :=
  wpC pr PP cfg (DD pr) (codeOf Try.f35) (retQ Try.f35.results.toList R) (argE 0 [Sl.v s_0, f_1]) w
theorem E_eq (pr : Prims) (s_0 : Sl) (f_1 : Value) (w : World) (R : Ending → World → Prop) : E pr s_0 f_1 w R = (
  pr.call1 (.int .i64) PP F.slices_IndexFunc___int_int_ #[Sl.v s_0, f_1] w fun (ρ0 : Int) ω1 =>
  R (.returned (.bool (decide (ρ0 ≥ 0)))) ω1) := by kernel_rfl
theorem E_s (s_0 : Sl) (f_1 : Value) (w : World) (R : Ending → World → Prop) : E std s_0 f_1 w R = (
  call1 (.int .i64) PP F.slices_IndexFunc___int_int_ #[Sl.v s_0, f_1] w fun (ρ0 : Int) ω1 =>
  R (.returned (.bool (decide (ρ0 ≥ 0)))) ω1) := E_eq std s_0 f_1 w R
theorem drawsOk : drawsOk PP cfg okD (codeOf Try.f35) = true := by kernel_rfl
theorem calls (s_0 : Sl) (f_1 : Value) {w : World} {R : Ending → World → Prop} (h : E std s_0 f_1 w R) : Calls PP F.slices_ContainsFunc___int_int_ #[Sl.v s_0, f_1] w R :=
  calls_of noCount mixed drawOk Try.func35 rfl (c := cfg) (args := [Sl.v s_0, f_1]) rfl (Nat.le_of_ble_eq_true (by kernel_rfl)) drawsOk h
end slices_ContainsFunc___int_int_

end Go.Proofs.Ytlcemelmnkipmaa

/- The library's IndexFunc over rows of ints. -/
namespace Go.Proofs.Ytlcemelmnkipmaa
open Go Go.RowKit
set_option maxRecDepth 100000

theorem c_IndexFuncI {w : World} {a : Sl} {L : List Int} (ha : RowI w a L) (hL : L.length < 2^38) {f : Value} {φ : Int → Bool} (hf : ∀ x ∈ L, FnB w f [vI x] (φ x)) :
    Calls PP F.slices_IndexFunc___int_int_ #[a.v, f] w fun e w' => e = .returned (vI (idxF φ L)) ∧ Below w.heap.size w w' := by
  have han : a.n = L.length := by have := ha.n; simpa using this
  refine slices_IndexFunc___int_int_.calls a f ?_
  rw [slices_IndexFunc___int_int_.E_s, han]
  refine slices_IndexFunc___int_int_.L2_rule _ _ _ _ _ _ (I := fun k w' => 0 ≤ k ∧ k ≤ L.length ∧ Below w.heap.size w w' ∧ ∀ j (hj : j < L.length), j < k.toNat → φ L[j] = false) (μ := fun k _ => (L.length - k).toNat)
    ⟨by omega, by omega, Below.refl _ _, fun j _ hj => by simp at hj⟩ ?_
  rintro k w' ⟨h0, hk, hb, hall⟩
  rw [slices_IndexFunc___int_int_.B2_s]
  refine bif_dec (fun h3 => ?_) (fun h3 => ?_)
  · have hlt : k.toNat < L.length := by omega
    refine RowI.get (ha.grow hb) h0 (by omega) ?_
    rw [getD_eq hlt]
    refine (hf _ (List.getElem_mem hlt)).callV1 hb ?_
    intro w2 hb2
    refine bif_intro (fun h4 => ?_) (fun h4 => ?_)
    · rw [slices_IndexFunc___int_int_.R2_s]
      refine ⟨?_, hb.trans (hb2.mono hb.size)⟩
      rw [idxF_at hlt h4 (fun j hj => hall j (by omega) hj)]
      congr 2; omega
    · refine ⟨k + 1, by rw [w64_succ h0 (by omega)], ⟨by omega, by omega, hb.trans (hb2.mono hb.size), fun j hj1 hj => ?_⟩, by omega⟩
      by_cases e : j = k.toNat
      · subst e; exact h4
      · exact hall j hj1 (by omega)
  · rw [slices_IndexFunc___int_int_.A2_0_s]
    exact ⟨by rw [idxF_none (fun j hj => hall j hj (by omega))], hb⟩
end Go.Proofs.Ytlcemelmnkipmaa

/- DescendingRest and NearestRest: both texts. -/
namespace Go.Proofs.Ytlcemelmnkipmaa
open Go Go.RowKit
set_option maxRecDepth 100000

theorem has_low {L : List Int} {k : Nat} (hk : k < L.length) : decide ((k : Int) + 1 ∈ lowsT L L.length) = isLow L k := by
  have h := mem_lowsT (L := L) (k := L.length) (x := (k : Int) + 1)
  rw [show ((k : Int) + 1 - 1).toNat = k by omega] at h
  cases hl : isLow L k
  · exact decide_eq_false fun hh => by have := (h.1 hh).2.2; rw [hl] at this; cases this
  · exact decide_eq_true (h.2 ⟨by omega, by omega, hl⟩)
theorem erase_eq (l : List Int) (i : Nat) : l.eraseIdx i = l.take i ++ l.drop (i + 1) := List.eraseIdx_eq_take_drop_succ l i
theorem c_l17Rest {w : World} {a : Sl} {L : List Int} (ha : RowI w a L) (hP : IsP L) :
    Calls PP F.spec_l17Rest #[a.v] w fun e w' => ∃ s : Sl, e = .returned s.v ∧ OwnI w' w.heap.size s (sortI (nonL L L.length)) ∧ Below w.heap.size w w' := by
  have han : a.n = L.length := by have := ha.n; simpa using this
  have h8 := hP.1
  refine spec_l17Rest.calls a ?_
  rw [spec_l17Rest.E_s]
  refine (c_specLowsOf ha (by omega)).mono ?_
  rintro e w1 ⟨lo, rfl, hlo, hb1⟩
  refine ⟨lo, rfl, ?_⟩
  rw [LowsV, if_pos hP] at hlo
  refine lit0 oneInt (B := w1.heap.size) (Nat.le_refl _) ?_
  intro o w2 ho hg2 _
  have hb12 := below_of_grow hg2
  have hlor := hlo.row
  have hll := lowsT_length L L.length
  refine spec_l17Rest.L4_rule _ _ _ _ _ _ (I := fun o k w' => 0 ≤ k ∧ k ≤ L.length ∧ Below w1.heap.size w1 w' ∧ OwnI w' w1.heap.size o (nonL L k.toNat)) (μ := fun _ k _ => (L.length - k).toNat)
    ⟨by omega, by omega, hb12, ho⟩ ?_
  rintro o k w' ⟨hk0, hk, hb, ho⟩
  have hbw := hb1.trans (hb.mono hb1.size)
  rw [spec_l17Rest.B4_s, han]
  refine bif_dec (fun h3 => ?_) (fun h3 => ?_)
  · obtain ⟨k, rfl⟩ : ∃ m : Nat, k = m := ⟨k.toNat, by omega⟩
    have hlt : k < L.length := by omega
    rw [Int.toNat_natCast] at ho
    have hnl := nonL_len L k
    rw [w64_succ hk0 (by omega)]
    refine Quiet.call1 (s := .bool) (c_l2Has (hlor.grow hb) (by omega) _) ?_
    intro w3 hd
    have hb3 := hb.trans ((hd.below _).mono hb.size)
    have hbw3 := hb1.trans (hb3.mono hb1.size)
    have ho3 := ho.heap hd.heap'
    rw [has_low hlt]
    have ek : ((k : Int) + 1).toNat = k + 1 := by omega
    refine bif_intro (fun h4 => ?_) (fun h4 => ?_)
    · have h4 : isLow L k = false := by simpa using h4
      refine RowI.get (ha.grow hbw3) hk0 (by omega) ?_
      rw [Int.toNat_natCast]
      refine append_int ho3 hb3.size (by omega) ?_
      intro o' w4 ho4 hg4 _
      refine ⟨o', (k : Int) + 1, rfl, ⟨by omega, by omega, hb3.grown hg4 hb3.size (fun g hg => (ho3.lt g hg).1), ?_⟩, by omega⟩
      rw [ek, nonL, if_neg (by rw [h4]; simp)]; exact ho4
    · have h4 : isLow L k = true := by simpa using h4
      refine ⟨o, (k : Int) + 1, rfl, ⟨by omega, by omega, hb3, ?_⟩, by omega⟩
      rw [ek, nonL, if_pos h4]; exact ho3
  · rw [spec_l17Rest.A4_0_s]
    rw [show k.toNat = L.length by omega] at ho
    have hnl := nonL_len L L.length
    refine (c_l15Sort ho.row (by omega)).mono ?_
    rintro e w3 ⟨s, rfl, hs, hb3⟩
    exact ⟨s, rfl, s, rfl, hs.mono hbw.size, hbw.trans (hb3.mono hbw.size)⟩
open Classical in
noncomputable def RestV (pk : List Int → Int → Nat) (L : List Int) : List Int := if IsP L then stO pk L L.length else []
theorem RestV_len (pk : List Int → Int → Nat) (L : List Int) : (RestV pk L).length < 2^38 := by
  unfold RestV
  split
  · rename_i h; rw [stO_length]; have := h.1; omega
  · simp
theorem stR_len8 {pk : List Int → Int → Nat} {L : List Int} (hP : IsP L) (hok : PkOk pk L) {k : Nat} (hk : k ≤ L.length) : (stR pk L k).length ≤ 8 := by
  have h1 := stR_len (pk := pk) (L := L) k (fun j hj => hok j (by omega))
  have h2 := nonL_len L L.length
  have := hP.1
  omega
open Classical in
theorem c_specDescendingRestO {w : World} {a : Sl} {L : List Int} (ha : RowI w a L) (hL : L.length < 2^38) :
    Calls PP F.spec_DescendingRest #[a.v] w fun e w' => ∃ s : Sl, e = .returned (.tuple #[s.v, .bool (decide (IsP L))]) ∧ OwnI w' w.heap.size s (RestV pkD L) ∧ Below w.heap.size w w' := by
  have han : a.n = L.length := by have := ha.n; simpa using this
  refine spec_DescendingRest.calls a ?_
  rw [spec_DescendingRest.E_s]
  refine Quiet.call1 (s := .bool) (c_specIsPerm ha hL) ?_
  intro w1 hd1
  have hb1 := hd1.below w.heap.size
  refine bif_intro (fun h => ?_) (fun h => ?_)
  · have h : ¬ IsP L := by simpa using h
    refine lit0 oneInt (B := w.heap.size) hb1.size ?_
    intro o w2 ho hg2 _
    exact ⟨o, by rw [decide_eq_false h], by rw [RestV, if_neg h]; exact ho, hb1.grown hg2 hb1.size (by simp)⟩
  have hP : IsP L := by simpa using h
  have h8 := hP.1
  have hok := pkOk_D L
  have hV : RestV pkD L = stO pkD L L.length := by rw [RestV, if_pos hP]
  rw [hV, decide_eq_true hP]
  refine (c_specLowsOf (ha.grow hb1) hL).mono ?_
  rintro e w2 ⟨lo, rfl, hlo, hb12⟩
  refine ⟨lo, rfl, ?_⟩
  rw [LowsV, if_pos hP] at hlo
  have hll := lowsT_length L L.length
  have hb2 := hb1.trans (hb12.mono hb1.size)
  refine (c_l17Rest (ha.grow hb2) hP).mono ?_
  rintro e w3 ⟨re, rfl, hre, hb23⟩
  refine ⟨re, rfl, ?_⟩
  have hb3 := hb2.trans (hb23.mono hb2.size)
  have hlo3 := (hlo.grow hb23).row
  refine lit0 oneInt (B := w3.heap.size) (Nat.le_refl _) ?_
  intro o w4 ho hg4 _
  have hb34 := below_of_grow hg4
  refine spec_DescendingRest.L7_rule _ _ _ _ _ _ _ (I := fun re o k w' => 0 ≤ k ∧ k ≤ L.length ∧ Below w3.heap.size w3 w' ∧ OwnI w' w2.heap.size re (stR pkD L k.toNat) ∧ (∀ g, re.blk = some g → g < w3.heap.size) ∧ OwnI w' w3.heap.size o (stO pkD L k.toNat)) (μ := fun _ _ k _ => (L.length - k).toNat)
    ⟨by omega, by omega, hb34, hre.grow hb34, fun g hg => (hre.lt g hg).2, ho⟩ ?_
  rintro re o k w5 ⟨hk0, hk, hb, hre, hreC, ho⟩
  rw [spec_DescendingRest.B7_s, han]
  refine bif_dec (fun h3 => ?_) (fun h3 => ?_)
  · obtain ⟨k, rfl⟩ : ∃ m : Nat, k = m := ⟨k.toNat, by omega⟩
    have hlt : k < L.length := by omega
    rw [Int.toNat_natCast] at ho hre
    have ek : ((k : Int) + 1).toNat = k + 1 := by omega
    rw [w64_succ hk0 (by omega)]
    refine Quiet.call1 (s := .bool) (c_l2Has (hlo3.grow hb) (by omega) _) ?_
    intro w6 hd
    have hb6 := hb.trans ((hd.below _).mono hb.size)
    have hbw6 := hb3.trans (hb6.mono hb3.size)
    have ho6 := ho.heap hd.heap'
    have hre6 := hre.heap hd.heap'
    rw [has_low hlt]
    have hol := stO_length pkD L k
    refine bif_intro (fun h4 => ?_) (fun h4 => ?_)
    · refine RowI.get (ha.grow hbw6) hk0 (by omega) ?_
      rw [Int.toNat_natCast]
      refine append_int ho6 hb6.size (by omega) ?_
      intro o' w7 ho7 hg7 _
      refine ⟨re, o', (k : Int) + 1, rfl, ⟨by omega, by omega, hb6.grown hg7 hb6.size (fun g hg => (ho6.lt g hg).1), ?_, hreC, ?_⟩, by omega⟩
      · rw [ek, stR, if_pos h4]
        exact Own.keeps hre6 (keeps_grown hg7) (fun g hg hg2 => by have := hreC g hg; have := (ho6.lt g hg2).1; omega)
      · rw [ek, stO, if_pos h4]; exact ho7
    · have hp := hok k hlt h4
      have hrn : re.n = (stR pkD L k).length := by have := hre6.n; simpa using this
      have hr8 := stR_len8 hP hok (k := k) (by omega)
      have hpv : pkD (stR pkD L k) (lastLow L k) = (stR pkD L k).length - 1 := rfl
      rw [hrn]
      have e1 : w64 (((stR pkD L k).length : Int) - 1) = (((stR pkD L k).length - 1 : Nat) : Int) := by rw [w64_id (by omega) (by omega)]; omega
      rw [e1]
      refine RowI.get (Own.row hre6) (by omega) (by omega) ?_
      rw [Int.toNat_natCast]
      refine append_int ho6 hb6.size (by omega) ?_
      intro o' w7 ho7 hg7 _
      have hre7 : OwnI w7 w2.heap.size re (stR pkD L k) := Own.keeps hre6 (keeps_grown hg7) (fun g hg hg2 => by have := hreC g hg; have := (ho6.lt g hg2).1; omega)
      refine Own.pop hre7 (by omega) (by rw [List.length_map]; omega) fun re' hre' hblk => ?_
      refine ⟨re', o', (k : Int) + 1, rfl, ⟨by omega, by omega, hb6.grown hg7 hb6.size (fun g hg => (ho6.lt g hg).1), ?_, fun g hg => hreC g (by rw [← hblk]; exact hg), ?_⟩, by omega⟩
      · rw [ek, stR, if_neg (by rw [h4]; simp), hpv, erase_eq, List.drop_of_length_le (by omega), List.append_nil]
        rw [← List.map_take, Int.toNat_natCast] at hre'
        exact hre'
      · rw [ek, stO, if_neg (by rw [h4]; simp), hpv]; exact ho7
  · rw [spec_DescendingRest.A7_0_s]
    rw [show k.toNat = L.length by omega] at ho
    exact ⟨o, rfl, Own.mono ho hb3.size, hb3.trans (hb.mono hb3.size)⟩
open Classical in
theorem c_specDescendingRest {w : World} {a : Sl} {L : List Int} (ha : RowI w a L) (hL : L.length < 2^38) :
    Calls PP F.spec_DescendingRest #[a.v] w fun e w' => ∃ s : Sl, e = .returned (.tuple #[s.v, .bool (decide (IsP L))]) ∧ RowI w' s (RestV pkD L) ∧ Below w.heap.size w w' :=
  (c_specDescendingRestO ha hL).mono fun e w' ⟨s, h1, h2, h3⟩ => ⟨s, h1, h2.row, h3⟩

theorem rowI_cut_to {w : World} {r : Sl} {L : List Int} (h : RowI w r L) {i : Nat} (hi : i ≤ L.length) {K : Sl → Prop} (hK : ∀ t, RowI w t (L.take i) → K t) : cutK 1 r none (some (i : Int)) K := by
  have hn : r.n = L.length := by have := h.n; simpa using this
  refine Row.cut h (by simp) (by simp <;> omega) (by simp <;> omega) fun t ht => hK t ?_
  have e2 : (List.take ((some (i : Int)).getD (r.n : Int)).toNat (L.map vI)).drop ((none : Option Int).getD 0).toNat = (L.take i).map vI := by simp
  rw [e2] at ht
  exact ht
theorem rowI_cut_from {w : World} {r : Sl} {L : List Int} (h : RowI w r L) {i : Nat} (hi : i ≤ L.length) {K : Sl → Prop} (hK : ∀ t, RowI w t (L.drop i) → K t) : cutK 1 r (some (i : Int)) none K := by
  have hn : r.n = L.length := by have := h.n; simpa using this
  refine Row.cut h (by simp) (by simp <;> omega) (by simp <;> omega) fun t ht => hK t ?_
  have e2 : (List.take ((none : Option Int).getD (r.n : Int)).toNat (L.map vI)).drop ((some (i : Int)).getD 0).toNat = (L.drop i).map vI := by
    rw [hn]; simp [List.map_drop, List.take_of_length_le]
  rw [e2] at ht
  exact ht
theorem vI_one {L : List Int} : ∀ v ∈ L.map vI, One v := fun v hv => by obtain ⟨x, _, rfl⟩ := List.mem_map.1 hv; exact One.int x
open Classical in
theorem c_specNearestRestO {w : World} {a : Sl} {L : List Int} (ha : RowI w a L) (hL : L.length < 2^38) :
    Calls PP F.spec_NearestRest #[a.v] w fun e w' => ∃ s : Sl, e = .returned (.tuple #[s.v, .bool (decide (IsP L))]) ∧ OwnI w' w.heap.size s (RestV pkN L) ∧ Below w.heap.size w w' := by
  have han : a.n = L.length := by have := ha.n; simpa using this
  refine spec_NearestRest.calls a ?_
  rw [spec_NearestRest.E_s]
  refine Quiet.call1 (s := .bool) (c_specIsPerm ha hL) ?_
  intro w1 hd1
  have hb1 := hd1.below w.heap.size
  refine bif_intro (fun h => ?_) (fun h => ?_)
  · have h : ¬ IsP L := by simpa using h
    refine lit0 oneInt (B := w.heap.size) hb1.size ?_
    intro o w2 ho hg2 _
    exact ⟨o, by rw [decide_eq_false h], by rw [RestV, if_neg h]; exact ho, hb1.grown hg2 hb1.size (by simp)⟩
  have hP : IsP L := by simpa using h
  have h8 := hP.1
  have hok := pkOk_N L
  have hV : RestV pkN L = stO pkN L L.length := by rw [RestV, if_pos hP]
  rw [hV, decide_eq_true hP]
  refine (c_specLowsOf (ha.grow hb1) hL).mono ?_
  rintro e w2 ⟨lo, rfl, hlo, hb12⟩
  refine ⟨lo, rfl, ?_⟩
  rw [LowsV, if_pos hP] at hlo
  have hll := lowsT_length L L.length
  have hb2 := hb1.trans (hb12.mono hb1.size)
  refine (c_l17Rest (ha.grow hb2) hP).mono ?_
  rintro e w3 ⟨re, rfl, hre, hb23⟩
  refine ⟨re, rfl, ?_⟩
  have hb3 := hb2.trans (hb23.mono hb2.size)
  have hlo3 := (hlo.grow hb23).row
  refine lit0 oneInt (B := w3.heap.size) (Nat.le_refl _) ?_
  intro o w4 ho hg4 _
  have hb34 := below_of_grow hg4
  refine spec_NearestRest.L8_rule _ _ _ _ _ _ _ _ (I := fun re o low k w' => 0 ≤ k ∧ k ≤ L.length ∧ Below w3.heap.size w3 w' ∧ low = lastLow L k.toNat ∧ OwnI w' w2.heap.size re (stR pkN L k.toNat) ∧ Apt re o ∧ OwnI w' w3.heap.size o (stO pkN L k.toNat)) (μ := fun _ _ _ k _ => (L.length - k).toNat)
    ⟨by omega, by omega, hb34, rfl, hre.grow hb34, Apt.of_lt (fun g hg => (hre.lt g hg).2) (fun g hg => (ho.lt g hg).1), ho⟩ ?_
  rintro re o low k w5 ⟨hk0, hk, hb, hlow, hre, hap, ho⟩
  rw [spec_NearestRest.B8_s, han]
  refine bif_dec (fun h3 => ?_) (fun h3 => ?_)
  · obtain ⟨k, rfl⟩ : ∃ m : Nat, k = m := ⟨k.toNat, by omega⟩
    have hlt : k < L.length := by omega
    rw [Int.toNat_natCast] at ho hre hlow
    have ek : ((k : Int) + 1).toNat = k + 1 := by omega
    rw [w64_succ hk0 (by omega)]
    refine Quiet.call1 (s := .bool) (c_l2Has (hlo3.grow hb) (by omega) _) ?_
    intro w6 hd
    have hb6 := hb.trans ((hd.below _).mono hb.size)
    have hbw6 := hb3.trans (hb6.mono hb3.size)
    have ho6 := ho.heap hd.heap'
    have hre6 := hre.heap hd.heap'
    rw [has_low hlt]
    have hol := stO_length pkN L k
    refine bif_intro (fun h4 => ?_) (fun h4 => ?_)
    · refine RowI.get (ha.grow hbw6) hk0 (by omega) ?_
      rw [Int.toNat_natCast]
      refine append_int ho6 hb6.size (by omega) ?_
      intro o' w7 ho7 hg7 hn7
      refine ⟨re, o', L.getD k 0, (k : Int) + 1, rfl, ⟨by omega, by omega, hb6.grown hg7 hb6.size (fun g hg => (ho6.lt g hg).1), ?_, ?_, (hap.symm.next hn7 (fun g hg => (hre6.lt g hg).2)).symm, ?_⟩, by omega⟩
      · rw [ek, lastLow, if_pos h4]
      · rw [ek, stR, if_pos h4]
        exact Own.keeps hre6 (keeps_grown hg7) (fun g hg hg2 => hap g hg hg2)
      · rw [ek, stO, if_pos h4]; exact ho7
    · have hp := hok k hlt h4
      have hni := low_notin (pk := pkN) hP hlt h4
      have hr8 := stR_len8 hP hok (k := k) (by omega)
      have hst : stR pkN L (k + 1) = (stR pkN L k).take (pkN (stR pkN L k) (lastLow L k)) ++ (stR pkN L k).drop (pkN (stR pkN L k) (lastLow L k) + 1) := by
        rw [stR, if_neg (by rw [h4]; simp), erase_eq]
      have hso : stO pkN L (k + 1) = stO pkN L k ++ [(stR pkN L k).getD (pkN (stR pkN L k) (lastLow L k)) 0] := by
        rw [stO, if_neg (by rw [h4]; simp)]
      have hll2 : lastLow L (k + 1) = low := by rw [lastLow, if_neg (by rw [h4]; simp), hlow]
      rw [← hlow] at hp hni hst hso
      generalize hR : stR pkN L k = R at hp hni hst hso hre6 hr8
      generalize hm : pkN R low = m at hp hst hso
      have hRm : R[m] > low := by
        subst hm
        have := List.findIdx_getElem (xs := R) (p := fun v => decide (v > low)) (w := hp)
        exact of_decide_eq_true this
      have hmin : ∀ j (hj : j < R.length), j < m → ¬ R[j] > low := fun j hj hjm hgt => by
        subst hm
        have h9 := List.not_of_lt_findIdx hjm
        simp only [decide_eq_false_iff_not] at h9
        exact h9 hgt
      refine spec_NearestRest.L14_rule _ _ _ _ _ _ _ _ _ (I := fun at_ w' => w' = w6 ∧ 0 ≤ at_ ∧ at_ ≤ m) (μ := fun at_ _ => (m - at_).toNat)
        ⟨rfl, by omega, by omega⟩ ?_
      rintro at_ w' ⟨rfl, h0, h1⟩
      obtain ⟨q, rfl⟩ : ∃ q : Nat, at_ = q := ⟨at_.toNat, by omega⟩
      have hqR : q < R.length := by omega
      rw [spec_NearestRest.B14_s]
      refine RowI.get (Own.row hre6) h0 (by omega) ?_
      rw [Int.toNat_natCast, getD_lt hqR]
      refine bif_dec (fun h5 => ?_) (fun h5 => ?_)
      · refine ⟨(q : Int) + 1, by rw [w64_succ h0 (by omega)], ⟨rfl, by omega, ?_⟩, ?_⟩
        · by_cases e : q = m
          · subst e; omega
          · omega
        · by_cases e : q = m
          · subst e; omega
          · omega
      · have hqm : q = m := by
          by_cases e : q < m
          · have h6 := hmin q hqR e
            have h7 : R[q] = low := by omega
            exact absurd (h7 ▸ List.getElem_mem hqR) hni
          · omega
        subst hqm
        rw [spec_NearestRest.A14_2_s]
        refine RowI.get (Own.row hre6) h0 (by omega) ?_
        rw [Int.toNat_natCast]
        refine append_int ho6 hb6.size (by omega) ?_
        intro o' w7 ho7 hg7 hn7
        have hb7 := hb6.grown hg7 hb6.size (fun g hg => (ho6.lt g hg).1)
        have hre7 : OwnI w7 w2.heap.size re R := Own.keeps hre6 (keeps_grown hg7) (fun g hg hg2 => hap g hg hg2)
        refine drew_intro fun w8 hd8 => ?_
        have hb8 := hb7.trans ((hd8.below _).mono hb7.size)
        have hre8 := hre7.heap hd8.heap'
        have ho8 := ho7.heap hd8.heap'
        refine rowI_cut_to (Own.row hre8) (i := q) (by omega) fun s33 h33 => ?_
        rw [w64_succ h0 (by omega)]
        refine rowI_cut_from (Own.row hre8) (i := q + 1) (by omega) fun s34 h34 => ?_
        refine lit0 oneInt (B := w8.heap.size) (Nat.le_refl _) ?_
        intro z w9 hz hg9 _
        have hb89 := below_of_grow hg9
        refine append_row oneInt hz hb89.size (Row.grow h33 hb89) vI_one (by simp; omega) ?_
        intro z2 w10 hz2 hg10 hn10 _
        have hb810 := hb89.grown hg10 hb89.size (fun g hg => (hz.lt g hg).1)
        refine append_row oneInt hz2 hb810.size (Row.grow h34 hb810) vI_one (by simp; omega) ?_
        intro z3 w11 hz3 hg11 _ _
        have hb811 := hb810.grown hg11 hb810.size (fun g hg => (hz2.lt g hg).1)
        have ho11 := Own.grow ho8 hb811
        rw [List.nil_append, ← List.map_append] at hz3
        refine ⟨z3, o', low, (k : Int) + 1, by rw [w64_succ hk0 (by omega)], ⟨by omega, by omega, hb8.trans (hb811.mono hb8.size), ?_, ?_, ?_, ?_⟩, by omega⟩
        · rw [ek, hll2]
        · rw [ek, hst]
          exact Own.mono hz3 (Nat.le_trans hb23.size hb8.size)
        · exact (Apt.of_lt (fun g hg => (ho8.lt g hg).2) (fun g hg => (hz3.lt g hg).1)).symm
        · rw [ek, hso]; exact ho11
  · rw [spec_NearestRest.A8_0_s]
    rw [show k.toNat = L.length by omega] at ho
    exact ⟨o, rfl, Own.mono ho hb3.size, hb3.trans (hb.mono hb3.size)⟩
open Classical in
theorem c_specNearestRest {w : World} {a : Sl} {L : List Int} (ha : RowI w a L) (hL : L.length < 2^38) :
    Calls PP F.spec_NearestRest #[a.v] w fun e w' => ∃ s : Sl, e = .returned (.tuple #[s.v, .bool (decide (IsP L))]) ∧ RowI w' s (RestV pkN L) ∧ Below w.heap.size w w' :=
  (c_specNearestRestO ha hL).mono fun e w' ⟨s, h1, h2, h3⟩ => ⟨s, h1, h2.row, h3⟩
end Go.Proofs.Ytlcemelmnkipmaa

/- A pass through a stack, as lists: plain facts. -/
namespace Go.Proofs.Ytlcemelmnkipmaa
open Go
set_option maxRecDepth 100000

/-- The stack stands with its top first. -/
def popW (v : Int) : List Int → List Int → List Int × List Int
  | o, [] => (o, [])
  | o, x :: r => if x < v then popW v (o ++ [x]) r else (o, x :: r)
def stpW (s : List Int × List Int) (v : Int) : List Int × List Int := ((popW v s.1 s.2).1, v :: (popW v s.1 s.2).2)
def runW (L : List Int) : List Int × List Int := L.foldl stpW ([], [])
def passV (L : List Int) : List Int := (runW L).1 ++ (runW L).2
theorem runW_snoc (L : List Int) (v : Int) : runW (L ++ [v]) = stpW (runW L) v := by simp [runW, List.foldl_append]
theorem popW_perm (v : Int) : ∀ (r o : List Int), (popW v o r).1 ++ (popW v o r).2 = o ++ r
  | [], o => by simp [popW]
  | x :: r, o => by
    simp only [popW]
    split
    · rw [popW_perm v r (o ++ [x])]; simp
    · rfl
theorem passV_perm (L : List Int) : (passV L).Perm L := by
  suffices h : ∀ n, ∀ L : List Int, L.length = n → (passV L).Perm L from h _ L rfl
  intro n
  induction n with
  | zero => intro L hL; have : L = [] := List.eq_nil_of_length_eq_zero hL
            subst this; exact List.Perm.refl _
  | succ n ih =>
    intro L hL
    obtain ⟨M, v, rfl⟩ : ∃ M v, L = M ++ [v] := ⟨L.dropLast, L.getLast (by rintro rfl; simp at hL), (List.dropLast_concat_getLast _).symm⟩
    have h1 := ih M (by simpa using hL)
    unfold passV at h1 ⊢
    rw [runW_snoc]
    simp only [stpW]
    have h2 := popW_perm v (runW M).2 (runW M).1
    rw [← h2] at h1
    exact List.perm_middle.trans ((List.Perm.cons v h1).trans (List.perm_append_singleton v M).symm)
theorem passV_length (L : List Int) : (passV L).length = L.length := (passV_perm L).length_eq
theorem popW_all (v : Int) : ∀ (r o : List Int), (∀ x ∈ r, x < v) → popW v o r = (o ++ r, [])
  | [], o, _ => by simp [popW]
  | x :: r, o, h => by
    rw [popW, if_pos (h x (by simp)), popW_all v r _ (fun y hy => h y (by simp [hy]))]
    simp
/-- A number greater than all before it comes last. -/
theorem passV_great {M : List Int} {v : Int} (h : ∀ x ∈ M, x < v) : passV (M ++ [v]) = passV M ++ [v] := by
  have h1 : ∀ x ∈ (runW M).2, x < v := fun x hx => h x ((passV_perm M).mem_iff.1 (by unfold passV; simp [hx]))
  unfold passV
  rw [runW_snoc, stpW, popW_all v _ _ h1]
theorem passV_tail {A : List Int} : ∀ (n : Nat) (T : List Int), T.length = n → (∀ x ∈ A, ∀ y ∈ T, x < y) → T.Pairwise (· < ·) → passV (A ++ T) = passV A ++ T := by
  intro n
  induction n with
  | zero => intro T hT _ _; have : T = [] := List.eq_nil_of_length_eq_zero hT
            subst this; simp
  | succ n ih =>
    intro T hT h1 h2
    obtain ⟨M, v, rfl⟩ : ∃ M v, T = M ++ [v] := ⟨T.dropLast, T.getLast (by rintro rfl; simp at hT), (List.dropLast_concat_getLast _).symm⟩
    rw [List.pairwise_append] at h2
    rw [← List.append_assoc, passV_great, ih M (by simpa using hT) (fun x hx y hy => h1 x hx y (by simp [hy])) h2.1, List.append_assoc]
    intro x hx
    rcases List.mem_append.1 hx with h3 | h3
    · exact h1 x h3 v (by simp)
    · exact h2.2.2 x h3 v (by simp)
/-- What stands at the bottom of the stack stays there while only lesser numbers come. -/
theorem popW_keep (v m : Int) (hv : ¬ m < v) : ∀ (r o : List Int), ∃ r', (popW v o (r ++ [m])).2 = r' ++ [m]
  | [], o => ⟨[], by simp [popW, hv]⟩
  | x :: r, o => by
    simp only [List.cons_append, popW]
    split
    · exact popW_keep v m hv r _
    · exact ⟨x :: r, rfl⟩
theorem fold_keep (m : Int) : ∀ (C : List Int), (∀ x ∈ C, ¬ m < x) → ∀ o r, ∃ r', (C.foldl stpW (o, r ++ [m])).2 = r' ++ [m]
  | [], _, o, r => ⟨r, rfl⟩
  | v :: C, h, o, r => by
    obtain ⟨r', hr⟩ := popW_keep v m (h v (by simp)) r o
    rw [List.foldl_cons]
    have e : stpW (o, r ++ [m]) v = ((popW v o (r ++ [m])).1, (v :: r') ++ [m]) := by simp [stpW, hr]
    rw [e]
    exact fold_keep m C (fun x hx => h x (by simp [hx])) _ _
theorem passV_max {M : List Int} {m : Int} (hm : m ∈ M) (hn : M.Nodup) (h : ∀ x ∈ M, x ≤ m) : ∃ M', passV M = M' ++ [m] := by
  obtain ⟨A, C, rfl⟩ := List.append_of_mem hm
  have h1 : ∀ x ∈ A, x < m := fun x hx => by
    have h2 := h x (by simp [hx])
    have h3 : x ≠ m := by
      rintro rfl
      rw [List.nodup_iff_pairwise_ne, List.pairwise_append] at hn
      exact hn.2.2 x hx x (by simp) rfl
    omega
  have h4 : runW (A ++ m :: C) = C.foldl stpW (stpW (runW A) m) := by simp [runW, List.foldl_append]
  have h5 : ∀ x ∈ (runW A).2, x < m := fun x hx => h1 x ((passV_perm A).mem_iff.1 (by unfold passV; simp [hx]))
  have e : stpW (runW A) m = ((runW A).1 ++ (runW A).2, [] ++ [m]) := by rw [stpW, popW_all m _ _ h5]; rfl
  obtain ⟨r', hr⟩ := fold_keep m C (fun x hx => by have := h x (by simp [hx]); omega) ((runW A).1 ++ (runW A).2) []
  unfold passV
  rw [h4, e, hr]
  exact ⟨_, (List.append_assoc _ _ _).symm⟩

def itW : Nat → List Int → List Int
  | 0, L => L
  | k + 1, L => passV (itW k L)
theorem itW_perm (L : List Int) : ∀ k, (itW k L).Perm L
  | 0 => List.Perm.refl _
  | k + 1 => (passV_perm _).trans (itW_perm L k)
/-- k+1, .., n -/
def seg (k n : Nat) : List Int := (List.range (n - k)).map fun (i : Nat) => (k : Int) + i + 1
theorem mem_seg {k n : Nat} {x : Int} : x ∈ seg k n ↔ (k : Int) < x ∧ x ≤ n := by
  simp only [seg, List.mem_map, List.mem_range]
  constructor
  · rintro ⟨i, hi, rfl⟩; omega
  · rintro ⟨h1, h2⟩; exact ⟨(x - k - 1).toNat, by omega, by omega⟩
theorem seg_pairwise (k n : Nat) : (seg k n).Pairwise (· < ·) := by
  simp only [seg, List.pairwise_map]
  exact List.Pairwise.imp (fun h => by omega) List.pairwise_lt_range
theorem seg_pred {k n : Nat} (h : k < n) : seg k n = ((k : Int) + 1) :: seg (k + 1) n := by
  have : n - k = (n - (k + 1)) + 1 := by omega
  unfold seg
  rw [this, List.range_succ_eq_map, List.map_cons, List.map_map]
  simp only [List.cons.injEq]
  refine ⟨by omega, ?_⟩
  apply List.map_congr_left
  intro i _
  simp only [Function.comp_apply]
  omega
theorem it_shape {L : List Int} {n : Nat} (h : L.Perm (idn n)) : ∀ k, k ≤ n → ∃ M, itW k L = M ++ seg (n - k) n ∧ M.Perm (idn (n - k))
  | 0, _ => ⟨L, by simp [itW, seg], by simpa using h⟩
  | k + 1, hk => by
    obtain ⟨M, h1, h2⟩ := it_shape h k (by omega)
    have hmem : ∀ x, x ∈ M ↔ 1 ≤ x ∧ x ≤ ((n - k : Nat) : Int) := fun x => by rw [h2.mem_iff, mem_idn]
    obtain ⟨M', h3⟩ := passV_max (M := M) (m := ((n - k : Nat) : Int)) ((hmem _).2 (by omega)) (h2.nodup_iff.2 (idn_nodup _)) (fun x hx => ((hmem x).1 hx).2)
    refine ⟨M', ?_, ?_⟩
    · rw [itW, h1, passV_tail _ (seg (n - k) n) rfl (fun x hx y hy => by
        have := (hmem x).1 hx; rw [mem_seg] at hy; omega) (seg_pairwise _ _), h3, List.append_assoc]
      congr 1
      rw [show n - k = (n - (k + 1)) + 1 by omega]
      have := seg_pred (k := n - (k + 1)) (n := n) (by omega)
      rw [this]
      simp
    · have h4 : (M' ++ [((n - k : Nat) : Int)]).Perm (idn (n - k)) := by rw [← h3]; exact (passV_perm M).trans h2
      rw [show n - k = (n - (k + 1)) + 1 by omega, idn_succ] at h4
      have h5 := (List.perm_append_singleton _ _).symm.trans (h4.trans (List.perm_append_singleton _ _))
      rw [show (((n - (k + 1) + 1 : Nat)) : Int) = ((n - (k + 1) : Nat) : Int) + 1 by omega] at h5
      exact List.Perm.cons_inv h5
theorem it_last {L : List Int} (h : IsP L) : itW L.length L = idn L.length := by
  obtain ⟨M, h1, h2⟩ := it_shape h.perm L.length (Nat.le_refl _)
  have : M = [] := by have := h2.length_eq; rw [idn_length] at this; exact List.eq_nil_of_length_eq_zero (by omega)
  subst this
  rw [h1]
  simp [seg, idn]
/-- How often it has to be applied. -/
def Tm (L : List Int) (m : Nat) : Prop := Rising (itW m L) ∧ ∀ j, j < m → ¬ Rising (itW j L)
theorem Tm.unique {L : List Int} {m k : Nat} (h : Tm L m) (h' : Tm L k) : m = k := by
  rcases Nat.lt_trichotomy m k with h1 | h1 | h1
  · exact absurd h.1 (h'.2 m h1)
  · exact h1
  · exact absurd h'.1 (h.2 k h1)
open Classical in
noncomputable def tmV (L : List Int) : Nat := if h : ∃ m, Tm L m then h.choose else 0
theorem Tm.eq {L : List Int} {m : Nat} (h : Tm L m) : tmV L = m := by
  have he : ∃ m, Tm L m := ⟨m, h⟩
  unfold tmV
  rw [dif_pos he]
  exact he.choose_spec.unique h
theorem it_not {L : List Int} (h : IsP L) {k : Nat} (hk : ∀ j, j < k → ¬ Rising (itW j L)) : k ≤ L.length := by
  rcases Nat.lt_or_ge L.length k with h1 | h1
  · exact absurd (by rw [it_last h]; exact rising_idn _) (hk L.length h1)
  · exact h1
end Go.Proofs.Ytlcemelmnkipmaa

/- What a stack sorts: plain facts (who comes ahead of whom after a pass). -/
namespace Go.Proofs.Ytlcemelmnkipmaa
open Go
set_option maxRecDepth 100000

theorem sub_snoc {l L : List Int} {a v : Int} : (l ++ [a]).Sublist (L ++ [v]) ↔ (l ++ [a]).Sublist L ∨ (a = v ∧ l.Sublist L) := by
  rw [← List.reverse_sublist, List.reverse_append, List.reverse_append, List.reverse_singleton, List.reverse_singleton, List.singleton_append, List.singleton_append, List.sublist_cons_iff]
  constructor
  · rintro (h | ⟨r, h1, h2⟩)
    · left
      rw [← List.reverse_sublist, List.reverse_append]; simpa using h
    · simp at h1
      right
      exact ⟨h1.1, by rw [← h1.2] at h2; exact List.reverse_sublist.1 h2⟩
  · rintro (h | ⟨rfl, h⟩)
    · left
      have := List.reverse_sublist.2 h
      simpa using this
    · right
      exact ⟨l.reverse, rfl, List.reverse_sublist.2 h⟩
theorem sub2 {L : List Int} {a b v : Int} : [b, a].Sublist (L ++ [v]) ↔ [b, a].Sublist L ∨ (a = v ∧ b ∈ L) := by
  have := sub_snoc (l := [b]) (L := L) (a := a) (v := v)
  simpa using this
theorem sub3 {L : List Int} {a b c v : Int} : [b, c, a].Sublist (L ++ [v]) ↔ [b, c, a].Sublist L ∨ (a = v ∧ [b, c].Sublist L) := by
  have := sub_snoc (l := [b, c]) (L := L) (a := a) (v := v)
  simpa using this
/-- Two of a list that is put together: where they stand. -/
theorem sub_app {b a : Int} : ∀ {A B : List Int}, [b, a].Sublist (A ++ B) ↔ [b, a].Sublist A ∨ [b, a].Sublist B ∨ (b ∈ A ∧ a ∈ B)
  | [], B => by simp
  | x :: A, B => by
    rw [List.cons_append, List.sublist_cons_iff, List.sublist_cons_iff, sub_app]
    simp only [List.mem_cons]
    constructor
    · rintro ((h | h | h) | ⟨r, h1, h2⟩)
      · exact .inl (.inl h)
      · exact .inr (.inl h)
      · exact .inr (.inr ⟨.inr h.1, h.2⟩)
      · simp at h1
        obtain ⟨rfl, rfl⟩ := h1
        rw [List.singleton_sublist, List.mem_append] at h2
        rcases h2 with h2 | h2
        · exact .inl (.inr ⟨[a], rfl, List.singleton_sublist.2 h2⟩)
        · exact .inr (.inr ⟨.inl rfl, h2⟩)
    · rintro ((h | ⟨r, h1, h2⟩) | h | ⟨h | h, h2⟩)
      · exact .inl (.inl h)
      · exact .inr ⟨r, h1, h2.trans (List.sublist_append_left ..)⟩
      · exact .inl (.inr (.inl h))
      · subst h; exact .inr ⟨[a], rfl, List.singleton_sublist.2 (List.mem_append.2 (.inr h2))⟩
      · exact .inl (.inr (.inr ⟨h, h2⟩))
theorem popW_split (v : Int) : ∀ (r o : List Int), r.Pairwise (· < ·) → ∃ r1 r2, r = r1 ++ r2 ∧ popW v o r = (o ++ r1, r2) ∧ (∀ x ∈ r1, x < v) ∧ (∀ x ∈ r2, v ≤ x)
  | [], o, _ => ⟨[], [], rfl, by simp [popW], by simp, by simp⟩
  | x :: r, o, h => by
    obtain ⟨h1, h2⟩ := List.pairwise_cons.1 h
    by_cases hx : x < v
    · obtain ⟨r1, r2, e, h3, h4, h5⟩ := popW_split v r (o ++ [x]) h2
      refine ⟨x :: r1, r2, by rw [e]; rfl, by rw [popW, if_pos hx, h3]; simp, fun y hy => ?_, h5⟩
      rcases List.mem_cons.1 hy with rfl | hy
      · exact hx
      · exact h4 y hy
    · refine ⟨[], x :: r, rfl, by rw [popW, if_neg hx]; simp, by simp, fun y hy => ?_⟩
      rcases List.mem_cons.1 hy with rfl | hy
      · omega
      · have := h1 y hy; omega
/-- While a list goes through the stack. -/
structure Run (L O S : List Int) : Prop where
  inc : S.Pairwise (· < ·)
  mem : ∀ x, x ∈ O ++ S ↔ x ∈ L
  out : ∀ x, x ∈ O ↔ ∃ c, x < c ∧ [x, c].Sublist L
  ord : ∀ a b, a < b → ([b, a].Sublist (O ++ S) ↔ ∃ c, b < c ∧ [b, c, a].Sublist L)
theorem run_nil : Run [] [] [] := ⟨List.Pairwise.nil, by simp, by simp, by simp⟩
theorem run_snoc {L O S : List Int} {v : Int} (h : Run L O S) (hv : v ∉ L) (hn : (O ++ S).Nodup) : Run (L ++ [v]) (popW v O S).1 (v :: (popW v O S).2) := by
  obtain ⟨S1, S2, rfl, hp, h1, h2⟩ := popW_split v S O h.inc
  rw [hp]
  have hS2v : ∀ x ∈ S2, v < x := fun x hx => by
    have h3 := h2 x hx
    have : x ≠ v := fun e => hv (by rw [← e]; exact (h.mem x).1 (by simp [hx]))
    omega
  have hsame : ∀ a b, a ≠ v → b ≠ v → ([b, a].Sublist ((O ++ S1) ++ (v :: S2)) ↔ [b, a].Sublist (O ++ (S1 ++ S2))) := fun a b ha hb => by
    rw [← List.append_assoc, sub_app, sub_app (A := O ++ S1) (B := S2), List.sublist_cons_iff]
    constructor
    · rintro (h3 | (h3 | ⟨r, h3, _⟩) | ⟨h3, h4⟩)
      · exact .inl h3
      · exact .inr (.inl h3)
      · simp at h3; exact absurd h3.1 hb
      · rcases List.mem_cons.1 h4 with h4 | h4
        · exact absurd h4 ha
        · exact .inr (.inr ⟨h3, h4⟩)
    · rintro (h3 | h3 | ⟨h3, h4⟩)
      · exact .inl h3
      · exact .inr (.inl (.inl h3))
      · exact .inr (.inr ⟨h3, List.mem_cons.2 (.inr h4)⟩)
  refine ⟨List.pairwise_cons.2 ⟨hS2v, (List.pairwise_append.1 h.inc).2.1⟩, fun x => ?_, fun x => ?_, fun a b hab => ?_⟩
  · have := h.mem x
    simp only [List.mem_append, List.mem_cons, List.not_mem_nil, or_false] at this ⊢
    rw [← this]
    constructor
    · rintro ((h | h) | h | h) <;> simp [h]
    · rintro ((h | h | h) | h) <;> simp [h]
  · show x ∈ O ++ S1 ↔ _
    rw [List.mem_append]
    constructor
    · rintro (hx | hx)
      · obtain ⟨c, hc, hs⟩ := (h.out x).1 hx
        exact ⟨c, hc, hs.trans (List.sublist_append_left ..)⟩
      · exact ⟨v, h1 x hx, sub2.2 (.inr ⟨rfl, (h.mem x).1 (by simp [hx])⟩)⟩
    · rintro ⟨c, hc, hs⟩
      rcases sub2.1 hs with hs | ⟨rfl, hx⟩
      · exact .inl ((h.out x).2 ⟨c, hc, hs⟩)
      · have := (h.mem x).2 hx
        simp only [List.mem_append] at this
        rcases this with h3 | h3 | h3
        · exact .inl h3
        · exact .inr h3
        · have := h2 x h3; omega
  · show [b, a].Sublist ((O ++ S1) ++ (v :: S2)) ↔ _
    by_cases hbv : b = v
    · subst hbv
      constructor
      · intro hs
        rw [sub_app] at hs
        rcases hs with hs | hs | ⟨hs, _⟩
        · have hb : b ∈ O ++ S1 := hs.subset (by simp)
          exact absurd ((h.mem b).1 (by simp only [List.mem_append] at hb ⊢; rcases hb with hb | hb <;> simp [hb])) hv
        · have ha : a ∈ S2 := by
            rcases List.sublist_cons_iff.1 hs with h3 | ⟨r, h3, h4⟩
            · exact h3.subset (by simp)
            · simp at h3; rw [← h3] at h4; exact List.singleton_sublist.1 h4
          have := hS2v a ha; omega
        · exact absurd ((h.mem b).1 (by simp only [List.mem_append] at hs ⊢; rcases hs with hb | hb <;> simp [hb])) hv
      · rintro ⟨c, hc, hs⟩
        rcases sub3.1 hs with hs | ⟨_, hs⟩
        · exact absurd (hs.subset (by simp)) hv
        · exact absurd (hs.subset (by simp)) hv
    by_cases hav : a = v
    · subst hav
      constructor
      · intro hs
        rw [sub_app] at hs
        have hb : b ∈ O ++ S1 := by
          rcases hs with hs | hs | ⟨hs, _⟩
          · exact hs.subset (by simp)
          · rcases List.sublist_cons_iff.1 hs with h3 | ⟨r, h3, h4⟩
            · have : a ∈ S2 := h3.subset (by simp)
              exact absurd ((h.mem a).1 (by simp [this])) hv
            · simp at h3; exact absurd h3.1 hbv
          · exact hs
        rcases List.mem_append.1 hb with hb | hb
        · obtain ⟨c, hc, hs⟩ := (h.out b).1 hb
          exact ⟨c, hc, sub3.2 (.inr ⟨rfl, hs⟩)⟩
        · have := h1 b hb; omega
      · rintro ⟨c, hc, hs⟩
        rcases sub3.1 hs with hs | ⟨_, hs⟩
        · exact absurd (hs.subset (by simp)) hv
        · have := (h.out b).2 ⟨c, hc, hs⟩
          exact sub_app.2 (.inr (.inr ⟨by simp [this], by simp⟩))
    rw [hsame a b hav hbv, h.ord a b hab]
    constructor
    · rintro ⟨c, hc, hs⟩; exact ⟨c, hc, hs.trans (List.sublist_append_left ..)⟩
    · rintro ⟨c, hc, hs⟩
      rcases sub3.1 hs with hs | ⟨h3, _⟩
      · exact ⟨c, hc, hs⟩
      · exact absurd h3 hav
theorem run_all : ∀ (n : Nat) (L : List Int), L.length = n → L.Nodup → Run L (runW L).1 (runW L).2
  | 0, L, h, _ => by
    obtain rfl : L = [] := List.eq_nil_of_length_eq_zero h
    exact run_nil
  | n + 1, L, h, hn => by
    obtain ⟨M, v, rfl⟩ : ∃ M v, L = M ++ [v] := ⟨L.dropLast, L.getLast (by intro e; rw [e] at h; simp at h), (List.dropLast_concat_getLast _).symm⟩
    have hM : M.length = n := by simpa using h
    have hn2 := List.nodup_append.1 hn
    have hv : v ∉ M := fun hv => hn2.2.2 v hv v (by simp) rfl
    have := run_all n M hM hn2.1
    rw [runW_snoc]
    exact run_snoc this hv (by rw [show (runW M).1 ++ (runW M).2 = passV M from rfl]; exact (passV_perm M).nodup_iff.2 hn2.1)
/-- Who comes ahead of a smaller one after a pass. -/
theorem pass_ord {L : List Int} (hn : L.Nodup) {a b : Int} (hab : a < b) : [b, a].Sublist (passV L) ↔ ∃ c, b < c ∧ [b, c, a].Sublist L := (run_all _ L rfl hn).ord a b hab
theorem rising_pair {M : List Int} : Rising M ↔ M.Pairwise (· ≤ ·) := by
  constructor
  · intro h
    refine List.pairwise_iff_getElem.2 fun i j hi hj hij => ?_
    have := h.all j i (by omega) hj
    simpa [List.getD_eq_getElem?_getD, List.getElem?_eq_getElem hi, List.getElem?_eq_getElem hj] using this
  · intro h i hi
    have := List.pairwise_iff_getElem.1 h i (i + 1) (by omega) hi (by omega)
    simpa [List.getD_eq_getElem?_getD, List.getElem?_eq_getElem (show i < M.length by omega), List.getElem?_eq_getElem hi] using this
theorem rising_sub {M : List Int} : Rising M ↔ ∀ a b, a < b → ¬ [b, a].Sublist M := by
  rw [rising_pair, List.pairwise_iff_forall_sublist]
  constructor
  · intro h a b hab hs
    have := h hs; omega
  · intro h a b hs
    by_cases h1 : b < a
    · exact absurd hs (h b a h1)
    · omega
/-- A stack sorts what has no 231. -/
theorem sorted_iff {L : List Int} (hn : L.Nodup) : Rising (passV L) ↔ ¬ ∃ a b c, a < b ∧ b < c ∧ [b, c, a].Sublist L := by
  rw [rising_sub]
  constructor
  · rintro h ⟨a, b, c, hab, hbc, hs⟩
    exact h a b hab ((pass_ord hn hab).2 ⟨c, hbc, hs⟩)
  · intro h a b hab hs
    obtain ⟨c, hbc, hs⟩ := (pass_ord hn hab).1 hs
    exact h ⟨a, b, c, hab, hbc, hs⟩
/-! ### Sublists by places -/
theorem sub_nth2 {x y : Int} : ∀ {L : List Int}, [x, y].Sublist L ↔ ∃ i j : Nat, i < j ∧ L[i]? = some x ∧ L[j]? = some y
  | [] => by simp
  | w :: L => by
    rw [List.sublist_cons_iff, sub_nth2]
    constructor
    · rintro (⟨i, j, hij, h1, h2⟩ | ⟨r, h1, h2⟩)
      · exact ⟨i + 1, j + 1, by omega, by simpa using h1, by simpa using h2⟩
      · simp at h1
        obtain ⟨rfl, rfl⟩ := h1
        obtain ⟨j, hj, e⟩ := List.getElem_of_mem (List.singleton_sublist.1 h2)
        exact ⟨0, j + 1, by omega, rfl, by simp [List.getElem?_eq_getElem hj, e]⟩
    · rintro ⟨i, j, hij, h1, h2⟩
      obtain ⟨j, rfl⟩ : ∃ j', j = j' + 1 := ⟨j - 1, by omega⟩
      rw [List.getElem?_cons_succ] at h2
      cases i with
      | zero => simp at h1; subst h1; exact .inr ⟨[y], rfl, List.singleton_sublist.2 (List.mem_of_getElem? h2)⟩
      | succ i => rw [List.getElem?_cons_succ] at h1; exact .inl ⟨i, j, by omega, h1, h2⟩
theorem sub_nth3 {x y z : Int} : ∀ {L : List Int}, [x, y, z].Sublist L ↔ ∃ i j k : Nat, i < j ∧ j < k ∧ L[i]? = some x ∧ L[j]? = some y ∧ L[k]? = some z
  | [] => by simp
  | w :: L => by
    rw [List.sublist_cons_iff, sub_nth3]
    constructor
    · rintro (⟨i, j, k, hij, hjk, h1, h2, h3⟩ | ⟨r, h1, h2⟩)
      · exact ⟨i + 1, j + 1, k + 1, by omega, by omega, by simpa using h1, by simpa using h2, by simpa using h3⟩
      · simp at h1
        obtain ⟨rfl, rfl⟩ := h1
        obtain ⟨j, k, hjk, e1, e2⟩ := sub_nth2.1 h2
        exact ⟨0, j + 1, k + 1, by omega, by omega, rfl, by simpa using e1, by simpa using e2⟩
    · rintro ⟨i, j, k, hij, hjk, h1, h2, h3⟩
      obtain ⟨j, rfl⟩ : ∃ j', j = j' + 1 := ⟨j - 1, by omega⟩
      obtain ⟨k, rfl⟩ : ∃ k', k = k' + 1 := ⟨k - 1, by omega⟩
      rw [List.getElem?_cons_succ] at h2 h3
      cases i with
      | zero => simp at h1; subst h1; exact .inr ⟨[y, z], rfl, sub_nth2.2 ⟨j, k, by omega, h2, h3⟩⟩
      | succ i => rw [List.getElem?_cons_succ] at h1; exact .inl ⟨i, j, k, by omega, by omega, h1, h2, h3⟩
theorem nth_inj {L : List Int} (hn : L.Nodup) {i j : Nat} {x : Int} (h1 : L[i]? = some x) (h2 : L[j]? = some x) : i = j := by
  obtain ⟨hi, e1⟩ := List.getElem?_eq_some_iff.1 h1
  obtain ⟨hj, e2⟩ := List.getElem?_eq_some_iff.1 h2
  have hp := List.pairwise_iff_getElem.1 hn
  rcases Nat.lt_trichotomy i j with h | h | h
  · exact absurd (e1.trans e2.symm) (hp i j hi hj h)
  · exact h
  · exact absurd (e2.trans e1.symm) (hp j i hj hi h)
/-! ### Two passes -/
/-- 2341, or 3241 with nothing greater than the four between the three and the two. -/
def Bad2 (L : List Int) : Prop :=
  (∃ i j k l : Nat, i < j ∧ j < k ∧ k < l ∧ ∃ a b c d, a < b ∧ b < c ∧ c < d ∧ L[i]? = some b ∧ L[j]? = some c ∧ L[k]? = some d ∧ L[l]? = some a) ∨
  (∃ i j k l : Nat, i < j ∧ j < k ∧ k < l ∧ ∃ a b c d, a < b ∧ b < c ∧ c < d ∧ L[i]? = some c ∧ L[j]? = some b ∧ L[k]? = some d ∧ L[l]? = some a ∧ ∀ (m : Nat) x, i < m → m < j → L[m]? = some x → ¬ d < x)
theorem pass_nodup {L : List Int} (hn : L.Nodup) : (passV L).Nodup := (passV_perm L).nodup_iff.2 hn
/-- b ahead of a greater one after a pass. -/
theorem pass_keep {L : List Int} (hn : L.Nodup) {b c : Int} (hb : b ∈ L) (hc : c ∈ L) (hbc : b < c) : [b, c].Sublist (passV L) ↔ ¬ ∃ d, c < d ∧ [c, d, b].Sublist L := by
  rw [← pass_ord hn hbc]
  have hn2 := pass_nodup hn
  have hb2 := (passV_perm L).mem_iff.2 hb
  have hc2 := (passV_perm L).mem_iff.2 hc
  obtain ⟨i, hi, rfl⟩ := List.getElem_of_mem hb2
  obtain ⟨j, hj, rfl⟩ := List.getElem_of_mem hc2
  have hij : i ≠ j := fun e => by subst e; omega
  constructor
  · intro h1 h2
    obtain ⟨a1, a2, h3, h4, h5⟩ := sub_nth2.1 h1
    obtain ⟨b1, b2, h6, h7, h8⟩ := sub_nth2.1 h2
    have := nth_inj hn2 h4 h8
    have := nth_inj hn2 h5 h7
    omega
  · intro h
    rcases Nat.lt_or_gt_of_ne hij with h1 | h1
    · exact sub_nth2.2 ⟨i, j, h1, List.getElem?_eq_getElem hi, List.getElem?_eq_getElem hj⟩
    · exact absurd (sub_nth2.2 ⟨j, i, h1, List.getElem?_eq_getElem hj, List.getElem?_eq_getElem hi⟩) h
theorem twice_bad {L : List Int} (hn : L.Nodup) : ¬ Rising (passV (passV L)) ↔ ∃ a b c, a < b ∧ b < c ∧ [b, c, a].Sublist (passV L) := by
  rw [sorted_iff (pass_nodup hn), Classical.not_not]
/-- Three in a row, of a list without repetition. -/
theorem three {M : List Int} (hn : M.Nodup) {b c a : Int} : [b, c, a].Sublist M ↔ [b, c].Sublist M ∧ [c, a].Sublist M := by
  constructor
  · intro h
    obtain ⟨i, j, k, hij, hjk, h1, h2, h3⟩ := sub_nth3.1 h
    exact ⟨sub_nth2.2 ⟨i, j, hij, h1, h2⟩, sub_nth2.2 ⟨j, k, hjk, h2, h3⟩⟩
  · rintro ⟨h, h'⟩
    obtain ⟨i, j, hij, h1, h2⟩ := sub_nth2.1 h
    obtain ⟨j', k, hjk, h3, h4⟩ := sub_nth2.1 h'
    have := nth_inj hn h2 h3
    subst this
    exact sub_nth3.2 ⟨i, j, k, hij, hjk, h1, h2, h4⟩
/-- The greatest of some places. -/
theorem great_at {L : List Int} {i : Nat} : ∀ (n : Nat), i + n < L.length → ∃ (m : Nat) (c : Int), i ≤ m ∧ m ≤ i + n ∧ L[m]? = some c ∧ ∀ (k : Nat) (x : Int), i ≤ k → k ≤ i + n → L[k]? = some x → x ≤ c
  | 0, h => ⟨i, L[i]'(by omega), by omega, by omega, List.getElem?_eq_getElem (by omega), fun k x h1 h2 h3 => by
      have : k = i := by omega
      subst this
      rw [List.getElem?_eq_getElem (by omega)] at h3; cases h3; exact Int.le_refl _⟩
  | n + 1, h => by
    obtain ⟨m, c, h1, h2, h3, h4⟩ := great_at (L := L) (i := i) n (by omega)
    have hl : L[i + (n + 1)]? = some L[i + (n + 1)] := List.getElem?_eq_getElem h
    by_cases hc : c < L[i + (n + 1)]
    · refine ⟨i + (n + 1), _, by omega, by omega, hl, fun k x h5 h6 h7 => ?_⟩
      by_cases hk : k = i + (n + 1)
      · subst hk; rw [hl] at h7; cases h7; exact Int.le_refl _
      · have := h4 k x h5 (by omega) h7; omega
    · refine ⟨m, c, h1, by omega, h3, fun k x h5 h6 h7 => ?_⟩
      by_cases hk : k = i + (n + 1)
      · subst hk; rw [hl] at h7; cases h7; omega
      · exact h4 k x h5 (by omega) h7
theorem twice_iff {L : List Int} (hn : L.Nodup) : ¬ Rising (passV (passV L)) ↔ Bad2 L := by
  rw [twice_bad hn]
  have hn2 := pass_nodup hn
  constructor
  · rintro ⟨a, b, c, hab, hbc, hs⟩
    obtain ⟨h1, h2⟩ := (three hn2).1 hs
    have hb : b ∈ L := (passV_perm L).mem_iff.1 (h1.subset (by simp))
    have hc : c ∈ L := (passV_perm L).mem_iff.1 (h1.subset (by simp))
    have h3 := (pass_keep hn hb hc hbc).1 h1
    obtain ⟨d, hcd, hs1⟩ := (pass_ord hn (by omega)).1 h2
    have h4 : [b, a].Sublist (passV L) := by
      obtain ⟨i, j, k, hij, hjk, e1, e2, e3⟩ := sub_nth3.1 hs
      exact sub_nth2.2 ⟨i, k, by omega, e1, e3⟩
    obtain ⟨e, hbe, hs2⟩ := (pass_ord hn hab).1 h4
    obtain ⟨pc, pd, pa, q1, q2, e1, e2, e3⟩ := sub_nth3.1 hs1
    obtain ⟨pb, pe, pa', q3, q4, e4, e5, e6⟩ := sub_nth3.1 hs2
    have := nth_inj hn e3 e6
    subst this
    rcases Nat.lt_trichotomy pb pc with h5 | h5 | h5
    · exact .inl ⟨pb, pc, pd, pa, h5, q1, q2, a, b, c, d, hab, hbc, hcd, e4, e1, e2, e3⟩
    · subst h5; rw [e1] at e4; cases e4; omega
    · have hdb : pb < pd := by
        rcases Nat.lt_trichotomy pb pd with h6 | h6 | h6
        · exact h6
        · subst h6; rw [e2] at e4; cases e4; omega
        · exact absurd ⟨d, hcd, sub_nth3.2 ⟨pc, pd, pb, q1, h6, e1, e2, e4⟩⟩ h3
      refine .inr ⟨pc, pb, pd, pa, h5, hdb, q2, a, b, c, d, hab, hbc, hcd, e1, e4, e2, e3, fun m x h7 h8 h9 hdx => h3 ⟨x, by omega, sub_nth3.2 ⟨pc, m, pb, h7, h8, e1, h9, e4⟩⟩⟩
  · rintro (⟨i, j, k, l, hij, hjk, hkl, a, b, c, d, hab, hbc, hcd, e1, e2, e3, e4⟩ | ⟨i, j, k, l, hij, hjk, hkl, a, b, c, d, hab, hbc, hcd, e1, e2, e3, e4, hno⟩)
    · refine ⟨a, b, c, hab, hbc, (three hn2).2 ⟨(pass_keep hn (List.mem_of_getElem? e1) (List.mem_of_getElem? e2) hbc).2 ?_, (pass_ord hn (by omega)).2 ⟨d, hcd, sub_nth3.2 ⟨j, k, l, hjk, hkl, e2, e3, e4⟩⟩⟩⟩
      rintro ⟨d', _, hs⟩
      obtain ⟨p, q, r, h1, h2, f1, f2, f3⟩ := sub_nth3.1 hs
      have := nth_inj hn f1 e2
      have := nth_inj hn f3 e1
      omega
    · have hjl : j < L.length := (List.getElem?_eq_some_iff.1 e2).1
      obtain ⟨m, c', h1, h2, h3, h4⟩ := great_at (L := L) (i := i) (j - 1 - i) (by omega)
      have hcc : c ≤ c' := h4 i c (by omega) (by omega) e1
      have hc'd : c' < d := by
        by_cases hmi : m = i
        · subst hmi; rw [e1] at h3; cases h3; exact hcd
        · have h5 := hno m c' (by omega) (by omega) h3
          have : c' ≠ d := fun e => by
            subst e
            have := nth_inj hn h3 e3
            omega
          omega
      refine ⟨a, b, c', hab, by omega, (three hn2).2 ⟨(pass_keep hn (List.mem_of_getElem? e2) (List.mem_of_getElem? h3) (by omega)).2 ?_, (pass_ord hn (by omega)).2 ⟨d, hc'd, sub_nth3.2 ⟨m, k, l, by omega, hkl, h3, e3, e4⟩⟩⟩⟩
      rintro ⟨x, hx, hs⟩
      obtain ⟨p, q, r, h5, h6, f1, f2, f3⟩ := sub_nth3.1 hs
      have := nth_inj hn f1 h3
      have := nth_inj hn f3 e2
      have := h4 q x (by omega) (by omega) f2
      omega
/-- The times that a stack wants. -/
theorem it_enough {L : List Int} {n : Nat} (h : L.Perm (idn n)) (hn : 0 < n) : Rising (itW (n - 1) L) := by
  obtain ⟨M, h1, h2⟩ := it_shape h (n - 1) (by omega)
  rw [show n - (n - 1) = 1 by omega] at h1 h2
  have hM : M = [1] := by
    have : idn 1 = [1] := by decide
    rw [this] at h2
    exact List.perm_singleton.1 h2
  rw [h1, hM, rising_pair, List.singleton_append, List.pairwise_cons]
  refine ⟨fun x hx => by have := (mem_seg.1 hx).1; omega, (seg_pairwise 1 n).imp fun h => Int.le_of_lt h⟩
end Go.Proofs.Ytlcemelmnkipmaa

/- Patterns of three and four by their places: plain facts. -/
namespace Go.Proofs.Ytlcemelmnkipmaa
open Go
set_option maxRecDepth 100000

theorem fits_iff {P Q h : List Int} {x : Int} : fitsB P Q h x = true ↔ ∀ k, k < h.length → (P.getD (h.getD k 0 - 1).toNat 0 < P.getD (x - 1).toNat 0 ↔ Q.getD k 0 < Q.getD h.length 0) := by
  rw [fitsB_iff]
  constructor
  · intro h1 k hk
    have := h1 k hk
    rw [fitsAt, beq_iff_eq, decide_eq_decide] at this
    exact this
  · intro h1 k hk
    rw [fitsAt, beq_iff_eq, decide_eq_decide]
    exact h1 k hk
theorem has3 {P : List Int} {q1 q2 q3 : Int} : hasP P [q1, q2, q3] = true ↔ ∃ i j k : Nat, i < j ∧ j < k ∧ k < P.length ∧
    (P.getD i 0 < P.getD j 0 ↔ q1 < q2) ∧ (P.getD i 0 < P.getD k 0 ↔ q1 < q3) ∧ (P.getD j 0 < P.getD k 0 ↔ q2 < q3) := by
  unfold hasP
  rw [show [q1, q2, q3].length = 2 + 1 from rfl, hasB_succ]
  constructor
  · rintro ⟨x, h1, h2, _, h3⟩
    obtain ⟨y, h4, h5, h6, h7⟩ := hasB_succ.1 h3
    obtain ⟨z, h8, h9, h10, _⟩ := hasB_succ.1 h7
    rw [lastD_nil] at h1
    rw [List.nil_append] at h4 h6 h8 h10
    have e1 : lastD [x] = x := rfl
    have e2 : lastD ([x] ++ [y]) = y := lastD_snoc _ _
    rw [e1] at h4
    rw [e2] at h8
    have f1 := fits_iff.1 h6 0 (by simp)
    have f2 := fits_iff.1 h10 0 (by simp)
    have f3 := fits_iff.1 h10 1 (by simp)
    simp at f1 f2 f3
    refine ⟨(x - 1).toNat, (y - 1).toNat, (z - 1).toNat, by omega, by omega, by omega, ?_, ?_, ?_⟩
    · simpa using f1
    · simpa using f2
    · simpa using f3
  · rintro ⟨i, j, k, hij, hjk, hk, f1, f2, f3⟩
    refine ⟨i + 1, by rw [lastD_nil]; omega, by omega, fits_iff.2 (fun k hk => by simp at hk), hasB_succ.2 ⟨j + 1, ?_, by omega, fits_iff.2 fun k hk => ?_, hasB_succ.2 ⟨k + 1, ?_, by omega, fits_iff.2 fun m hm => ?_, hasB_zero ..⟩⟩⟩
    · rw [lastD_snoc]; omega
    · simp at hk
      subst hk
      simpa using f1
    · rw [lastD_snoc]; omega
    · simp at hm
      rcases (show m = 0 ∨ m = 1 by omega) with rfl | rfl
      · simpa using f2
      · simpa using f3
theorem has4 {P : List Int} {q1 q2 q3 q4 : Int} : hasP P [q1, q2, q3, q4] = true ↔ ∃ i j k l : Nat, i < j ∧ j < k ∧ k < l ∧ l < P.length ∧
    (P.getD i 0 < P.getD j 0 ↔ q1 < q2) ∧ (P.getD i 0 < P.getD k 0 ↔ q1 < q3) ∧ (P.getD j 0 < P.getD k 0 ↔ q2 < q3) ∧ (P.getD i 0 < P.getD l 0 ↔ q1 < q4) ∧ (P.getD j 0 < P.getD l 0 ↔ q2 < q4) ∧ (P.getD k 0 < P.getD l 0 ↔ q3 < q4) := by
  unfold hasP
  rw [show [q1, q2, q3, q4].length = 3 + 1 from rfl, hasB_succ]
  constructor
  · rintro ⟨x, h1, h2, _, h3⟩
    obtain ⟨y, h4, h5, h6, h7⟩ := hasB_succ.1 h3
    obtain ⟨z, h8, h9, h10, h11⟩ := hasB_succ.1 h7
    obtain ⟨u, h12, h13, h14, _⟩ := hasB_succ.1 h11
    rw [lastD_nil] at h1
    rw [List.nil_append] at h4 h6 h8 h10 h12 h14
    have e1 : lastD [x] = x := rfl
    have e2 : lastD ([x] ++ [y]) = y := lastD_snoc _ _
    have e3 : lastD ([x] ++ [y] ++ [z]) = z := lastD_snoc _ _
    rw [e1] at h4
    rw [e2] at h8
    rw [e3] at h12
    have f1 := fits_iff.1 h6 0 (by simp)
    have f2 := fits_iff.1 h10 0 (by simp)
    have f3 := fits_iff.1 h10 1 (by simp)
    have f4 := fits_iff.1 h14 0 (by simp)
    have f5 := fits_iff.1 h14 1 (by simp)
    have f6 := fits_iff.1 h14 2 (by simp)
    simp at f1 f2 f3 f4 f5 f6
    refine ⟨(x - 1).toNat, (y - 1).toNat, (z - 1).toNat, (u - 1).toNat, by omega, by omega, by omega, by omega, ?_, ?_, ?_, ?_, ?_, ?_⟩
    · simpa using f1
    · simpa using f2
    · simpa using f3
    · simpa using f4
    · simpa using f5
    · simpa using f6
  · rintro ⟨i, j, k, l, hij, hjk, hkl, hl, f1, f2, f3, f4, f5, f6⟩
    refine ⟨i + 1, by rw [lastD_nil]; omega, by omega, fits_iff.2 (fun k hk => by simp at hk), hasB_succ.2 ⟨j + 1, ?_, by omega, fits_iff.2 fun k hk => ?_, hasB_succ.2 ⟨k + 1, ?_, by omega, fits_iff.2 fun m hm => ?_, hasB_succ.2 ⟨l + 1, ?_, by omega, fits_iff.2 fun m hm => ?_, hasB_zero ..⟩⟩⟩⟩
    · rw [lastD_snoc]; omega
    · simp at hk
      subst hk
      simpa using f1
    · rw [lastD_snoc]; omega
    · simp at hm
      rcases (show m = 0 ∨ m = 1 by omega) with rfl | rfl
      · simpa using f2
      · simpa using f3
    · rw [lastD_snoc]; omega
    · simp at hm
      rcases (show m = 0 ∨ m = 1 ∨ m = 2 by omega) with rfl | rfl | rfl
      · simpa using f4
      · simpa using f5
      · simpa using f6
theorem nth_getD {P : List Int} {i : Nat} {x : Int} (h : P[i]? = some x) : i < P.length ∧ P.getD i 0 = x := by
  obtain ⟨hi, e⟩ := List.getElem?_eq_some_iff.1 h
  exact ⟨hi, by rw [getD_lt hi]; exact e⟩
theorem nth_of {P : List Int} {i : Nat} (h : i < P.length) : P[i]? = some (P.getD i 0) := by rw [getD_lt h]; exact List.getElem?_eq_getElem h
theorem getD_ne {P : List Int} (hn : P.Nodup) {i j : Nat} (hij : i < j) (hj : j < P.length) : P.getD i 0 ≠ P.getD j 0 := fun e => by
  have := nth_inj hn (nth_of (show i < P.length by omega)) (by rw [e]; exact nth_of hj)
  omega
/-- 231 by values. -/
theorem has231 {P : List Int} (hn : P.Nodup) : hasP P [2, 3, 1] = true ↔ ∃ a b c, a < b ∧ b < c ∧ [b, c, a].Sublist P := by
  rw [has3]
  constructor
  · rintro ⟨i, j, k, hij, hjk, hk, f1, f2, f3⟩
    have n2 := getD_ne hn (show i < k by omega) hk
    refine ⟨P.getD k 0, P.getD i 0, P.getD j 0, ?_, f1.2 (by decide), sub_nth3.2 ⟨i, j, k, hij, hjk, nth_of (by omega), nth_of (by omega), nth_of hk⟩⟩
    have : ¬ P.getD i 0 < P.getD k 0 := fun h => absurd (f2.1 h) (by decide)
    omega
  · rintro ⟨a, b, c, hab, hbc, hs⟩
    obtain ⟨i, j, k, hij, hjk, h1, h2, h3⟩ := sub_nth3.1 hs
    obtain ⟨l1, e1⟩ := nth_getD h1
    obtain ⟨l2, e2⟩ := nth_getD h2
    obtain ⟨l3, e3⟩ := nth_getD h3
    exact ⟨i, j, k, hij, hjk, l3, by omega, by omega, by omega⟩
theorem isP_len4 {P : List Int} (hn : P.Nodup) : (hasP P [2, 3, 4, 1] = true ∨ ∃ i j k l : Nat, i < j ∧ j < k ∧ k < l ∧ l < P.length ∧ P.getD l 0 < P.getD j 0 ∧ P.getD j 0 < P.getD i 0 ∧ P.getD i 0 < P.getD k 0 ∧ ∀ m, i < m → m < j → ¬ P.getD k 0 < P.getD m 0) ↔ Bad2 P := by
  constructor
  · rintro (h | ⟨i, j, k, l, hij, hjk, hkl, hl, h1, h2, h3, h4⟩)
    · obtain ⟨i, j, k, l, hij, hjk, hkl, hl, f1, f2, f3, f4, f5, f6⟩ := has4.1 h
      have n1 := getD_ne hn (show i < l by omega) hl
      exact .inl ⟨i, j, k, l, hij, hjk, hkl, P.getD l 0, P.getD i 0, P.getD j 0, P.getD k 0, by omega, by omega, by omega, nth_of (by omega), nth_of (by omega), nth_of (by omega), nth_of hl⟩
    · refine .inr ⟨i, j, k, l, hij, hjk, hkl, P.getD l 0, P.getD j 0, P.getD i 0, P.getD k 0, h1, h2, h3, nth_of (by omega), nth_of (by omega), nth_of (by omega), nth_of hl, fun m x hm1 hm2 hx => ?_⟩
      rw [← (nth_getD hx).2]
      exact h4 m hm1 hm2
  · rintro (⟨i, j, k, l, hij, hjk, hkl, a, b, c, d, hab, hbc, hcd, h1, h2, h3, h4⟩ | ⟨i, j, k, l, hij, hjk, hkl, a, b, c, d, hab, hbc, hcd, h1, h2, h3, h4, h5⟩)
    · obtain ⟨l1, e1⟩ := nth_getD h1
      obtain ⟨l2, e2⟩ := nth_getD h2
      obtain ⟨l3, e3⟩ := nth_getD h3
      obtain ⟨l4, e4⟩ := nth_getD h4
      exact .inl (has4.2 ⟨i, j, k, l, hij, hjk, hkl, l4, by omega, by omega, by omega, by omega, by omega, by omega⟩)
    · obtain ⟨l1, e1⟩ := nth_getD h1
      obtain ⟨l2, e2⟩ := nth_getD h2
      obtain ⟨l3, e3⟩ := nth_getD h3
      obtain ⟨l4, e4⟩ := nth_getD h4
      refine .inr ⟨i, j, k, l, hij, hjk, hkl, l4, by omega, by omega, by omega, fun m hm1 hm2 => ?_⟩
      rw [e3]
      exact h5 m _ hm1 hm2 (nth_of (by omega))
/-- Two passes sort (West): in the words of IsTwicePattern. -/
theorem twice_says {P : List Int} (hn : P.Nodup) : Rising (passV (passV P)) ↔ hasP P [2, 3, 4, 1] = false ∧
    ∀ a b c d : Int, 1 ≤ a → a < b → b < c → c < d → d ≤ P.length → P.getD (d - 1).toNat 0 < P.getD (b - 1).toNat 0 → P.getD (b - 1).toNat 0 < P.getD (a - 1).toNat 0 → P.getD (a - 1).toNat 0 < P.getD (c - 1).toNat 0 →
      ∃ e, a < e ∧ e < b ∧ P.getD (c - 1).toNat 0 < P.getD (e - 1).toNat 0 := by
  have h0 := twice_iff hn
  rw [← isP_len4 hn] at h0
  constructor
  · intro h
    have h1 := fun hh => (h0.2 hh) h
    refine ⟨?_, fun a b c d g1 g2 g3 g4 g5 g6 g7 g8 => ?_⟩
    · cases hc : hasP P [2, 3, 4, 1]
      · rfl
      · exact (h1 (.inl hc)).elim
    · refine Classical.byContradiction fun hno => h1 (.inr ⟨(a - 1).toNat, (b - 1).toNat, (c - 1).toNat, (d - 1).toNat, by omega, by omega, by omega, by omega, g6, g7, g8, fun m hm1 hm2 hlt => hno ⟨(m : Int) + 1, by omega, by omega, ?_⟩⟩)
      rw [show ((m : Int) + 1 - 1).toNat = m by omega]; exact hlt
  · rintro ⟨h1, h2⟩
    refine Classical.byContradiction fun hno => ?_
    rcases h0.1 hno with h3 | ⟨i, j, k, l, hij, hjk, hkl, hl, g1, g2, g3, g4⟩
    · rw [h1] at h3; cases h3
    · have e : ∀ x : Nat, ((x : Int) + 1 - 1).toNat = x := fun x => by omega
      obtain ⟨m, hm1, hm2, hm3⟩ := h2 (i + 1) (j + 1) (k + 1) (l + 1) (by omega) (by omega) (by omega) (by omega) (by omega) (by rw [e, e]; exact g1) (by rw [e, e]; exact g2) (by rw [e, e]; exact g3)
      rw [e] at hm3
      exact g4 (m - 1).toNat (by omega) (by omega) hm3
end Go.Proofs.Ytlcemelmnkipmaa

/- A permutation has no number twice. -/
namespace Go.Proofs.Ytlcemelmnkipmaa
open Go
theorem isP_nd {L : List Int} (h : IsP L) : L.Nodup := by
  rw [List.nodup_iff_pairwise_ne, List.pairwise_iff_getElem]
  intro i j hi hj hij e
  refine (h.2 j hj).2.2 i hij ?_
  simp only [List.getD_eq_getElem?_getD, List.getElem?_eq_getElem hi, List.getElem?_eq_getElem hj, Option.getD_some]
  exact e
end Go.Proofs.Ytlcemelmnkipmaa

/- What each function does, step by step, written by a program (Gen.lean); each equation is checked by the kernel. -/
namespace Go.Proofs.Ytlcemelmnkipmaa
open Go
set_option linter.unusedVariables false
set_option maxRecDepth 100000
namespace spec_SameLows
@[reducible] def cfg : Cfg := ⟨36, [], [], [], [4], [], [29, 12, 74, 34, 92, 23, 62, 26, 37, 94], [72, 85, 91, 22, 40, 4, 43]⟩
def E (pr : Prims) (p_0 : Sl) (q_1 : Sl) (w : World) (R : Ending → World → Prop) : Prop :=
  wpC pr PP cfg (DD pr) (codeOf Try.f14) (retQ Try.f14.results.toList R) (argE 0 [Sl.v p_0, Sl.v q_1]) w
theorem E_eq (pr : Prims) (p_0 : Sl) (q_1 : Sl) (w : World) (R : Ending → World → Prop) : E pr p_0 q_1 w R = (
  pr.call1 .bool PP F.spec_IsPerm #[Sl.v p_0] w fun (ρ0 : Bool) ω1 =>
  bif !ρ0 then (
  R (.returned (.bool false)) ω1)
  else (
  pr.call1 .bool PP F.spec_IsPerm #[Sl.v q_1] ω1 fun (ρ2 : Bool) ω3 =>
  bif !ρ2 then (
  R (.returned (.bool false)) ω3)
  else (
  bif (p_0.n : Int) != (q_1.n : Int) then (
  R (.returned (.bool false)) ω3)
  else (
  pr.call1 .sl PP F.spec_LowsOf #[Sl.v p_0] ω3 fun (ρ4 : Sl) ω5 =>
  pr.call1 .sl PP F.spec_LowsOf #[Sl.v q_1] ω5 fun (ρ6 : Sl) ω7 =>
  pr.call1 .bool PP F.spec_l2Same #[Sl.v ρ4, Sl.v ρ6] ω7 fun (ρ8 : Bool) ω9 =>
  bif ρ8 then (
  pr.call1 .sl PP F.spec_l7At #[Sl.v p_0, Sl.v ρ4] ω9 fun (ρ10 : Sl) ω11 =>
  pr.call1 .sl PP F.spec_l7At #[Sl.v q_1, Sl.v ρ4] ω11 fun (ρ12 : Sl) ω13 =>
  pr.call1 .bool PP F.spec_l2Same #[Sl.v ρ10, Sl.v ρ12] ω13 fun (ρ14 : Bool) ω15 =>
  R (.returned (.bool ρ14)) ω15)
  else (
  R (.returned (.bool false)) ω9))))) := by kernel_rfl
theorem E_s (p_0 : Sl) (q_1 : Sl) (w : World) (R : Ending → World → Prop) : E std p_0 q_1 w R = (
  call1 .bool PP F.spec_IsPerm #[Sl.v p_0] w fun (ρ0 : Bool) ω1 =>
  bif !ρ0 then (
  R (.returned (.bool false)) ω1)
  else (
  call1 .bool PP F.spec_IsPerm #[Sl.v q_1] ω1 fun (ρ2 : Bool) ω3 =>
  bif !ρ2 then (
  R (.returned (.bool false)) ω3)
  else (
  bif (p_0.n : Int) != (q_1.n : Int) then (
  R (.returned (.bool false)) ω3)
  else (
  call1 .sl PP F.spec_LowsOf #[Sl.v p_0] ω3 fun (ρ4 : Sl) ω5 =>
  call1 .sl PP F.spec_LowsOf #[Sl.v q_1] ω5 fun (ρ6 : Sl) ω7 =>
  call1 .bool PP F.spec_l2Same #[Sl.v ρ4, Sl.v ρ6] ω7 fun (ρ8 : Bool) ω9 =>
  bif ρ8 then (
  call1 .sl PP F.spec_l7At #[Sl.v p_0, Sl.v ρ4] ω9 fun (ρ10 : Sl) ω11 =>
  call1 .sl PP F.spec_l7At #[Sl.v q_1, Sl.v ρ4] ω11 fun (ρ12 : Sl) ω13 =>
  call1 .bool PP F.spec_l2Same #[Sl.v ρ10, Sl.v ρ12] ω13 fun (ρ14 : Bool) ω15 =>
  R (.returned (.bool ρ14)) ω15)
  else (
  R (.returned (.bool false)) ω9))))) := E_eq std p_0 q_1 w R
theorem drawsOk : drawsOk PP cfg okD (codeOf Try.f14) = true := by kernel_rfl
theorem calls (p_0 : Sl) (q_1 : Sl) {w : World} {R : Ending → World → Prop} (h : E std p_0 q_1 w R) : Calls PP F.spec_SameLows #[Sl.v p_0, Sl.v q_1] w R :=
  calls_of noCount mixed drawOk Try.func14 rfl (c := cfg) (args := [Sl.v p_0, Sl.v q_1]) rfl (Nat.le_of_ble_eq_true (by kernel_rfl)) drawsOk h
end spec_SameLows

namespace impl_SameLows
@[reducible] def cfg : Cfg := ⟨33, [], [], [], [4], [], [29, 12, 74, 34, 92, 23, 62, 26, 37, 94], [72, 85, 91, 22, 40, 4, 43]⟩
def E (pr : Prims) (p_0 : Sl) (q_1 : Sl) (w : World) (R : Ending → World → Prop) : Prop :=
  wpC pr PP cfg (DD pr) (codeOf Try.f13) (retQ Try.f13.results.toList R) (argE 0 [Sl.v p_0, Sl.v q_1]) w
theorem E_eq (pr : Prims) (p_0 : Sl) (q_1 : Sl) (w : World) (R : Ending → World → Prop) : E pr p_0 q_1 w R = (
  pr.newK T_Sint #[Sl.v p_0] w fun (a0 : Addr) ω1 =>
  pr.newK T_Sint #[Sl.v q_1] ω1 fun (a2 : Addr) ω3 =>
  pr.load1 .sl a0 ω3 fun (ξ4 : Sl) =>
  pr.call1 .bool PP F.impl_IsPerm #[Sl.v ξ4] ω3 fun (ρ5 : Bool) ω6 =>
  bif !ρ5 then (
  R (.returned (.bool false)) ω6)
  else (
  pr.load1 .sl a2 ω6 fun (ξ7 : Sl) =>
  pr.call1 .bool PP F.impl_IsPerm #[Sl.v ξ7] ω6 fun (ρ8 : Bool) ω9 =>
  bif !ρ8 then (
  R (.returned (.bool false)) ω9)
  else (
  pr.load1 .sl a0 ω9 fun (ξ10 : Sl) =>
  pr.load1 .sl a2 ω9 fun (ξ11 : Sl) =>
  bif (ξ10.n : Int) != (ξ11.n : Int) then (
  R (.returned (.bool false)) ω9)
  else (
  pr.load1 .sl a0 ω9 fun (ξ12 : Sl) =>
  pr.call1 .sl PP F.impl_LowsOf #[Sl.v ξ12] ω9 fun (ρ13 : Sl) ω14 =>
  pr.load1 .sl a2 ω14 fun (ξ15 : Sl) =>
  pr.call1 .sl PP F.impl_LowsOf #[Sl.v ξ15] ω14 fun (ρ16 : Sl) ω17 =>
  pr.call1 .bool PP F.slices_Equal___int_int_ #[Sl.v ρ13, Sl.v ρ16] ω17 fun (ρ18 : Bool) ω19 =>
  bif ρ18 then (
  pr.call1 .bool PP F.slices_ContainsFunc___int_int_ #[Sl.v ρ13, (.func (.func F.impl_SameLowsL1) #[] #[.pointer (some a0), .pointer (some a2)])] ω19 fun (ρ20 : Bool) ω21 =>
  R (.returned (.bool (!ρ20))) ω21)
  else (
  R (.returned (.bool false)) ω19))))) := by kernel_rfl
theorem E_s (p_0 : Sl) (q_1 : Sl) (w : World) (R : Ending → World → Prop) : E std p_0 q_1 w R = (
  newK T_Sint #[Sl.v p_0] w fun (a0 : Addr) ω1 =>
  newK T_Sint #[Sl.v q_1] ω1 fun (a2 : Addr) ω3 =>
  load1 .sl a0 ω3 fun (ξ4 : Sl) =>
  call1 .bool PP F.impl_IsPerm #[Sl.v ξ4] ω3 fun (ρ5 : Bool) ω6 =>
  bif !ρ5 then (
  R (.returned (.bool false)) ω6)
  else (
  load1 .sl a2 ω6 fun (ξ7 : Sl) =>
  call1 .bool PP F.impl_IsPerm #[Sl.v ξ7] ω6 fun (ρ8 : Bool) ω9 =>
  bif !ρ8 then (
  R (.returned (.bool false)) ω9)
  else (
  load1 .sl a0 ω9 fun (ξ10 : Sl) =>
  load1 .sl a2 ω9 fun (ξ11 : Sl) =>
  bif (ξ10.n : Int) != (ξ11.n : Int) then (
  R (.returned (.bool false)) ω9)
  else (
  load1 .sl a0 ω9 fun (ξ12 : Sl) =>
  call1 .sl PP F.impl_LowsOf #[Sl.v ξ12] ω9 fun (ρ13 : Sl) ω14 =>
  load1 .sl a2 ω14 fun (ξ15 : Sl) =>
  call1 .sl PP F.impl_LowsOf #[Sl.v ξ15] ω14 fun (ρ16 : Sl) ω17 =>
  call1 .bool PP F.slices_Equal___int_int_ #[Sl.v ρ13, Sl.v ρ16] ω17 fun (ρ18 : Bool) ω19 =>
  bif ρ18 then (
  call1 .bool PP F.slices_ContainsFunc___int_int_ #[Sl.v ρ13, (.func (.func F.impl_SameLowsL1) #[] #[.pointer (some a0), .pointer (some a2)])] ω19 fun (ρ20 : Bool) ω21 =>
  R (.returned (.bool (!ρ20))) ω21)
  else (
  R (.returned (.bool false)) ω19))))) := E_eq std p_0 q_1 w R
theorem drawsOk : drawsOk PP cfg okD (codeOf Try.f13) = true := by kernel_rfl
theorem calls (p_0 : Sl) (q_1 : Sl) {w : World} {R : Ending → World → Prop} (h : E std p_0 q_1 w R) : Calls PP F.impl_SameLows #[Sl.v p_0, Sl.v q_1] w R :=
  calls_of noCount mixed drawOk Try.func13 rfl (c := cfg) (args := [Sl.v p_0, Sl.v q_1]) rfl (Nat.le_of_ble_eq_true (by kernel_rfl)) drawsOk h
end impl_SameLows

namespace impl_SameLowsL1
@[reducible] def cfg : Cfg := ⟨16, [], [], [], [4], [1], [29, 12, 74, 34, 92, 23, 62, 26, 37, 94], [72, 85, 91, 22, 40, 4, 43]⟩
def E (pr : Prims) (i_0 : Int) (t1 : Addr) (t2 : Addr) (w : World) (R : Ending → World → Prop) : Prop :=
  wpC pr PP cfg (DD pr) (codeOf Try.f36) (retQ Try.f36.results.toList R) (argE 0 [vI i_0, .pointer (some t1), .pointer (some t2)]) w
theorem E_eq (pr : Prims) (i_0 : Int) (t1 : Addr) (t2 : Addr) (w : World) (R : Ending → World → Prop) : E pr i_0 t1 t2 w R = (
  pr.load1 .sl t1 w fun (ξ0 : Sl) =>
  pr.idxK 1 ξ0 (w64 (i_0 - 1)) fun (a1 : Addr) =>
  pr.load1 (.int .i64) a1 w fun (ξ2 : Int) =>
  pr.load1 .sl t2 w fun (ξ3 : Sl) =>
  pr.idxK 1 ξ3 (w64 (i_0 - 1)) fun (a4 : Addr) =>
  pr.load1 (.int .i64) a4 w fun (ξ5 : Int) =>
  pr.drewAll w fun ω6 =>
  R (.returned (.bool (ξ2 != ξ5))) ω6) := by kernel_rfl
theorem E_s (i_0 : Int) (t1 : Addr) (t2 : Addr) (w : World) (R : Ending → World → Prop) : E std i_0 t1 t2 w R = (
  load1 .sl t1 w fun (ξ0 : Sl) =>
  idxK 1 ξ0 (w64 (i_0 - 1)) fun (a1 : Addr) =>
  load1 (.int .i64) a1 w fun (ξ2 : Int) =>
  load1 .sl t2 w fun (ξ3 : Sl) =>
  idxK 1 ξ3 (w64 (i_0 - 1)) fun (a4 : Addr) =>
  load1 (.int .i64) a4 w fun (ξ5 : Int) =>
  drewAll w fun ω6 =>
  R (.returned (.bool (ξ2 != ξ5))) ω6) := E_eq std i_0 t1 t2 w R
theorem drawsOk : drawsOk PP cfg okD (codeOf Try.f36) = true := by kernel_rfl
theorem calls (i_0 : Int) (t1 : Addr) (t2 : Addr) {w : World} {R : Ending → World → Prop} (h : E std i_0 t1 t2 w R) : Calls PP F.impl_SameLowsL1 #[vI i_0, .pointer (some t1), .pointer (some t2)] w R :=
  calls_of noCount mixed drawOk Try.func36 rfl (c := cfg) (args := [vI i_0, .pointer (some t1), .pointer (some t2)]) rfl (Nat.le_of_ble_eq_true (by kernel_rfl)) drawsOk h
end impl_SameLowsL1

namespace spec_l7At
@[reducible] def cfg : Cfg := ⟨26, [(3, [0, 1, 5, 6])], [(1, [0, 1, 5, 6]), (0, [5])], [], [4], [], [29, 12, 74, 34, 92, 23, 62, 26, 37, 94], [72, 85, 91, 22, 40, 4, 43]⟩
def q2 (pr : Prims) (R : Ending → World → Prop) : Exit → Env → World → Prop := fun ex e w => normQ ex (fun e w => contE pr cfg (sub (codeOf Try.f38) [1, 1, 1]) (fun e w => wpC pr PP cfg (DD pr) (sub (codeOf Try.f38) [1, 1, 1]) (retQ Try.f38.results.toList R) e w) e w) (retQ Try.f38.results.toList R) e w
def q3 (pr : Prims) (R : Ending → World → Prop) : Exit → Env → World → Prop := fun ex e w => blockQ ex 0 (q2 pr R) e w
def emb3 (p_0 : Sl) (places_1 : Sl) (out_5 : Sl) (k_6 : Int) : Env := [(0, Sl.v p_0), (1, Sl.v places_1), (5, Sl.v out_5), (6, vI k_6)]
def x0 (out_5 : Sl) : Env := [(5, Sl.v out_5)]
def S3 (pr : Prims) (Q : Exit → Env → World → Prop) : (Env → World → Prop) → Env → World → Prop := fun k e w => wpC pr PP cfg (DD pr) (sub (codeOf Try.f38) [1, 1, 0, 1, 0, 0]) (fun ex e w => normQ ex (fun e' w' => k (Env.restr e' (lookN cfg.loops (keyOf (sub (codeOf Try.f38) [1, 1, 0, 1, 0, 0])))) w') Q e w) e w
def B3 (pr : Prims) (p_0 : Sl) (places_1 : Sl) (out_5 : Sl) (k_6 : Int) (w : World) (k : Env → World → Prop) (Q : Exit → Env → World → Prop) : Prop :=
  S3 pr Q k (emb3 p_0 places_1 out_5 k_6) w
def L3 (pr : Prims) (p_0 : Sl) (places_1 : Sl) (out_5 : Sl) (k_6 : Int) (w : World) (Q : Exit → Env → World → Prop) : Prop :=
  pr.loop (S3 pr Q) (emb3 p_0 places_1 out_5 k_6) w
def E (pr : Prims) (p_0 : Sl) (places_1 : Sl) (w : World) (R : Ending → World → Prop) : Prop :=
  wpC pr PP cfg (DD pr) (codeOf Try.f38) (retQ Try.f38.results.toList R) (argE 0 [Sl.v p_0, Sl.v places_1]) w
theorem B3_eq (pr : Prims) (p_0 : Sl) (places_1 : Sl) (out_5 : Sl) (k_6 : Int) (w : World) (k : Env → World → Prop) (Q : Exit → Env → World → Prop) : B3 pr p_0 places_1 out_5 k_6 w k Q = (
  bif decide (k_6 < (places_1.n : Int)) then (
  pr.idxK 1 places_1 k_6 fun (a4 : Addr) =>
  pr.load1 (.int .i64) a4 w fun (ξ5 : Int) =>
  pr.idxK 1 p_0 (w64 (ξ5 - 1)) fun (a6 : Addr) =>
  pr.load1 (.int .i64) a6 w fun (ξ7 : Int) =>
  pr.sem1 .sl PP (Instr.buildSlice T_Sint 1 #[(0, vI ξ7)]) w fun (ρ8 : Sl) ω9 =>
  pr.sem1 .sl PP (Builtin.append_ #[T_Sint, T_Sint] T_Sint #[Sl.v out_5, Sl.v ρ8]) ω9 fun (ρ10 : Sl) ω11 =>
  k (emb3 p_0 places_1 ρ10 (w64 (k_6 + 1))) ω11)
  else (
  Q (.exit 0) (x0 out_5) w)) := by kernel_rfl
theorem B3_s (p_0 : Sl) (places_1 : Sl) (out_5 : Sl) (k_6 : Int) (w : World) (k : Env → World → Prop) (Q : Exit → Env → World → Prop) : B3 std p_0 places_1 out_5 k_6 w k Q = (
  bif decide (k_6 < (places_1.n : Int)) then (
  idxK 1 places_1 k_6 fun (a4 : Addr) =>
  load1 (.int .i64) a4 w fun (ξ5 : Int) =>
  idxK 1 p_0 (w64 (ξ5 - 1)) fun (a6 : Addr) =>
  load1 (.int .i64) a6 w fun (ξ7 : Int) =>
  sem1 .sl PP (Instr.buildSlice T_Sint 1 #[(0, vI ξ7)]) w fun (ρ8 : Sl) ω9 =>
  sem1 .sl PP (Builtin.append_ #[T_Sint, T_Sint] T_Sint #[Sl.v out_5, Sl.v ρ8]) ω9 fun (ρ10 : Sl) ω11 =>
  k (emb3 p_0 places_1 ρ10 (w64 (k_6 + 1))) ω11)
  else (
  Q (.exit 0) (x0 out_5) w)) := B3_eq std p_0 places_1 out_5 k_6 w k Q
theorem L3_rule (p_0 : Sl) (places_1 : Sl) (out_5 : Sl) (k_6 : Int) (w : World) (Q : Exit → Env → World → Prop) (I : Sl → Int → World → Prop) (μ : Sl → Int → World → Nat) (h0 : I out_5 k_6 w)
    (h : ∀ (out_5 : Sl) (k_6 : Int) (w' : World), I out_5 k_6 w' → B3 std p_0 places_1 out_5 k_6 w' (fun e2 w2 => ∃ out_5_n k_6_n, e2 = emb3 p_0 places_1 out_5_n k_6_n ∧ I out_5_n k_6_n w2 ∧ μ out_5_n k_6_n w2 < μ out_5 k_6 w') Q) :
    L3 std p_0 places_1 out_5 k_6 w Q := by
  unfold L3
  refine LoopE.intro (σ := Sl × Int) (step := S3 std Q) (fun s => emb3 p_0 places_1 s.1 s.2) (fun s w => I s.1 s.2 w) (fun s w => μ s.1 s.2 w) (out_5, k_6) rfl h0 ?_
  intro s w' hI
  have h1 := h s.1 s.2 w' hI
  unfold B3 at h1
  simp only [Prod.exists]
  exact h1
theorem A3_0_eq (pr : Prims) (out_5 : Sl) (w : World) (R : Ending → World → Prop) : (q3 pr R) (.exit 0) (x0 out_5) w = (
  R (.returned (Sl.v out_5)) w) := by kernel_rfl
theorem A3_0_s (out_5 : Sl) (w : World) (R : Ending → World → Prop) : (q3 std R) (.exit 0) (x0 out_5) w = (
  R (.returned (Sl.v out_5)) w) := A3_0_eq std out_5 w R
theorem E_eq (pr : Prims) (p_0 : Sl) (places_1 : Sl) (w : World) (R : Ending → World → Prop) : E pr p_0 places_1 w R = (
  pr.sem1 .sl PP (Instr.buildSlice T_Sint 0 #[]) w fun (ρ0 : Sl) ω1 =>
  L3 pr p_0 places_1 ρ0 0 ω1 (q3 pr R)) := by kernel_rfl
theorem E_s (p_0 : Sl) (places_1 : Sl) (w : World) (R : Ending → World → Prop) : E std p_0 places_1 w R = (
  sem1 .sl PP (Instr.buildSlice T_Sint 0 #[]) w fun (ρ0 : Sl) ω1 =>
  L3 std p_0 places_1 ρ0 0 ω1 (q3 std R)) := E_eq std p_0 places_1 w R
theorem drawsOk : drawsOk PP cfg okD (codeOf Try.f38) = true := by kernel_rfl
theorem calls (p_0 : Sl) (places_1 : Sl) {w : World} {R : Ending → World → Prop} (h : E std p_0 places_1 w R) : Calls PP F.spec_l7At #[Sl.v p_0, Sl.v places_1] w R :=
  calls_of noCount mixed drawOk Try.func38 rfl (c := cfg) (args := [Sl.v p_0, Sl.v places_1]) rfl (Nat.le_of_ble_eq_true (by kernel_rfl)) drawsOk h
end spec_l7At

end Go.Proofs.Ytlcemelmnkipmaa

/- The library's ContainsFunc over rows of ints. -/
namespace Go.Proofs.Ytlcemelmnkipmaa
open Go Go.RowKit
set_option maxRecDepth 100000

theorem c_ContainsFuncI {w : World} {a : Sl} {L : List Int} (ha : RowI w a L) (hL : L.length < 2^38) {f : Value} {φ : Int → Bool} (hf : ∀ x ∈ L, FnB w f [vI x] (φ x)) :
    Calls PP F.slices_ContainsFunc___int_int_ #[a.v, f] w fun e w' => e = .returned (.bool (L.any φ)) ∧ Below w.heap.size w w' := by
  refine slices_ContainsFunc___int_int_.calls a f ?_
  rw [slices_ContainsFunc___int_int_.E_s]
  refine (c_IndexFuncI ha hL hf).mono ?_
  rintro e w1 ⟨rfl, hb⟩
  exact ⟨_, rfl, by rw [idxF_nonneg], hb⟩
end Go.Proofs.Ytlcemelmnkipmaa

/- What each function does, step by step, written by a program (Gen.lean); each equation is checked by the kernel. -/
namespace Go.Proofs.Ytlcemelmnkipmaa
open Go
set_option linter.unusedVariables false
set_option maxRecDepth 100000
namespace slices_Equal___int_int_
@[reducible] def cfg : Cfg := ⟨26, [(4, [0, 1, 12, 13])], [(1, [0, 1, 12, 13]), (0, [])], [], [4], [6], [29, 12, 74, 34, 92, 23, 62, 26, 37, 94], [72, 85, 91, 22, 40, 4, 43]⟩
def q0 (pr : Prims) (R : Ending → World → Prop) : Exit → Env → World → Prop := fun ex e w => normQ ex (fun e w => contE pr cfg (sub (codeOf Try.f34) [1, 1, 1]) (fun e w => wpC pr PP cfg (DD pr) (sub (codeOf Try.f34) [1, 1, 1]) (retQ Try.f34.results.toList R) e w) e w) (retQ Try.f34.results.toList R) e w
def q1 (pr : Prims) (R : Ending → World → Prop) : Exit → Env → World → Prop := fun ex e w => blockQ ex 0 (q0 pr R) e w
def emb4 (s1_0 : Sl) (s2_1 : Sl) (t12 : Int) (t13 : Int) : Env := [(0, Sl.v s1_0), (1, Sl.v s2_1), (12, vI t12), (13, vI t13)]
def x0 : Env := []
def S4 (pr : Prims) (Q : Exit → Env → World → Prop) : (Env → World → Prop) → Env → World → Prop := fun k e w => wpC pr PP cfg (DD pr) (sub (codeOf Try.f34) [1, 1, 0, 1, 0, 0]) (fun ex e w => normQ ex (fun e' w' => k (Env.restr e' (lookN cfg.loops (keyOf (sub (codeOf Try.f34) [1, 1, 0, 1, 0, 0])))) w') Q e w) e w
def B4 (pr : Prims) (s1_0 : Sl) (s2_1 : Sl) (t12 : Int) (t13 : Int) (w : World) (k : Env → World → Prop) (Q : Exit → Env → World → Prop) : Prop :=
  S4 pr Q k (emb4 s1_0 s2_1 t12 t13) w
def L4 (pr : Prims) (s1_0 : Sl) (s2_1 : Sl) (t12 : Int) (t13 : Int) (w : World) (Q : Exit → Env → World → Prop) : Prop :=
  pr.loop (S4 pr Q) (emb4 s1_0 s2_1 t12 t13) w
def E (pr : Prims) (s1_0 : Sl) (s2_1 : Sl) (w : World) (R : Ending → World → Prop) : Prop :=
  wpC pr PP cfg (DD pr) (codeOf Try.f34) (retQ Try.f34.results.toList R) (argE 0 [Sl.v s1_0, Sl.v s2_1]) w
theorem B4_eq (pr : Prims) (s1_0 : Sl) (s2_1 : Sl) (t12 : Int) (t13 : Int) (w : World) (k : Env → World → Prop) (Q : Exit → Env → World → Prop) : B4 pr s1_0 s2_1 t12 t13 w k Q = (
  bif decide (t13 < t12) then (
  pr.idxK 1 s1_0 t13 fun (a2 : Addr) =>
  pr.load1 (.int .i64) a2 w fun (ξ3 : Int) =>
  pr.idxK 1 s2_1 t13 fun (a4 : Addr) =>
  pr.load1 (.int .i64) a4 w fun (ξ5 : Int) =>
  pr.drewAll w fun ω6 =>
  bif ξ3 != ξ5 then (
  Q .ret [(4, .bool false)] ω6)
  else (
  k (emb4 s1_0 s2_1 t12 (w64 (t13 + 1))) ω6))
  else (
  Q (.exit 0) (x0) w)) := by kernel_rfl
theorem B4_s (s1_0 : Sl) (s2_1 : Sl) (t12 : Int) (t13 : Int) (w : World) (k : Env → World → Prop) (Q : Exit → Env → World → Prop) : B4 std s1_0 s2_1 t12 t13 w k Q = (
  bif decide (t13 < t12) then (
  idxK 1 s1_0 t13 fun (a2 : Addr) =>
  load1 (.int .i64) a2 w fun (ξ3 : Int) =>
  idxK 1 s2_1 t13 fun (a4 : Addr) =>
  load1 (.int .i64) a4 w fun (ξ5 : Int) =>
  drewAll w fun ω6 =>
  bif ξ3 != ξ5 then (
  Q .ret [(4, .bool false)] ω6)
  else (
  k (emb4 s1_0 s2_1 t12 (w64 (t13 + 1))) ω6))
  else (
  Q (.exit 0) (x0) w)) := B4_eq std s1_0 s2_1 t12 t13 w k Q
theorem L4_rule (s1_0 : Sl) (s2_1 : Sl) (t12 : Int) (t13 : Int) (w : World) (Q : Exit → Env → World → Prop) (I : Int → World → Prop) (μ : Int → World → Nat) (h0 : I t13 w)
    (h : ∀ (t13 : Int) (w' : World), I t13 w' → B4 std s1_0 s2_1 t12 t13 w' (fun e2 w2 => ∃ t13_n, e2 = emb4 s1_0 s2_1 t12 t13_n ∧ I t13_n w2 ∧ μ t13_n w2 < μ t13 w') Q) :
    L4 std s1_0 s2_1 t12 t13 w Q := by
  unfold L4
  refine LoopE.intro (σ := Int) (step := S4 std Q) (fun s => emb4 s1_0 s2_1 t12 s) (fun s w => I s w) (fun s w => μ s w) t13 rfl h0 ?_
  intro s w' hI
  have h1 := h s w' hI
  unfold B4 at h1
  exact h1
theorem A4_0_eq (pr : Prims) (w : World) (R : Ending → World → Prop) : (q1 pr R) (.exit 0) (x0) w = (
  R (.returned (.bool true)) w) := by kernel_rfl
theorem A4_0_s (w : World) (R : Ending → World → Prop) : (q1 std R) (.exit 0) (x0) w = (
  R (.returned (.bool true)) w) := A4_0_eq std w R
theorem R4_eq (pr : Prims) (v4 : Value) (w : World) (R : Ending → World → Prop) : (q1 pr R) .ret [(4, v4)] w = (
  R (.returned (v4)) w) := by kernel_rfl
theorem R4_s (v4 : Value) (w : World) (R : Ending → World → Prop) : (q1 std R) .ret [(4, v4)] w = (
  R (.returned (v4)) w) := R4_eq std v4 w R
theorem E_eq (pr : Prims) (s1_0 : Sl) (s2_1 : Sl) (w : World) (R : Ending → World → Prop) : E pr s1_0 s2_1 w R = (
  bif (s1_0.n : Int) != (s2_1.n : Int) then (
  R (.returned (.bool false)) w)
  else (
  L4 pr s1_0 s2_1 (s1_0.n : Int) 0 w (q1 pr R))) := by kernel_rfl
theorem E_s (s1_0 : Sl) (s2_1 : Sl) (w : World) (R : Ending → World → Prop) : E std s1_0 s2_1 w R = (
  bif (s1_0.n : Int) != (s2_1.n : Int) then (
  R (.returned (.bool false)) w)
  else (
  L4 std s1_0 s2_1 (s1_0.n : Int) 0 w (q1 std R))) := E_eq std s1_0 s2_1 w R
theorem drawsOk : drawsOk PP cfg okD (codeOf Try.f34) = true := by kernel_rfl
theorem calls (s1_0 : Sl) (s2_1 : Sl) {w : World} {R : Ending → World → Prop} (h : E std s1_0 s2_1 w R) : Calls PP F.slices_Equal___int_int_ #[Sl.v s1_0, Sl.v s2_1] w R :=
  calls_of noCount mixed drawOk Try.func34 rfl (c := cfg) (args := [Sl.v s1_0, Sl.v s2_1]) rfl (Nat.le_of_ble_eq_true (by kernel_rfl)) drawsOk h
end slices_Equal___int_int_

end Go.Proofs.Ytlcemelmnkipmaa

/- The library's equality of rows. -/
namespace Go.Proofs.Ytlcemelmnkipmaa
open Go Go.RowKit
set_option maxRecDepth 100000

theorem c_Equal {w : World} {a b : Sl} {L M : List Int} (ha : RowI w a L) (hb : RowI w b M) (hL : L.length < 2^39) : Quiet F.slices_Equal___int_int_ #[a.v, b.v] w (.bool (decide (L = M))) := by
  intro w1 hd
  have han : a.n = L.length := by have := ha.n; simpa using this
  have hbn : b.n = M.length := by have := hb.n; simpa using this
  refine slices_Equal___int_int_.calls a b ?_
  rw [slices_Equal___int_int_.E_s]
  refine bif_intro (fun h => ?_) (fun h => ?_)
  · have : L.length ≠ M.length := by simp at h; omega
    have : L ≠ M := fun e => this (by rw [e])
    exact ⟨by simp [this], Drew.refl _⟩
  have hlen : L.length = M.length := by simp at h; omega
  refine slices_Equal___int_int_.L4_rule _ _ _ _ _ _ (I := fun i w' => 0 ≤ i ∧ i ≤ L.length ∧ (∀ k, k < i.toNat → L[k]? = M[k]?) ∧ Drew w1 w') (μ := fun i _ => (L.length - i).toNat)
    ⟨by omega, by omega, fun k hk => by simp at hk, Drew.refl _⟩ ?_
  rintro i w' ⟨h0, hi, hall, hd2⟩
  have hh : w'.heap = w.heap := (hd.trans hd2).heap'
  rw [slices_Equal___int_int_.B4_s]
  refine bif_dec (fun h3 => ?_) (fun h3 => ?_)
  · have hlt : i.toNat < L.length := by omega
    have hlt2 : i.toNat < M.length := by omega
    refine RowI.get (ha.heap hh) h0 (by omega) ?_
    refine RowI.get (hb.heap hh) h0 (by omega) ?_
    refine drew_intro fun w3 hd3 => ?_
    rw [getD_eq hlt, getD_eq hlt2]
    refine bif_intro (fun h4 => ?_) (fun h4 => ?_)
    · have : L ≠ M := fun e => by subst e; simp at h4
      rw [slices_Equal___int_int_.R4_s]
      exact ⟨by simp [this], hd2.trans hd3⟩
    · have h4 : L[i.toNat] = M[i.toNat] := by simpa using h4
      refine ⟨i + 1, by rw [w64_succ h0 (by omega)], ⟨by omega, by omega, fun k hk => ?_, hd2.trans hd3⟩, by omega⟩
      by_cases hk2 : k < i.toNat
      · exact hall k hk2
      · have : k = i.toNat := by omega
        subst this
        rw [List.getElem?_eq_getElem hlt, List.getElem?_eq_getElem hlt2, h4]
  · rw [slices_Equal___int_int_.A4_0_s]
    have : L = M := by
      apply List.ext_getElem?
      intro k
      by_cases hk : k < L.length
      · exact hall k (by omega)
      · rw [List.getElem?_eq_none (by omega), List.getElem?_eq_none (by omega)]
    exact ⟨by simp [this], hd2⟩
end Go.Proofs.Ytlcemelmnkipmaa

/- The laws' helpers that mark a row and look whether the marks stand. -/
namespace Go.Proofs.Ytlcemelmnkipmaa
open Go Go.RowKit
set_option maxRecDepth 100000

/-- k, k+1, .. -/
def marks (k : Int) (n : Nat) : List Int := (List.range n).map fun (i : Nat) => k + (i : Int)
theorem marks_length (k : Int) (n : Nat) : (marks k n).length = n := by simp [marks]
theorem marks_getD {k : Int} {n i : Nat} (h : i < n) : (marks k n).getD i 0 = k + i := by simp [marks, List.getD_eq_getElem?_getD, h]
theorem marks_step (L : List Int) (k : Int) {i : Nat} (hi : i < L.length) : (marks k i ++ L.drop i).set i (k + i) = marks k (i + 1) ++ L.drop (i + 1) := by
  have h1 : L.drop i = L[i] :: L.drop (i + 1) := by rw [List.drop_eq_getElem_cons hi]
  have h2 : (marks k i).length = i := marks_length k i
  have h3 : marks k (i + 1) = marks k i ++ [k + (i : Int)] := by simp [marks, List.range_succ]
  rw [h1, List.set_append_right _ _ (by omega), h2, Nat.sub_self, List.set_cons_zero, h3, List.append_assoc]
  rfl

end Go.Proofs.Ytlcemelmnkipmaa

/- SameLows: both texts, and the law. -/
namespace Go.Proofs.Ytlcemelmnkipmaa
open Go Go.RowKit
set_option maxRecDepth 100000

def atW (L : List Int) (pl : List Int) : List Int := pl.map fun i => L.getD (i - 1).toNat 0
theorem c_l7At {w : World} {p a : Sl} {P H : List Int} (hp : RowI w p P) (ha : RowI w a H) (hP : P.length < 2^38) (hH : H.length < 2^38) (hpl : ∀ x ∈ H, 1 ≤ x ∧ x ≤ P.length) :
    Calls PP F.spec_l7At #[p.v, a.v] w fun e w' => ∃ s : Sl, e = .returned s.v ∧ OwnI w' w.heap.size s (atW P H) ∧ Below w.heap.size w w' := by
  have han : a.n = H.length := by have := ha.n; simpa using this
  refine spec_l7At.calls p a ?_
  rw [spec_l7At.E_s]
  refine lit0 oneInt (B := w.heap.size) (Nat.le_refl _) ?_
  intro o0 w1 ho0 hg1 _
  refine spec_l7At.L3_rule _ _ _ _ _ _ (I := fun o k w' => 0 ≤ k ∧ k ≤ H.length ∧ OwnI w' w.heap.size o (atW P (H.take k.toNat)) ∧ Below w.heap.size w w') (μ := fun _ k _ => (H.length - k).toNat) ⟨by omega, by omega, ho0, below_of_grow hg1⟩ ?_
  rintro o k w' ⟨h0, hk, ho, hb⟩
  rw [spec_l7At.B3_s, han]
  refine bif_dec (fun h3 => ?_) (fun h3 => ?_)
  · have hlt : k.toNat < H.length := by omega
    refine RowI.get (ha.grow hb) h0 (by omega) ?_
    have hx := hpl H[k.toNat] (List.getElem_mem hlt)
    rw [getD_lt hlt, w64_id (n := H[k.toNat] - 1) (by omega) (by omega)]
    refine RowI.get (hp.grow hb) (by omega) (by omega) ?_
    refine append_int ho hb.size (by simp [atW]; omega) ?_
    intro o' w2 ho2 hg2 _
    refine ⟨o', k + 1, by rw [w64_succ h0 (by omega)], ⟨by omega, by omega, ?_, hb.grown hg2 hb.size (fun g hg => (ho.lt g hg).1)⟩, by omega⟩
    rw [show (k + 1).toNat = k.toNat + 1 by omega, List.take_succ_eq_append_getElem hlt, atW, List.map_append]
    exact ho2
  · rw [spec_l7At.A3_0_s]
    rw [show k.toNat = H.length by omega, List.take_length] at ho
    exact ⟨o, rfl, ho, hb⟩
def SameOk (L M : List Int) : Prop := IsP L ∧ IsP M ∧ L.length = M.length ∧ lowsT L L.length = lowsT M M.length ∧ atW L (lowsT L L.length) = atW M (lowsT L L.length)
open Classical in
noncomputable def SameLowsV (L M : List Int) : Bool := decide (SameOk L M)
open Classical in
theorem c_implSameLows {w : World} {a b : Sl} {L M : List Int} (ha : RowI w a L) (hL : L.length < 2^38) (hb : RowI w b M) (hM : M.length < 2^38) :
    Calls PP F.impl_SameLows #[a.v, b.v] w fun e w' => e = .returned (.bool (SameLowsV L M)) ∧ Below w.heap.size w w' := by
  have han : a.n = L.length := by have := ha.n; simpa using this
  have hbn : b.n = M.length := by have := hb.n; simpa using this
  refine impl_SameLows.calls a b ?_
  rw [impl_SameLows.E_s]
  refine new_one ?_
  intro p w1 hp hb1
  refine new_one ?_
  intro q w2 hq hb12
  have hp2 := cell_grow hp hb12
  have hb2 := hb1.trans (hb12.mono hb1.size)
  have no : ∀ w', Below w.heap.size w w' → ¬ SameOk L M → (Ending.returned (.bool false)) = .returned (.bool (SameLowsV L M)) ∧ Below w.heap.size w w' := fun w' hb hn => ⟨by simp [SameLowsV, hn], hb⟩
  refine load_sl hp2 ?_
  refine (c_implIsPerm (ha.grow hb2) hL).mono ?_
  rintro e w3 ⟨rfl, hb23⟩
  refine ⟨_, rfl, ?_⟩
  have hb3 := hb2.trans (hb23.mono hb2.size)
  refine bif_intro (fun h => ?_) (fun h => ?_)
  · exact no w3 hb3 fun hh => by have := hh.1; simp [this] at h
  have h1 : IsP L := by simpa using h
  refine load_sl (cell_grow hq hb23) ?_
  refine (c_implIsPerm (hb.grow hb3) hM).mono ?_
  rintro e w4 ⟨rfl, hb34⟩
  refine ⟨_, rfl, ?_⟩
  have hb4 := hb3.trans (hb34.mono hb3.size)
  refine bif_intro (fun h => ?_) (fun h => ?_)
  · exact no w4 hb4 fun hh => by have := hh.2.1; simp [this] at h
  have h2 : IsP M := by simpa using h
  have hb24 := hb23.trans (hb34.mono hb23.size)
  have hp4 := cell_grow hp2 hb24
  have hq4 := cell_grow hq hb24
  refine load_sl hp4 ?_
  refine load_sl hq4 ?_
  rw [han, hbn]
  refine bif_intro (fun h => ?_) (fun h => ?_)
  · exact no w4 hb4 fun hh => by have := hh.2.2.1; simp [this] at h
  have h3 : L.length = M.length := by simp at h; omega
  refine load_sl hp4 ?_
  refine (c_implLowsOf (ha.grow hb4) hL).mono ?_
  rintro e w5 ⟨s, rfl, hs, hb45⟩
  refine ⟨s, rfl, ?_⟩
  have hb5 := hb4.trans (hb45.mono hb4.size)
  refine load_sl (cell_grow hq4 hb45) ?_
  refine (c_implLowsOf (hb.grow hb5) hM).mono ?_
  rintro e w6 ⟨t, rfl, ht, hb56⟩
  refine ⟨t, rfl, ?_⟩
  have hb6 := hb5.trans (hb56.mono hb5.size)
  have e1 : LowsV L = lowsT L L.length := by rw [LowsV, if_pos h1]
  have e2 : LowsV M = lowsT M M.length := by rw [LowsV, if_pos h2]
  rw [e1] at hs
  rw [e2] at ht
  have hll := lowsT_length L L.length
  have hs6 := hs.grow hb56
  refine Quiet.call1 (s := .bool) (c_Equal hs6.row ht.row (by omega)) ?_
  intro w7 hd7
  have hb67 : Below w6.heap.size w6 w7 := hd7.below _
  have hb7 := hb6.trans (hb67.mono hb6.size)
  refine bif_dec (fun h4 => ?_) (fun h4 => ?_)
  · have hb47 := (hb45.trans (hb56.mono hb45.size)).trans (hb67.mono (Nat.le_trans hb45.size hb56.size))
    have hp7 := cell_grow hp4 hb47
    have hq7 := cell_grow hq4 hb47
    have hs7 := hs6.grow hb67
    refine (c_ContainsFuncI (φ := fun i => L.getD (i - 1).toNat 0 != M.getD (i - 1).toNat 0) hs7.row (by omega) (fun x hx => ?_)).mono ?_
    · intro w8 hb8
      have hx := mem_lowsT.1 hx
      refine ⟨_, _, _, rfl, by kernel_rfl, ?_⟩
      show Calls PP F.impl_SameLowsL1 #[vI x, .pointer (some p), .pointer (some q)] w8 _
      refine impl_SameLowsL1.calls x p q ?_
      rw [impl_SameLowsL1.E_s]
      refine load_sl (cell_grow hp7 hb8) ?_
      rw [w64_id (n := x - 1) (by omega) (by omega)]
      refine RowI.get ((ha.grow hb7).grow hb8) (by omega) (by omega) ?_
      refine load_sl (cell_grow hq7 hb8) ?_
      refine RowI.get ((hb.grow hb7).grow hb8) (by omega) (by omega) ?_
      refine drew_intro fun w9 hd9 => ?_
      exact ⟨rfl, hd9.below _⟩
    · rintro e w8 ⟨rfl, hb8⟩
      refine ⟨_, rfl, ?_, hb7.trans (hb8.mono hb7.size)⟩
      congr 2
      have hiff : SameOk L M ↔ (lowsT L L.length).any (fun i => L.getD (i - 1).toNat 0 != M.getD (i - 1).toNat 0) = false := by
        rw [List.any_eq_false]
        constructor
        · rintro ⟨_, _, _, _, h5⟩ x hx
          rw [atW, atW, List.map_inj_left] at h5
          simpa using h5 x hx
        · intro h5
          refine ⟨h1, h2, h3, h4, ?_⟩
          rw [atW, atW, List.map_inj_left]
          intro x hx
          simpa using h5 x hx
      rw [SameLowsV]
      cases hc : (lowsT L L.length).any (fun i => L.getD (i - 1).toNat 0 != M.getD (i - 1).toNat 0)
      · rw [decide_eq_true (hiff.2 hc)]; rfl
      · rw [decide_eq_false (fun h => by rw [hiff.1 h] at hc; cases hc)]; rfl
  · exact no w7 hb7 fun hh => h4 hh.2.2.2.1
open Classical in
theorem c_specSameLows {w : World} {a b : Sl} {L M : List Int} (ha : RowI w a L) (hL : L.length < 2^38) (hb : RowI w b M) (hM : M.length < 2^38) :
    Calls PP F.spec_SameLows #[a.v, b.v] w fun e w' => e = .returned (.bool (SameLowsV L M)) ∧ Below w.heap.size w w' := by
  have han : a.n = L.length := by have := ha.n; simpa using this
  have hbn : b.n = M.length := by have := hb.n; simpa using this
  refine spec_SameLows.calls a b ?_
  rw [spec_SameLows.E_s, han, hbn]
  have no : ∀ w', Below w.heap.size w w' → ¬ SameOk L M → (Ending.returned (.bool false)) = .returned (.bool (SameLowsV L M)) ∧ Below w.heap.size w w' := fun w' hb hn => ⟨by simp [SameLowsV, hn], hb⟩
  refine Quiet.call1 (s := .bool) (c_specIsPerm ha hL) ?_
  intro w1 hd1
  have hb1 : Below w.heap.size w w1 := hd1.below _
  refine bif_intro (fun h => ?_) (fun h => ?_)
  · exact no w1 hb1 fun hh => by have := hh.1; simp [this] at h
  have h1 : IsP L := by simpa using h
  refine Quiet.call1 (s := .bool) (c_specIsPerm (hb.grow hb1) hM) ?_
  intro w2 hd2
  have hb2 := hb1.trans (hd2.below _)
  refine bif_intro (fun h => ?_) (fun h => ?_)
  · exact no w2 hb2 fun hh => by have := hh.2.1; simp [this] at h
  have h2 : IsP M := by simpa using h
  refine bif_intro (fun h => ?_) (fun h => ?_)
  · exact no w2 hb2 fun hh => by have := hh.2.2.1; simp [this] at h
  have h3 : L.length = M.length := by simp at h; omega
  have h8 := h1.1
  refine (c_specLowsOf (ha.grow hb2) hL).mono ?_
  rintro e w3 ⟨s, rfl, hs, hb23⟩
  refine ⟨s, rfl, ?_⟩
  have hb3 := hb2.trans (hb23.mono hb2.size)
  refine (c_specLowsOf (hb.grow hb3) hM).mono ?_
  rintro e w4 ⟨t, rfl, ht, hb34⟩
  refine ⟨t, rfl, ?_⟩
  have hb4 := hb3.trans (hb34.mono hb3.size)
  have e1 : LowsV L = lowsT L L.length := by rw [LowsV, if_pos h1]
  have e2 : LowsV M = lowsT M M.length := by rw [LowsV, if_pos h2]
  rw [e1] at hs
  rw [e2] at ht
  have hll := lowsT_length L L.length
  have hs4 := hs.grow hb34
  refine Quiet.call1 (s := .bool) (c_l2Same hs4.row ht.row (by omega)) ?_
  intro w5 hd5
  have hb45 : Below w4.heap.size w4 w5 := hd5.below _
  have hb5 := hb4.trans (hb45.mono hb4.size)
  refine bif_dec (fun h4 => ?_) (fun h4 => ?_)
  · have hs5 := hs4.grow hb45
    have hpl : ∀ x ∈ lowsT L L.length, 1 ≤ x ∧ x ≤ L.length := fun x hx => by have := mem_lowsT.1 hx; omega
    refine (c_l7At (ha.grow hb5) hs5.row hL (by omega) hpl).mono ?_
    rintro e w6 ⟨u, rfl, hu, hb56⟩
    refine ⟨u, rfl, ?_⟩
    have hb6 := hb5.trans (hb56.mono hb5.size)
    refine (c_l7At (hb.grow hb6) (hs5.grow hb56).row hM (by omega) (fun x hx => by have := hpl x hx; omega)).mono ?_
    rintro e w7 ⟨v, rfl, hv, hb67⟩
    refine ⟨v, rfl, ?_⟩
    have hb7 := hb6.trans (hb67.mono hb6.size)
    refine Quiet.call1 (s := .bool) (c_l2Same (hu.grow hb67).row hv.row (by simp [atW]; omega)) ?_
    intro w8 hd8
    refine ⟨?_, hb7.trans (hd8.below _)⟩
    congr 2
    rw [SameLowsV]
    by_cases h5 : atW L (lowsT L L.length) = atW M (lowsT L L.length)
    · rw [decide_eq_true h5, decide_eq_true (show SameOk L M from ⟨h1, h2, h3, h4, h5⟩)]
    · rw [decide_eq_false h5, decide_eq_false (fun h : SameOk L M => h5 h.2.2.2.2)]
  · exact no w5 hb5 fun hh => h4 hh.2.2.2.1
end Go.Proofs.Ytlcemelmnkipmaa

/- Both rests keep the lows, avoid their patterns, and lead back to each other. No program in sight. -/
namespace Go.Proofs.Ytlcemelmnkipmaa
open Go
set_option maxRecDepth 100000

/-! ### The same numbers -/
def lowP (L : List Int) : Nat → List Int
  | 0 => []
  | k + 1 => if isLow L k = true then lowP L k ++ [L.getD k 0] else lowP L k
theorem take_at {L : List Int} {k : Nat} (hk : k < L.length) : L.take (k + 1) = L.take k ++ [L.getD k 0] := by rw [getD_lt hk]; simp
theorem low_non {L : List Int} : ∀ k, k ≤ L.length → (lowP L k ++ nonL L k).Perm (L.take k)
  | 0, _ => by simp [lowP, nonL]
  | k + 1, hk => by
    have ih := low_non (L := L) k (by omega)
    rw [take_at (by omega), lowP, nonL]
    split
    · refine List.Perm.trans ?_ (List.Perm.append_right _ ih)
      rw [List.append_assoc, List.append_assoc]
      exact List.Perm.append_left _ List.perm_append_comm
    · rw [← List.append_assoc]
      exact List.Perm.append_right _ ih
theorem erase_perm {R : List Int} {m : Nat} (hm : m < R.length) : (R.getD m 0 :: R.eraseIdx m).Perm R := by
  rw [getD_lt hm, List.eraseIdx_eq_take_drop_succ]
  have h1 : R = R.take m ++ R[m] :: R.drop (m + 1) := by simp
  conv => rhs; rw [h1]
  exact List.perm_middle.symm
theorem stO_perm {pk : List Int → Int → Nat} {L : List Int} (hok : PkOk pk L) : ∀ k, k ≤ L.length → (stO pk L k ++ stR pk L k).Perm (lowP L k ++ nonL L L.length)
  | 0, _ => by simpa [stO, stR, lowP] using sortI_perm (nonL L L.length)
  | k + 1, hk => by
    have ih := stO_perm hok k (by omega)
    rw [stO, stR, lowP]
    by_cases h : isLow L k = true
    · rw [if_pos h, if_pos h, if_pos h, List.append_assoc, List.append_assoc]
      have h1 : ([L.getD k 0] ++ stR pk L k).Perm (stR pk L k ++ [L.getD k 0]) := List.perm_append_comm
      refine (List.Perm.append_left _ h1).trans ?_
      rw [← List.append_assoc]
      refine (List.Perm.append_right _ ih).trans ?_
      rw [List.append_assoc]
      exact List.Perm.append_left _ List.perm_append_comm
    · have h' : isLow L k = false := by simpa using h
      rw [if_neg h, if_neg h, if_neg h, List.append_assoc]
      exact (List.Perm.append_left _ (erase_perm (hok k (by omega) h'))).trans ih
theorem stR_end {pk : List Int → Int → Nat} {L : List Int} (hok : PkOk pk L) : stR pk L L.length = [] := by
  have := stR_len (pk := pk) (L := L) L.length (fun j hj => hok j hj)
  exact List.eq_nil_of_length_eq_zero (by omega)
theorem stO_all {pk : List Int → Int → Nat} {L : List Int} (hok : PkOk pk L) : (stO pk L L.length).Perm L := by
  have h1 := stO_perm hok L.length (Nat.le_refl _)
  rw [stR_end hok, List.append_nil] at h1
  have h2 := low_non (L := L) L.length (Nat.le_refl _)
  rw [List.take_length] at h2
  exact h1.trans h2
theorem stO_take {pk : List Int → Int → Nat} {L : List Int} : ∀ {k n : Nat}, k ≤ n → (stO pk L n).take k = stO pk L k
  | k, n, h => by
    induction n with
    | zero => have : k = 0 := by omega
              subst this; rfl
    | succ n ih =>
      by_cases e : k = n + 1
      · subst e; exact List.take_of_length_le (by rw [stO_length]; exact Nat.le_refl _)
      · rw [stO, List.take_append_of_le_length (by rw [stO_length]; omega)]
        exact ih (by omega)
theorem stO_at {pk : List Int → Int → Nat} {L : List Int} {k n : Nat} (h : k < n) : (stO pk L n).getD k 0 = if isLow L k = true then L.getD k 0 else (stR pk L k).getD (pk (stR pk L k) (lastLow L k)) 0 := by
  have h1 := stO_take (pk := pk) (L := L) (k := k + 1) (n := n) (by omega)
  have h2 : (stO pk L n).getD k 0 = ((stO pk L n).take (k + 1)).getD k 0 := by
    rw [List.getD_eq_getElem?_getD, List.getD_eq_getElem?_getD, List.getElem?_take, if_pos (by omega)]
  rw [h2, h1, stO, List.getD_eq_getElem?_getD, List.getElem?_append_right (by rw [stO_length]; exact Nat.le_refl _), stO_length, Nat.sub_self]
  simp

/-! ### What is picked -/
/-- What a pick must be: a greater number than the last low. -/
structure Pick (pk : List Int → Int → Nat) (L : List Int) : Prop where
  ok : PkOk pk L
  gt : ∀ k, k < L.length → isLow L k = false → lastLow L k < (stR pk L k).getD (pk (stR pk L k) (lastLow L k)) 0
theorem pick_mem {pk : List Int → Int → Nat} {L : List Int} (h : Pick pk L) {k : Nat} (hk : k < L.length) (hl : isLow L k = false) : (stR pk L k).getD (pk (stR pk L k) (lastLow L k)) 0 ∈ stR pk L k := by
  rw [getD_lt (h.ok k hk hl)]; exact List.getElem_mem _
theorem sorted_last {R : List Int} (hs : R.Pairwise (· ≤ ·)) {x : Int} (hx : x ∈ R) : x ≤ R.getD (R.length - 1) 0 := by
  obtain ⟨i, hi, rfl⟩ := List.getElem_of_mem hx
  rw [getD_lt (by omega)]
  by_cases e : i = R.length - 1
  · subst e; exact Int.le_refl _
  · exact List.pairwise_iff_getElem.1 hs i (R.length - 1) hi (by omega) (by omega)
theorem pick_D (L : List Int) : Pick pkD L := ⟨pkOk_D L, fun k hk hl => by
  obtain ⟨v, hv, hg⟩ := greater_ex (pk := pkD) hk hl
  have := sorted_last (stR_sorted (pk := pkD) (L := L) k) hv
  show lastLow L k < (stR pkD L k).getD ((stR pkD L k).length - 1) 0
  omega⟩
theorem pick_N (L : List Int) : Pick pkN L := ⟨pkOk_N L, fun k hk hl => by
  have h := pkOk_N L k hk hl
  rw [getD_lt h]
  have := List.findIdx_getElem (xs := stR pkN L k) (p := fun v => decide (v > lastLow L k)) (w := h)
  exact of_decide_eq_true this⟩
theorem pick_max {L : List Int} {k : Nat} {x : Int} (hx : x ∈ stR pkD L k) : x ≤ (stR pkD L k).getD (pkD (stR pkD L k) (lastLow L k)) 0 :=
  sorted_last (stR_sorted (pk := pkD) (L := L) k) hx
theorem pick_min {L : List Int} {k : Nat} (hk : k < L.length) (hl : isLow L k = false) {x : Int} (hx : x ∈ stR pkN L k) (hg : lastLow L k < x) : (stR pkN L k).getD (pkN (stR pkN L k) (lastLow L k)) 0 ≤ x := by
  have h := pkOk_N L k hk hl
  obtain ⟨i, hi, rfl⟩ := List.getElem_of_mem hx
  rw [getD_lt h]
  rcases Nat.lt_trichotomy (pkN (stR pkN L k) (lastLow L k)) i with h1 | h1 | h1
  · exact List.pairwise_iff_getElem.1 (stR_sorted (pk := pkN) (L := L) k) _ i h hi h1
  · simp only [h1]; exact Int.le_refl _
  · have h2 := List.not_of_lt_findIdx h1
    simp only [decide_eq_false_iff_not] at h2
    exact absurd hg h2
theorem stR_mono {pk : List Int → Int → Nat} {L : List Int} : ∀ {j k : Nat} {x : Int}, j ≤ k → x ∈ stR pk L k → x ∈ stR pk L j
  | j, k, x, h, hx => by
    induction k with
    | zero => have : j = 0 := by omega
              subst this; exact hx
    | succ k ih =>
      by_cases e : j = k + 1
      · subst e; exact hx
      · refine ih (by omega) ?_
        rw [stR] at hx
        split at hx
        · exact hx
        · exact List.mem_of_mem_eraseIdx hx

/-! ### The lows stay -/
theorem rest_low {pk : List Int → Int → Nat} {L : List Int} (h : Pick pk L) {k : Nat} (hk : k < L.length) : isLow (stO pk L L.length) k = isLow L k ∧ (isLow L k = true → (stO pk L L.length).getD k 0 = L.getD k 0) := by
  have hat := fun i (hi : i < L.length) => stO_at (pk := pk) (L := L) hi
  refine ⟨?_, fun hl => by rw [hat k hk, if_pos hl]⟩
  cases hl : isLow L k
  · obtain ⟨i, hi, hil, he⟩ := lastLow_at (L := L) (k := k) (by
      rcases Nat.eq_zero_or_pos k with h0 | h0
      · subst h0; rw [isLow_zero] at hl; cases hl
      · exact h0)
    have h1 := h.gt k hk hl
    have h2 : (stO pk L L.length).getD i 0 < (stO pk L L.length).getD k 0 := by
      rw [hat i (by omega), if_pos hil, hat k hk, if_neg (by rw [hl]; simp), ← he]; exact h1
    cases hc : isLow (stO pk L L.length) k
    · rfl
    · exact absurd h2 (isLow_iff.1 hc i hi)
  · rw [isLow_iff]
    intro j hj
    rw [hat k hk, if_pos hl, hat j (by omega)]
    split
    · exact isLow_iff.1 hl j hj
    · rename_i hj2
      have hj2 : isLow L j = false := by simpa using hj2
      have h1 := h.gt j (by omega) hj2
      have h0 : 1 ≤ j := by
        rcases Nat.eq_zero_or_pos j with h0 | h0
        · subst h0; rw [isLow_zero] at hj2; cases hj2
        · exact h0
      obtain ⟨i, hi, _, he⟩ := lastLow_at (L := L) h0
      have h2 := isLow_iff.1 hl i (by omega)
      omega
theorem lows_eq {L M : List Int} {n : Nat} (h : ∀ k, k < n → isLow M k = isLow L k) : lowsT M n = lowsT L n := by
  induction n with
  | zero => rfl
  | succ n ih => rw [lowsT, lowsT, h n (by omega), ih fun k hk => h k (by omega)]
theorem lowP_eq {L M : List Int} {n : Nat} (h : ∀ k, k < n → isLow M k = isLow L k ∧ (isLow L k = true → M.getD k 0 = L.getD k 0)) : lowP M n = lowP L n := by
  induction n with
  | zero => rfl
  | succ n ih =>
    rw [lowP, lowP, ih fun k hk => h k (by omega), (h n (by omega)).1]
    split
    · rename_i hl; rw [(h n (by omega)).2 hl]
    · rfl
theorem lastLow_eq {L M : List Int} {n : Nat} (h : ∀ k, k < n → isLow M k = isLow L k ∧ (isLow L k = true → M.getD k 0 = L.getD k 0)) : ∀ k, k ≤ n → lastLow M k = lastLow L k
  | 0, _ => rfl
  | k + 1, hk => by
    rw [lastLow, lastLow, lastLow_eq h k (by omega), (h k (by omega)).1]
    split
    · rename_i hl; rw [(h k (by omega)).2 hl]
    · rfl
theorem st_eq {pk : List Int → Int → Nat} {L M : List Int} {n : Nat} (h : ∀ k, k < n → isLow M k = isLow L k ∧ (isLow L k = true → M.getD k 0 = L.getD k 0)) (h0 : stR pk M 0 = stR pk L 0) : ∀ k, k ≤ n → stR pk M k = stR pk L k ∧ stO pk M k = stO pk L k
  | 0, _ => ⟨h0, rfl⟩
  | k + 1, hk => by
    obtain ⟨i1, i2⟩ := st_eq h h0 k (by omega)
    have hl := lastLow_eq h k (by omega)
    rw [stR, stR, stO, stO, i1, i2, hl, (h k (by omega)).1]
    refine ⟨rfl, ?_⟩
    split
    · rename_i hl; rw [(h k (by omega)).2 hl]
    · rfl
/-- A rest of a rest is the rest. -/
theorem rest_rest {pk pk' : List Int → Int → Nat} {L : List Int} (h : Pick pk L) : stO pk' (stO pk L L.length) L.length = stO pk' L L.length := by
  have hk := fun k (hk : k < L.length) => rest_low h hk
  refine (st_eq hk ?_ L.length (Nat.le_refl _)).2
  rw [stR, stR]
  have h1 := low_non (L := stO pk L L.length) L.length (by rw [stO_length]; exact Nat.le_refl _)
  rw [List.take_of_length_le (by rw [stO_length]; exact Nat.le_refl _), lowP_eq hk] at h1
  have h2 := low_non (L := L) L.length (Nat.le_refl _)
  rw [List.take_length] at h2
  have h3 : (nonL (stO pk L L.length) L.length).Perm (nonL L L.length) := (List.perm_append_left_iff _).1 ((h1.trans (stO_all h.ok)).trans h2.symm)
  rw [stO_length]
  exact (sortI_eq ((sortI_perm (nonL (stO pk L L.length) L.length)).trans h3) (sortI_sorted _))

/-! ### The law's words -/
variable {P : List Int}
theorem RestV_pos {pk : List Int → Int → Nat} (h : IsP P) : RestV pk P = stO pk P P.length := by rw [RestV, if_pos h]
theorem rest_isP {pk : List Int → Int → Nat} (hp : Pick pk P) (h : IsP P) : IsP (RestV pk P) := by
  rw [RestV_pos h]; exact isP_of_perm (stO_all hp.ok) h
theorem rest_back {pk pk' : List Int → Int → Nat} (hp : Pick pk P) (h : IsP P) : RestV pk' (RestV pk P) = RestV pk' P := by
  rw [RestV_pos (rest_isP hp h), RestV_pos h, RestV_pos h, stO_length]; exact rest_rest hp
theorem rest_same {pk : List Int → Int → Nat} (hp : Pick pk P) (h : IsP P) : SameLowsV P (RestV pk P) = true := by
  have h1 := rest_isP hp h
  have hk := fun k (hk : k < P.length) => rest_low hp hk
  classical
  rw [SameLowsV, decide_eq_true_iff]
  rw [RestV_pos h] at h1 ⊢
  refine ⟨h, h1, by rw [stO_length], by rw [stO_length]; exact (lows_eq fun k hh => (hk k hh).1).symm, ?_⟩
  unfold atW
  refine List.map_congr_left fun x hx => ?_
  obtain ⟨x1, x2, x3⟩ := mem_lowsT.1 hx
  exact ((hk (x - 1).toNat (by omega)).2 x3).symm
theorem d_avoids (h : IsP P) : hasP (RestV pkD P) [1, 2, 3] = false := by
  have hp := pick_D P
  cases hc : hasP (RestV pkD P) [1, 2, 3]
  · rfl
  exfalso
  obtain ⟨i, j, k, hij, hjk, hkl, hh⟩ := has3.1 hc
  rw [RestV_pos h] at hkl hh
  rw [stO_length] at hkl
  have e1 : (stO pkD P P.length).getD i 0 < (stO pkD P P.length).getD j 0 := by have := hh; simp at this; omega
  have e2 : (stO pkD P P.length).getD j 0 < (stO pkD P P.length).getD k 0 := by have := hh; simp at this; omega
  have nl : ∀ a b, a < b → b < P.length → (stO pkD P P.length).getD a 0 < (stO pkD P P.length).getD b 0 → isLow P b = false := fun a b hab hb hlt => by
    rw [← (rest_low hp hb).1]
    cases hc : isLow (stO pkD P P.length) b
    · rfl
    · exact absurd hlt (isLow_iff.1 hc a hab)
  have lj := nl i j hij (by omega) e1
  have lk := nl j k hjk hkl e2
  rw [stO_at (by omega), if_neg (by rw [lj]; simp), stO_at hkl, if_neg (by rw [lk]; simp)] at e2
  have := pick_max (L := P) (k := j) (stR_mono (by omega) (pick_mem hp hkl lk))
  omega
theorem lastLow_anti {L : List Int} : ∀ {j k : Nat}, 1 ≤ j → j ≤ k → lastLow L k ≤ lastLow L j := fun {j k} h1 h => by
  obtain ⟨i, hi, _, he⟩ := lastLow_at (L := L) h1
  rw [he]; exact lastLow_le (by omega)
theorem n_avoids (h : IsP P) : hasP (RestV pkN P) [1, 3, 2] = false := by
  have hp := pick_N P
  cases hc : hasP (RestV pkN P) [1, 3, 2]
  · rfl
  exfalso
  obtain ⟨i, j, k, hij, hjk, hkl, hh⟩ := has3.1 hc
  rw [RestV_pos h] at hkl hh
  rw [stO_length] at hkl
  have e1 : (stO pkN P P.length).getD i 0 < (stO pkN P P.length).getD k 0 := by have := hh; simp at this; omega
  have e2 : ¬ (stO pkN P P.length).getD j 0 < (stO pkN P P.length).getD k 0 := by have := hh; simp at this; omega
  have e3 : (stO pkN P P.length).getD i 0 < (stO pkN P P.length).getD j 0 := by have := hh; simp at this; omega
  have nl : ∀ a b, a < b → b < P.length → (stO pkN P P.length).getD a 0 < (stO pkN P P.length).getD b 0 → isLow P b = false := fun a b hab hb hlt => by
    rw [← (rest_low hp hb).1]
    cases hc : isLow (stO pkN P P.length) b
    · rfl
    · exact absurd hlt (isLow_iff.1 hc a hab)
  have lj := nl i j hij (by omega) e3
  have lk := nl i k (by omega) hkl e1
  have hi : lastLow P j ≤ (stO pkN P P.length).getD i 0 := by
    rw [stO_at (by omega)]
    split
    · exact lastLow_le hij
    · rename_i h5
      have h5 : isLow P i = false := by simpa using h5
      have h6 := hp.gt i (by omega) h5
      have h0 : 1 ≤ i := by
        rcases Nat.eq_zero_or_pos i with h0 | h0
        · subst h0; rw [isLow_zero] at h5; cases h5
        · exact h0
      have := lastLow_anti (L := P) h0 (show i ≤ j by omega)
      omega
  have nd := isP_nd (rest_isP hp h)
  rw [RestV_pos h] at nd
  have ne := getD_ne nd hjk (by rw [stO_length]; exact hkl)
  rw [stO_at (k := j) (by omega), if_neg (by rw [lj]; simp), stO_at (k := k) hkl, if_neg (by rw [lk]; simp)] at e2 ne
  rw [stO_at (k := k) hkl, if_neg (by rw [lk]; simp)] at e1
  have := pick_min (L := P) (k := j) (by omega) lj (stR_mono (by omega) (pick_mem hp hkl lk)) (by omega)
  omega
/-- Where the pick is always the number that stands there, the rest is the whole. -/
theorem rest_self {pk : List Int → Int → Nat} (hp : Pick pk P) (h : IsP P) (hpick : ∀ k, k < P.length → isLow P k = false → P.getD k 0 ∈ stR pk P k → (∀ x ∈ stR pk P k, ∃ l, k ≤ l ∧ l < P.length ∧ x = P.getD l 0) → (stR pk P k).getD (pk (stR pk P k) (lastLow P k)) 0 = P.getD k 0) : RestV pk P = P := by
  have nd := isP_nd h
  rw [RestV_pos h]
  have key : ∀ k, k ≤ P.length → stO pk P k = P.take k := by
    intro k
    induction k with
    | zero => intro _; rfl
    | succ k ih =>
      intro hk
      have ih := ih (by omega)
      rw [take_at (by omega), stO, ih]
      by_cases hl : isLow P k = true
      · rw [if_pos hl]
      · rw [if_neg hl]
        have hl' : isLow P k = false := by simpa using hl
        have hperm := stO_perm hp.ok k (by omega)
        rw [ih] at hperm
        have hall : (lowP P P.length ++ nonL P P.length).Perm P := by
          have := low_non (L := P) P.length (Nat.le_refl _)
          rwa [List.take_length] at this
        have hlowmem : ∀ k, k ≤ P.length → ∀ x, x ∈ lowP P k → ∃ i, i < k ∧ isLow P i = true ∧ x = P.getD i 0 := by
          intro k
          induction k with
          | zero => intro _ x hx; cases hx
          | succ k ih2 =>
            intro hk x hx
            rw [lowP] at hx
            split at hx
            · rename_i hl2
              rcases List.mem_append.1 hx with hx | hx
              · obtain ⟨i, h1, h2, h3⟩ := ih2 (by omega) x hx; exact ⟨i, by omega, h2, h3⟩
              · simp at hx; exact ⟨k, by omega, hl2, hx⟩
            · obtain ⟨i, h1, h2, h3⟩ := ih2 (by omega) x hx; exact ⟨i, by omega, h2, h3⟩
        have hne : ∀ i j, i < P.length → j < P.length → P.getD i 0 = P.getD j 0 → i = j := fun i j hi hj e => by
          rcases Nat.lt_trichotomy i j with h1 | h1 | h1
          · exact absurd e (getD_ne nd h1 hj)
          · exact h1
          · exact absurd e.symm (getD_ne nd h1 hi)
        have htk : ∀ l, l < P.length → P.getD l 0 ∈ P.take k → l < k := fun l hl hm => by
          obtain ⟨i, hi, e⟩ := List.getElem_of_mem hm
          simp at hi
          have e2 : P.getD i 0 = P.getD l 0 := by rw [← e, getD_lt (by omega)]; simp
          have := hne i l (by omega) hl e2
          omega
        have hnonmem : ∀ n, n ≤ P.length → k < n → P.getD k 0 ∈ nonL P n := by
          intro n
          induction n with
          | zero => intro _ h0; omega
          | succ n ih3 =>
            intro hn hkn
            rw [nonL]
            by_cases e : k = n
            · subst e; rw [if_neg hl]; simp
            · have := ih3 (by omega) (by omega)
              split
              · exact this
              · exact List.mem_append_left _ this
        have hmem : P.getD k 0 ∈ stR pk P k := by
          have h1 : P.getD k 0 ∈ P.take k ++ stR pk P k := hperm.mem_iff.2 (List.mem_append_right _ (hnonmem P.length (Nat.le_refl _) (by omega)))
          rcases List.mem_append.1 h1 with h1 | h1
          · have := htk k (by omega) h1; omega
          · exact h1
        have hnd2 : (P.take k ++ stR pk P k).Nodup := by
          rw [hperm.nodup_iff, List.nodup_append]
          have hnd3 := hall.nodup_iff.2 nd
          rw [List.nodup_append] at hnd3
          have hsub : ∀ x, x ∈ lowP P k → x ∈ lowP P P.length := by
            have : ∀ n, k ≤ n → ∀ x, x ∈ lowP P k → x ∈ lowP P n := by
              intro n
              induction n with
              | zero => intro h0 x hx; have : k = 0 := by omega
                        subst this; exact hx
              | succ n ih4 =>
                intro h0 x hx
                by_cases e : k = n + 1
                · subst e; exact hx
                · rw [lowP]; split
                  · exact List.mem_append_left _ (ih4 (by omega) x hx)
                  · exact ih4 (by omega) x hx
            exact this P.length (by omega)
          have hl3 : (lowP P k).Nodup := by
            have h5 := (low_non (L := P) k (by omega)).nodup_iff.2 (nd.sublist (List.take_sublist _ _))
            rw [List.nodup_append] at h5; exact h5.1
          exact ⟨hl3, hnd3.2.1, fun a ha b hb => hnd3.2.2 a (hsub a ha) b hb⟩
        rw [List.nodup_append] at hnd2
        rw [hpick k (by omega) hl' hmem fun x hx => ?_]
        obtain ⟨l, hll, _, rfl⟩ := mem_nonL (stR_sub hx)
        refine ⟨l, ?_, hll, rfl⟩
        rcases Nat.lt_or_ge l k with h6 | h6
        · exfalso
          refine hnd2.2.2 (P.getD l 0) ?_ _ hx rfl
          have : (P.take k)[l]'(by simp; omega) ∈ P.take k := List.getElem_mem _
          rw [getD_lt hll]; simpa using this
        · exact h6
  have := key P.length (Nat.le_refl _)
  rwa [List.take_length] at this
theorem n_self (h : IsP P) (hn : hasP P [1, 3, 2] = false) : RestV pkN P = P := by
  refine rest_self (pick_N P) h fun k hk hl hmem hall => ?_
  have hp := pick_N P
  obtain ⟨j, hj, hjk⟩ := nonlow_ex hl
  have hlow := lastLow_le (L := P) hj
  have h1 := pick_min hk hl hmem (by omega)
  obtain ⟨l, hl1, hl2, hl3⟩ := hall _ (pick_mem hp hk hl)
  rcases Int.lt_or_le ((stR pkN P k).getD (pkN (stR pkN P k) (lastLow P k)) 0) (P.getD k 0) with h2 | h2
  · exfalso
    have hkl : k < l := by
      rcases Nat.lt_or_ge k l with h3 | h3
      · exact h3
      · have : l = k := by omega
        subst this; omega
    obtain ⟨i, hi, _, he⟩ := lastLow_at (L := P) (k := k) (by omega)
    have h3 := hp.gt k hk hl
    have : hasP P [1, 3, 2] = true := has3.2 ⟨i, k, l, hi, hkl, hl2, iff_of_true (by omega) (by omega), iff_of_true (by omega) (by omega), iff_of_false (by omega) (by omega)⟩
    rw [hn] at this; cases this
  · omega
theorem d_self (h : IsP P) (hn : hasP P [1, 2, 3] = false) : RestV pkD P = P := by
  refine rest_self (pick_D P) h fun k hk hl hmem hall => ?_
  have hp := pick_D P
  obtain ⟨j, hj, hjk⟩ := nonlow_ex hl
  have h1 := pick_max hmem
  obtain ⟨l, hl1, hl2, hl3⟩ := hall _ (pick_mem hp hk hl)
  rcases Int.lt_or_le (P.getD k 0) ((stR pkD P k).getD (pkD (stR pkD P k) (lastLow P k)) 0) with h2 | h2
  · exfalso
    have hkl : k < l := by
      rcases Nat.lt_or_ge k l with h3 | h3
      · exact h3
      · have : l = k := by omega
        subst this; omega
    have : hasP P [1, 2, 3] = true := has3.2 ⟨j, k, l, hj, hkl, hl2, iff_of_true (by omega) (by omega), iff_of_true (by omega) (by omega), iff_of_true (by omega) (by omega)⟩
    rw [hn] at this; cases this
  · omega
end Go.Proofs.Ytlcemelmnkipmaa
