/- The texts CodeTw, Foot, Map4, PlMath, TwMath, CodePl, FnVal, Plc, Tw in one (gmerge.py). -/
import Derived.Laws.Tables
import Derived.Test.YtdchjhhpbdekeaaStM4
/- What each function does, step by step, written by a program (Gen.lean); each equation is checked by the kernel. -/
namespace Go.Proofs.Ytdchjhhpbdekeaa
open Go
set_option linter.unusedVariables false
set_option maxRecDepth 100000
namespace spec_IsTwicePattern
@[reducible] def cfg : Cfg := ⟨60, [(10, [0, 3, 4, 5, 6, 7]), (5, [0, 3, 4])], [(3, [0, 3, 4, 5, 6, 7]), (2, [0, 3, 4, 6]), (1, [0, 3, 4]), (0, [])], [], [2], [12], [101, 107, 112, 15, 21, 124, 76, 137, 28, 115, 91, 81, 130], [138, 140, 82, 6, 86, 85, 132]⟩
def q14 (pr : Prims) (R : Ending → World → Prop) : Exit → Env → World → Prop := fun ex e w => normQ ex (fun e w => contE pr cfg (sub (codeOf Try.f26) [1, 1, 1, 1]) (fun e w => wpC pr PP cfg (DD pr) (sub (codeOf Try.f26) [1, 1, 1, 1]) (retQ Try.f26.results.toList R) e w) e w) (retQ Try.f26.results.toList R) e w
def q15 (pr : Prims) (R : Ending → World → Prop) : Exit → Env → World → Prop := fun ex e w => blockQ ex 0 (q14 pr R) e w
def q16 (pr : Prims) (k : Env → World → Prop) (Q : Exit → Env → World → Prop) : Exit → Env → World → Prop := fun ex e w => normQ ex (fun e w => contE pr cfg (sub (codeOf Try.f26) [1, 1, 1, 0, 1, 0, 0, 1, 1]) (fun e w => wpC pr PP cfg (DD pr) (sub (codeOf Try.f26) [1, 1, 1, 0, 1, 0, 0, 1, 1]) (fun ex e w => normQ ex (fun e' w' => k (Env.restr e' (lookN cfg.loops (keyOf (sub (codeOf Try.f26) [1, 1, 1, 0, 1, 0, 0])))) w') Q e w) e w) e w) (fun ex e w => normQ ex (fun e' w' => k (Env.restr e' (lookN cfg.loops (keyOf (sub (codeOf Try.f26) [1, 1, 1, 0, 1, 0, 0])))) w') Q e w) e w
def q17 (pr : Prims) (k : Env → World → Prop) (Q : Exit → Env → World → Prop) : Exit → Env → World → Prop := fun ex e w => blockQ ex 1 (q16 pr k Q) e w
def q20 (pr : Prims) (k : Env → World → Prop) (Q : Exit → Env → World → Prop) : Exit → Env → World → Prop := fun ex e w => normQ ex (fun e w => contE pr cfg (sub (codeOf Try.f26) [1, 1, 1, 0, 1, 0, 0, 1, 0, 0, 1, 1, 1]) (fun e w => wpC pr PP cfg (DD pr) (sub (codeOf Try.f26) [1, 1, 1, 0, 1, 0, 0, 1, 0, 0, 1, 1, 1]) (q17 pr k Q) e w) e w) (q17 pr k Q) e w
def q23 (pr : Prims) (k : Env → World → Prop) (Q : Exit → Env → World → Prop) : Exit → Env → World → Prop := fun ex e w => blockQ ex 2 (q20 pr k Q) e w
def emb5 (p_0 : Sl) (list_3 : Sl) (k_4 : Int) : Env := [(0, Sl.v p_0), (3, Sl.v list_3), (4, vI k_4)]
def emb10 (p_0 : Sl) (list_3 : Sl) (k_4 : Int) (x_5 : Sl) (found_6 : Bool) (i_7 : Int) : Env := [(0, Sl.v p_0), (3, Sl.v list_3), (4, vI k_4), (5, Sl.v x_5), (6, .bool found_6), (7, vI i_7)]
def x2 (p_0 : Sl) (list_3 : Sl) (k_4 : Int) (found_6 : Bool) : Env := [(0, Sl.v p_0), (3, Sl.v list_3), (4, vI k_4), (6, .bool found_6)]
def x0 : Env := []
def S10 (pr : Prims) (Q : Exit → Env → World → Prop) : (Env → World → Prop) → Env → World → Prop := fun k e w => wpC pr PP cfg (DD pr) (sub (codeOf Try.f26) [1, 1, 1, 0, 1, 0, 0, 1, 0, 0, 1, 1, 0, 1, 0, 0]) (fun ex e w => normQ ex (fun e' w' => k (Env.restr e' (lookN cfg.loops (keyOf (sub (codeOf Try.f26) [1, 1, 1, 0, 1, 0, 0, 1, 0, 0, 1, 1, 0, 1, 0, 0])))) w') Q e w) e w
def S5 (pr : Prims) (Q : Exit → Env → World → Prop) : (Env → World → Prop) → Env → World → Prop := fun k e w => wpC pr PP cfg (DD pr) (sub (codeOf Try.f26) [1, 1, 1, 0, 1, 0, 0]) (fun ex e w => normQ ex (fun e' w' => k (Env.restr e' (lookN cfg.loops (keyOf (sub (codeOf Try.f26) [1, 1, 1, 0, 1, 0, 0])))) w') Q e w) e w
def B10 (pr : Prims) (p_0 : Sl) (list_3 : Sl) (k_4 : Int) (x_5 : Sl) (found_6 : Bool) (i_7 : Int) (w : World) (k : Env → World → Prop) (Q : Exit → Env → World → Prop) : Prop :=
  S10 pr Q k (emb10 p_0 list_3 k_4 x_5 found_6 i_7) w
def L10 (pr : Prims) (p_0 : Sl) (list_3 : Sl) (k_4 : Int) (x_5 : Sl) (found_6 : Bool) (i_7 : Int) (w : World) (Q : Exit → Env → World → Prop) : Prop :=
  pr.loop (S10 pr Q) (emb10 p_0 list_3 k_4 x_5 found_6 i_7) w
def B5 (pr : Prims) (p_0 : Sl) (list_3 : Sl) (k_4 : Int) (w : World) (k : Env → World → Prop) (Q : Exit → Env → World → Prop) : Prop :=
  S5 pr Q k (emb5 p_0 list_3 k_4) w
def L5 (pr : Prims) (p_0 : Sl) (list_3 : Sl) (k_4 : Int) (w : World) (Q : Exit → Env → World → Prop) : Prop :=
  pr.loop (S5 pr Q) (emb5 p_0 list_3 k_4) w
def E (pr : Prims) (p_0 : Sl) (w : World) (R : Ending → World → Prop) : Prop :=
  wpC pr PP cfg (DD pr) (codeOf Try.f26) (retQ Try.f26.results.toList R) (argE 0 [Sl.v p_0]) w
theorem B10_eq (pr : Prims) (p_0 : Sl) (list_3 : Sl) (k_4 : Int) (x_5 : Sl) (found_6 : Bool) (i_7 : Int) (w : World) (k : Env → World → Prop) (Q : Exit → Env → World → Prop) : B10 pr p_0 list_3 k_4 x_5 found_6 i_7 w k Q = (
  pr.idxK 1 x_5 1 fun (a24 : Addr) =>
  pr.load1 (.int .i64) a24 w fun (ξ25 : Int) =>
  bif decide (i_7 < ξ25) then (
  bif found_6 then (
  pr.drewAll w fun ω26 =>
  k (emb10 p_0 list_3 k_4 x_5 true (w64 (i_7 + 1))) ω26)
  else (
  pr.idxK 1 p_0 (w64 (i_7 - 1)) fun (a27 : Addr) =>
  pr.load1 (.int .i64) a27 w fun (ξ28 : Int) =>
  pr.idxK 1 x_5 2 fun (a29 : Addr) =>
  pr.load1 (.int .i64) a29 w fun (ξ30 : Int) =>
  pr.idxK 1 p_0 (w64 (ξ30 - 1)) fun (a31 : Addr) =>
  pr.load1 (.int .i64) a31 w fun (ξ32 : Int) =>
  pr.drewAll w fun ω33 =>
  k (emb10 p_0 list_3 k_4 x_5 (decide (ξ28 > ξ32)) (w64 (i_7 + 1))) ω33))
  else (
  Q (.exit 2) (x2 p_0 list_3 k_4 found_6) w)) := by kernel_rfl
theorem B10_s (p_0 : Sl) (list_3 : Sl) (k_4 : Int) (x_5 : Sl) (found_6 : Bool) (i_7 : Int) (w : World) (k : Env → World → Prop) (Q : Exit → Env → World → Prop) : B10 std p_0 list_3 k_4 x_5 found_6 i_7 w k Q = (
  idxK 1 x_5 1 fun (a24 : Addr) =>
  load1 (.int .i64) a24 w fun (ξ25 : Int) =>
  bif decide (i_7 < ξ25) then (
  bif found_6 then (
  drewAll w fun ω26 =>
  k (emb10 p_0 list_3 k_4 x_5 true (w64 (i_7 + 1))) ω26)
  else (
  idxK 1 p_0 (w64 (i_7 - 1)) fun (a27 : Addr) =>
  load1 (.int .i64) a27 w fun (ξ28 : Int) =>
  idxK 1 x_5 2 fun (a29 : Addr) =>
  load1 (.int .i64) a29 w fun (ξ30 : Int) =>
  idxK 1 p_0 (w64 (ξ30 - 1)) fun (a31 : Addr) =>
  load1 (.int .i64) a31 w fun (ξ32 : Int) =>
  drewAll w fun ω33 =>
  k (emb10 p_0 list_3 k_4 x_5 (decide (ξ28 > ξ32)) (w64 (i_7 + 1))) ω33))
  else (
  Q (.exit 2) (x2 p_0 list_3 k_4 found_6) w)) := B10_eq std p_0 list_3 k_4 x_5 found_6 i_7 w k Q
theorem L10_rule (p_0 : Sl) (list_3 : Sl) (k_4 : Int) (x_5 : Sl) (found_6 : Bool) (i_7 : Int) (w : World) (Q : Exit → Env → World → Prop) (I : Bool → Int → World → Prop) (μ : Bool → Int → World → Nat) (h0 : I found_6 i_7 w)
    (h : ∀ (found_6 : Bool) (i_7 : Int) (w' : World), I found_6 i_7 w' → B10 std p_0 list_3 k_4 x_5 found_6 i_7 w' (fun e2 w2 => ∃ found_6_n i_7_n, e2 = emb10 p_0 list_3 k_4 x_5 found_6_n i_7_n ∧ I found_6_n i_7_n w2 ∧ μ found_6_n i_7_n w2 < μ found_6 i_7 w') Q) :
    L10 std p_0 list_3 k_4 x_5 found_6 i_7 w Q := by
  unfold L10
  refine LoopE.intro (σ := Bool × Int) (step := S10 std Q) (fun s => emb10 p_0 list_3 k_4 x_5 s.1 s.2) (fun s w => I s.1 s.2 w) (fun s w => μ s.1 s.2 w) (found_6, i_7) rfl h0 ?_
  intro s w' hI
  have h1 := h s.1 s.2 w' hI
  unfold B10 at h1
  simp only [Prod.exists]
  exact h1
theorem A10_2_eq (pr : Prims) (p_0 : Sl) (list_3 : Sl) (k_4 : Int) (found_6 : Bool) (w : World) (k : Env → World → Prop) (Q : Exit → Env → World → Prop) : (q23 pr k Q) (.exit 2) (x2 p_0 list_3 k_4 found_6) w = (
  bif !found_6 then (
  Q .ret [(2, .bool false)] w)
  else (
  k (emb5 p_0 list_3 (w64 (k_4 + 1))) w)) := by kernel_rfl
theorem A10_2_s (p_0 : Sl) (list_3 : Sl) (k_4 : Int) (found_6 : Bool) (w : World) (k : Env → World → Prop) (Q : Exit → Env → World → Prop) : (q23 std k Q) (.exit 2) (x2 p_0 list_3 k_4 found_6) w = (
  bif !found_6 then (
  Q .ret [(2, .bool false)] w)
  else (
  k (emb5 p_0 list_3 (w64 (k_4 + 1))) w)) := A10_2_eq std p_0 list_3 k_4 found_6 w k Q
theorem B5_eq (pr : Prims) (p_0 : Sl) (list_3 : Sl) (k_4 : Int) (w : World) (k : Env → World → Prop) (Q : Exit → Env → World → Prop) : B5 pr p_0 list_3 k_4 w k Q = (
  bif decide (k_4 < (list_3.n : Int)) then (
  pr.idxK 1 list_3 k_4 fun (a18 : Addr) =>
  pr.load1 .sl a18 w fun (ξ19 : Sl) =>
  pr.idxK 1 ξ19 0 fun (a21 : Addr) =>
  pr.load1 (.int .i64) a21 w fun (ξ22 : Int) =>
  L10 pr p_0 list_3 k_4 ξ19 false (w64 (ξ22 + 1)) w (q23 pr k Q))
  else (
  Q (.exit 0) (x0) w)) := by kernel_rfl
theorem B5_s (p_0 : Sl) (list_3 : Sl) (k_4 : Int) (w : World) (k : Env → World → Prop) (Q : Exit → Env → World → Prop) : B5 std p_0 list_3 k_4 w k Q = (
  bif decide (k_4 < (list_3.n : Int)) then (
  idxK 1 list_3 k_4 fun (a18 : Addr) =>
  load1 .sl a18 w fun (ξ19 : Sl) =>
  idxK 1 ξ19 0 fun (a21 : Addr) =>
  load1 (.int .i64) a21 w fun (ξ22 : Int) =>
  L10 std p_0 list_3 k_4 ξ19 false (w64 (ξ22 + 1)) w (q23 std k Q))
  else (
  Q (.exit 0) (x0) w)) := B5_eq std p_0 list_3 k_4 w k Q
theorem L5_rule (p_0 : Sl) (list_3 : Sl) (k_4 : Int) (w : World) (Q : Exit → Env → World → Prop) (I : Int → World → Prop) (μ : Int → World → Nat) (h0 : I k_4 w)
    (h : ∀ (k_4 : Int) (w' : World), I k_4 w' → B5 std p_0 list_3 k_4 w' (fun e2 w2 => ∃ k_4_n, e2 = emb5 p_0 list_3 k_4_n ∧ I k_4_n w2 ∧ μ k_4_n w2 < μ k_4 w') Q) :
    L5 std p_0 list_3 k_4 w Q := by
  unfold L5
  refine LoopE.intro (σ := Int) (step := S5 std Q) (fun s => emb5 p_0 list_3 s) (fun s w => I s w) (fun s w => μ s w) k_4 rfl h0 ?_
  intro s w' hI
  have h1 := h s w' hI
  unfold B5 at h1
  exact h1
theorem A5_0_eq (pr : Prims) (w : World) (R : Ending → World → Prop) : (q15 pr R) (.exit 0) (x0) w = (
  R (.returned (.bool true)) w) := by kernel_rfl
theorem A5_0_s (w : World) (R : Ending → World → Prop) : (q15 std R) (.exit 0) (x0) w = (
  R (.returned (.bool true)) w) := A5_0_eq std w R
theorem R5_eq (pr : Prims) (v2 : Value) (w : World) (R : Ending → World → Prop) : (q15 pr R) .ret [(2, v2)] w = (
  R (.returned (v2)) w) := by kernel_rfl
theorem R5_s (v2 : Value) (w : World) (R : Ending → World → Prop) : (q15 std R) .ret [(2, v2)] w = (
  R (.returned (v2)) w) := R5_eq std v2 w R
theorem E_eq (pr : Prims) (p_0 : Sl) (w : World) (R : Ending → World → Prop) : E pr p_0 w R = (
  pr.call1 .bool PP F.spec_IsPerm #[Sl.v p_0] w fun (ρ0 : Bool) ω1 =>
  bif !ρ0 then (
  R (.returned (.bool false)) ω1)
  else (
  pr.sem1 .sl PP (Instr.buildSlice T_Sint 4 #[(0, vI 2), (1, vI 3), (2, vI 4), (3, vI 1)]) ω1 fun (ρ2 : Sl) ω3 =>
  pr.call1 .bool PP F.spec_l7Has #[Sl.v p_0, Sl.v ρ2] ω3 fun (ρ4 : Bool) ω5 =>
  bif ρ4 then (
  R (.returned (.bool false)) ω5)
  else (
  pr.sem1 .sl PP (Instr.buildSlice T_Sint 4 #[(0, vI 3), (1, vI 2), (2, vI 4), (3, vI 1)]) ω5 fun (ρ6 : Sl) ω7 =>
  pr.sem1 .sl PP (Instr.buildSlice T_Sint 0 #[]) ω7 fun (ρ8 : Sl) ω9 =>
  pr.sem1 .sl PP (Instr.buildSlice T_SSint 0 #[]) ω9 fun (ρ10 : Sl) ω11 =>
  pr.call1 .sl PP F.spec_l7Find #[Sl.v p_0, Sl.v ρ6, Sl.v ρ8, Sl.v ρ10] ω11 fun (ρ12 : Sl) ω13 =>
  L5 pr p_0 ρ12 0 ω13 (q15 pr R)))) := by kernel_rfl
theorem E_s (p_0 : Sl) (w : World) (R : Ending → World → Prop) : E std p_0 w R = (
  call1 .bool PP F.spec_IsPerm #[Sl.v p_0] w fun (ρ0 : Bool) ω1 =>
  bif !ρ0 then (
  R (.returned (.bool false)) ω1)
  else (
  sem1 .sl PP (Instr.buildSlice T_Sint 4 #[(0, vI 2), (1, vI 3), (2, vI 4), (3, vI 1)]) ω1 fun (ρ2 : Sl) ω3 =>
  call1 .bool PP F.spec_l7Has #[Sl.v p_0, Sl.v ρ2] ω3 fun (ρ4 : Bool) ω5 =>
  bif ρ4 then (
  R (.returned (.bool false)) ω5)
  else (
  sem1 .sl PP (Instr.buildSlice T_Sint 4 #[(0, vI 3), (1, vI 2), (2, vI 4), (3, vI 1)]) ω5 fun (ρ6 : Sl) ω7 =>
  sem1 .sl PP (Instr.buildSlice T_Sint 0 #[]) ω7 fun (ρ8 : Sl) ω9 =>
  sem1 .sl PP (Instr.buildSlice T_SSint 0 #[]) ω9 fun (ρ10 : Sl) ω11 =>
  call1 .sl PP F.spec_l7Find #[Sl.v p_0, Sl.v ρ6, Sl.v ρ8, Sl.v ρ10] ω11 fun (ρ12 : Sl) ω13 =>
  L5 std p_0 ρ12 0 ω13 (q15 std R)))) := E_eq std p_0 w R
theorem drawsOk : drawsOk PP cfg okD (codeOf Try.f26) = true := by kernel_rfl
theorem calls (p_0 : Sl) {w : World} {R : Ending → World → Prop} (h : E std p_0 w R) : Calls PP F.spec_IsTwicePattern #[Sl.v p_0] w R :=
  calls_of noCount mixed drawOk Try.func26 rfl (c := cfg) (args := [Sl.v p_0]) rfl (Nat.le_of_ble_eq_true (by kernel_rfl)) drawsOk h
end spec_IsTwicePattern

namespace impl_IsTwicePattern
@[reducible] def cfg : Cfg := ⟨65, [(5, [0, 3, 19, 20, 21]), (10, [3, 42, 43, 44])], [(1, [0, 3, 19, 20, 21]), (0, [0, 3]), (3, [3, 42, 43, 44]), (2, [])], [(13, [3, 42, 43, 44, 63])], [2], [], [101, 107, 112, 15, 21, 124, 76, 137, 28, 115, 91, 81, 130], [138, 140, 82, 6, 86, 85, 132]⟩
def q8 (pr : Prims) (R : Ending → World → Prop) : Exit → Env → World → Prop := fun ex e w => normQ ex (fun e w => contE pr cfg (sub (codeOf Try.f25) [1, 1, 1, 1]) (fun e w => wpC pr PP cfg (DD pr) (sub (codeOf Try.f25) [1, 1, 1, 1]) (retQ Try.f25.results.toList R) e w) e w) (retQ Try.f25.results.toList R) e w
def q13 (pr : Prims) (R : Ending → World → Prop) : Exit → Env → World → Prop := fun ex e w => blockQ ex 0 (q8 pr R) e w
def q133 (pr : Prims) (R : Ending → World → Prop) : Exit → Env → World → Prop := fun ex e w => normQ ex (fun e w => contE pr cfg (sub (codeOf Try.f25) [1, 1, 1, 1, 1]) (fun e w => wpC pr PP cfg (DD pr) (sub (codeOf Try.f25) [1, 1, 1, 1, 1]) (retQ Try.f25.results.toList R) e w) e w) (retQ Try.f25.results.toList R) e w
def q138 (pr : Prims) (R : Ending → World → Prop) : Exit → Env → World → Prop := fun ex e w => blockQ ex 2 (q133 pr R) e w
def q139 (pr : Prims) (k : Env → World → Prop) (Q : Exit → Env → World → Prop) : Exit → Env → World → Prop := fun ex e w => normQ ex (fun e w => contE pr cfg (sub (codeOf Try.f25) [1, 1, 1, 1, 0, 1, 0, 0, 1, 1, 1]) (fun e w => wpC pr PP cfg (DD pr) (sub (codeOf Try.f25) [1, 1, 1, 1, 0, 1, 0, 0, 1, 1, 1]) (fun ex e w => normQ ex (fun e' w' => k (Env.restr e' (lookN cfg.loops (keyOf (sub (codeOf Try.f25) [1, 1, 1, 1, 0, 1, 0, 0])))) w') Q e w) e w) e w) (fun ex e w => normQ ex (fun e' w' => k (Env.restr e' (lookN cfg.loops (keyOf (sub (codeOf Try.f25) [1, 1, 1, 1, 0, 1, 0, 0])))) w') Q e w) e w
def q140 (pr : Prims) (k : Env → World → Prop) (Q : Exit → Env → World → Prop) : Exit → Env → World → Prop := fun ex e w => blockQ ex 3 (q139 pr k Q) e w
def q143 (pr : Prims) (k : Env → World → Prop) (Q : Exit → Env → World → Prop) : Exit → Env → World → Prop := fun ex e w => normQ ex (fun e w => contE pr cfg (sub (codeOf Try.f25) [1, 1, 1, 1, 0, 1, 0, 0, 1, 1, 0, 0, 1, 1]) (fun e w => wpC pr PP cfg (DD pr) (sub (codeOf Try.f25) [1, 1, 1, 1, 0, 1, 0, 0, 1, 1, 0, 0, 1, 1]) (q140 pr k Q) e w) e w) (q140 pr k Q) e w
def emb5 (p_0 : Sl) (within_3 : (Option Nat)) (t19 : Sl) (t20 : Int) (t21 : Int) : Env := [(0, Sl.v p_0), (3, .map within_3), (19, Sl.v t19), (20, vI t20), (21, vI t21)]
def x0 (p_0 : Sl) (within_3 : (Option Nat)) : Env := [(0, Sl.v p_0), (3, .map within_3)]
def emb10 (within_3 : (Option Nat)) (t42 : Sl) (t43 : Int) (t44 : Int) : Env := [(3, .map within_3), (42, Sl.v t42), (43, vI t43), (44, vI t44)]
def j13 (within_3 : (Option Nat)) (t42 : Sl) (t43 : Int) (t44 : Int) (t63 : Bool) : Env := [(3, .map within_3), (42, Sl.v t42), (43, vI t43), (44, vI t44), (63, .bool t63)]
def x2 : Env := []
def S5 (pr : Prims) (Q : Exit → Env → World → Prop) : (Env → World → Prop) → Env → World → Prop := fun k e w => wpC pr PP cfg (DD pr) (sub (codeOf Try.f25) [1, 1, 1, 0, 1, 0, 0]) (fun ex e w => normQ ex (fun e' w' => k (Env.restr e' (lookN cfg.loops (keyOf (sub (codeOf Try.f25) [1, 1, 1, 0, 1, 0, 0])))) w') Q e w) e w
def S10 (pr : Prims) (Q : Exit → Env → World → Prop) : (Env → World → Prop) → Env → World → Prop := fun k e w => wpC pr PP cfg (DD pr) (sub (codeOf Try.f25) [1, 1, 1, 1, 0, 1, 0, 0]) (fun ex e w => normQ ex (fun e' w' => k (Env.restr e' (lookN cfg.loops (keyOf (sub (codeOf Try.f25) [1, 1, 1, 1, 0, 1, 0, 0])))) w') Q e w) e w
def B5 (pr : Prims) (p_0 : Sl) (within_3 : (Option Nat)) (t19 : Sl) (t20 : Int) (t21 : Int) (w : World) (k : Env → World → Prop) (Q : Exit → Env → World → Prop) : Prop :=
  S5 pr Q k (emb5 p_0 within_3 t19 t20 t21) w
def L5 (pr : Prims) (p_0 : Sl) (within_3 : (Option Nat)) (t19 : Sl) (t20 : Int) (t21 : Int) (w : World) (Q : Exit → Env → World → Prop) : Prop :=
  pr.loop (S5 pr Q) (emb5 p_0 within_3 t19 t20 t21) w
def J13 (pr : Prims) (within_3 : (Option Nat)) (t42 : Sl) (t43 : Int) (t44 : Int) (t63 : Bool) (w : World) (k : Env → World → Prop) (Q : Exit → Env → World → Prop) : Prop :=
  pr.seg (fun e w => wpC pr PP cfg (DD pr) (sub (codeOf Try.f25) [1, 1, 1, 1, 0, 1, 0, 0, 1, 1, 0, 0, 1, 1]) (q140 pr k Q) e w) (j13 within_3 t42 t43 t44 t63) w
def B10 (pr : Prims) (within_3 : (Option Nat)) (t42 : Sl) (t43 : Int) (t44 : Int) (w : World) (k : Env → World → Prop) (Q : Exit → Env → World → Prop) : Prop :=
  S10 pr Q k (emb10 within_3 t42 t43 t44) w
def L10 (pr : Prims) (within_3 : (Option Nat)) (t42 : Sl) (t43 : Int) (t44 : Int) (w : World) (Q : Exit → Env → World → Prop) : Prop :=
  pr.loop (S10 pr Q) (emb10 within_3 t42 t43 t44) w
def E (pr : Prims) (p_0 : Sl) (w : World) (R : Ending → World → Prop) : Prop :=
  wpC pr PP cfg (DD pr) (codeOf Try.f25) (retQ Try.f25.results.toList R) (argE 0 [Sl.v p_0]) w
theorem B5_eq (pr : Prims) (p_0 : Sl) (within_3 : (Option Nat)) (t19 : Sl) (t20 : Int) (t21 : Int) (w : World) (k : Env → World → Prop) (Q : Exit → Env → World → Prop) : B5 pr p_0 within_3 t19 t20 t21 w k Q = (
  bif decide (t21 < t20) then (
  pr.idxK 1 t19 t21 fun (a14 : Addr) =>
  pr.load1 .sl a14 w fun (ξ15 : Sl) =>
  pr.drewAll w fun ω16 =>
  pr.idxK 1 ξ15 0 fun (a17 : Addr) =>
  pr.idxK 1 ξ15 2 fun (a18 : Addr) =>
  pr.idxK 1 ξ15 3 fun (a19 : Addr) =>
  pr.idxK 1 ξ15 4 fun (a20 : Addr) =>
  (pr.load1 (.int .i64) a17 ω16 fun (ξ21 : Int) =>
  (pr.load1 (.int .i64) a18 ω16 fun (ξ22 : Int) =>
  (pr.load1 (.int .i64) a19 ω16 fun (ξ23 : Int) =>
  pr.load1 (.int .i64) a20 ω16 fun (ξ24 : Int) =>
  pr.buildK PP T__4_int [(0, vI ξ21), (1, vI ξ22), (2, vI ξ23), (3, vI ξ24)] fun (v25 : Value) =>
  pr.sem0 PP (Instr.mapUpdate T_M_4_int_bool (.map within_3) v25 (.bool true)) ω16 fun ω26 =>
  k (emb5 p_0 within_3 t19 t20 (w64 (t21 + 1))) ω26) ∧
  (pr.load1 (.int .i64) a20 ω16 fun (ξ27 : Int) =>
  pr.load1 (.int .i64) a19 ω16 fun (ξ28 : Int) =>
  pr.buildK PP T__4_int [(0, vI ξ21), (1, vI ξ22), (2, vI ξ28), (3, vI ξ27)] fun (v29 : Value) =>
  pr.sem0 PP (Instr.mapUpdate T_M_4_int_bool (.map within_3) v29 (.bool true)) ω16 fun ω30 =>
  k (emb5 p_0 within_3 t19 t20 (w64 (t21 + 1))) ω30)) ∧
  (pr.load1 (.int .i64) a19 ω16 fun (ξ31 : Int) =>
  (pr.load1 (.int .i64) a18 ω16 fun (ξ32 : Int) =>
  pr.load1 (.int .i64) a20 ω16 fun (ξ33 : Int) =>
  pr.buildK PP T__4_int [(0, vI ξ21), (1, vI ξ32), (2, vI ξ31), (3, vI ξ33)] fun (v34 : Value) =>
  pr.sem0 PP (Instr.mapUpdate T_M_4_int_bool (.map within_3) v34 (.bool true)) ω16 fun ω35 =>
  k (emb5 p_0 within_3 t19 t20 (w64 (t21 + 1))) ω35) ∧
  (pr.load1 (.int .i64) a20 ω16 fun (ξ36 : Int) =>
  pr.load1 (.int .i64) a18 ω16 fun (ξ37 : Int) =>
  pr.buildK PP T__4_int [(0, vI ξ21), (1, vI ξ37), (2, vI ξ31), (3, vI ξ36)] fun (v38 : Value) =>
  pr.sem0 PP (Instr.mapUpdate T_M_4_int_bool (.map within_3) v38 (.bool true)) ω16 fun ω39 =>
  k (emb5 p_0 within_3 t19 t20 (w64 (t21 + 1))) ω39)) ∧
  (pr.load1 (.int .i64) a20 ω16 fun (ξ40 : Int) =>
  (pr.load1 (.int .i64) a18 ω16 fun (ξ41 : Int) =>
  pr.load1 (.int .i64) a19 ω16 fun (ξ42 : Int) =>
  pr.buildK PP T__4_int [(0, vI ξ21), (1, vI ξ41), (2, vI ξ42), (3, vI ξ40)] fun (v43 : Value) =>
  pr.sem0 PP (Instr.mapUpdate T_M_4_int_bool (.map within_3) v43 (.bool true)) ω16 fun ω44 =>
  k (emb5 p_0 within_3 t19 t20 (w64 (t21 + 1))) ω44) ∧
  (pr.load1 (.int .i64) a19 ω16 fun (ξ45 : Int) =>
  pr.load1 (.int .i64) a18 ω16 fun (ξ46 : Int) =>
  pr.buildK PP T__4_int [(0, vI ξ21), (1, vI ξ46), (2, vI ξ45), (3, vI ξ40)] fun (v47 : Value) =>
  pr.sem0 PP (Instr.mapUpdate T_M_4_int_bool (.map within_3) v47 (.bool true)) ω16 fun ω48 =>
  k (emb5 p_0 within_3 t19 t20 (w64 (t21 + 1))) ω48))) ∧
  (pr.load1 (.int .i64) a18 ω16 fun (ξ49 : Int) =>
  (pr.load1 (.int .i64) a17 ω16 fun (ξ50 : Int) =>
  (pr.load1 (.int .i64) a19 ω16 fun (ξ51 : Int) =>
  pr.load1 (.int .i64) a20 ω16 fun (ξ52 : Int) =>
  pr.buildK PP T__4_int [(0, vI ξ50), (1, vI ξ49), (2, vI ξ51), (3, vI ξ52)] fun (v53 : Value) =>
  pr.sem0 PP (Instr.mapUpdate T_M_4_int_bool (.map within_3) v53 (.bool true)) ω16 fun ω54 =>
  k (emb5 p_0 within_3 t19 t20 (w64 (t21 + 1))) ω54) ∧
  (pr.load1 (.int .i64) a20 ω16 fun (ξ55 : Int) =>
  pr.load1 (.int .i64) a19 ω16 fun (ξ56 : Int) =>
  pr.buildK PP T__4_int [(0, vI ξ50), (1, vI ξ49), (2, vI ξ56), (3, vI ξ55)] fun (v57 : Value) =>
  pr.sem0 PP (Instr.mapUpdate T_M_4_int_bool (.map within_3) v57 (.bool true)) ω16 fun ω58 =>
  k (emb5 p_0 within_3 t19 t20 (w64 (t21 + 1))) ω58)) ∧
  (pr.load1 (.int .i64) a19 ω16 fun (ξ59 : Int) =>
  (pr.load1 (.int .i64) a17 ω16 fun (ξ60 : Int) =>
  pr.load1 (.int .i64) a20 ω16 fun (ξ61 : Int) =>
  pr.buildK PP T__4_int [(0, vI ξ60), (1, vI ξ49), (2, vI ξ59), (3, vI ξ61)] fun (v62 : Value) =>
  pr.sem0 PP (Instr.mapUpdate T_M_4_int_bool (.map within_3) v62 (.bool true)) ω16 fun ω63 =>
  k (emb5 p_0 within_3 t19 t20 (w64 (t21 + 1))) ω63) ∧
  (pr.load1 (.int .i64) a20 ω16 fun (ξ64 : Int) =>
  pr.load1 (.int .i64) a17 ω16 fun (ξ65 : Int) =>
  pr.buildK PP T__4_int [(0, vI ξ65), (1, vI ξ49), (2, vI ξ59), (3, vI ξ64)] fun (v66 : Value) =>
  pr.sem0 PP (Instr.mapUpdate T_M_4_int_bool (.map within_3) v66 (.bool true)) ω16 fun ω67 =>
  k (emb5 p_0 within_3 t19 t20 (w64 (t21 + 1))) ω67)) ∧
  (pr.load1 (.int .i64) a20 ω16 fun (ξ68 : Int) =>
  (pr.load1 (.int .i64) a17 ω16 fun (ξ69 : Int) =>
  pr.load1 (.int .i64) a19 ω16 fun (ξ70 : Int) =>
  pr.buildK PP T__4_int [(0, vI ξ69), (1, vI ξ49), (2, vI ξ70), (3, vI ξ68)] fun (v71 : Value) =>
  pr.sem0 PP (Instr.mapUpdate T_M_4_int_bool (.map within_3) v71 (.bool true)) ω16 fun ω72 =>
  k (emb5 p_0 within_3 t19 t20 (w64 (t21 + 1))) ω72) ∧
  (pr.load1 (.int .i64) a19 ω16 fun (ξ73 : Int) =>
  pr.load1 (.int .i64) a17 ω16 fun (ξ74 : Int) =>
  pr.buildK PP T__4_int [(0, vI ξ74), (1, vI ξ49), (2, vI ξ73), (3, vI ξ68)] fun (v75 : Value) =>
  pr.sem0 PP (Instr.mapUpdate T_M_4_int_bool (.map within_3) v75 (.bool true)) ω16 fun ω76 =>
  k (emb5 p_0 within_3 t19 t20 (w64 (t21 + 1))) ω76))) ∧
  (pr.load1 (.int .i64) a19 ω16 fun (ξ77 : Int) =>
  (pr.load1 (.int .i64) a17 ω16 fun (ξ78 : Int) =>
  (pr.load1 (.int .i64) a18 ω16 fun (ξ79 : Int) =>
  pr.load1 (.int .i64) a20 ω16 fun (ξ80 : Int) =>
  pr.buildK PP T__4_int [(0, vI ξ78), (1, vI ξ79), (2, vI ξ77), (3, vI ξ80)] fun (v81 : Value) =>
  pr.sem0 PP (Instr.mapUpdate T_M_4_int_bool (.map within_3) v81 (.bool true)) ω16 fun ω82 =>
  k (emb5 p_0 within_3 t19 t20 (w64 (t21 + 1))) ω82) ∧
  (pr.load1 (.int .i64) a20 ω16 fun (ξ83 : Int) =>
  pr.load1 (.int .i64) a18 ω16 fun (ξ84 : Int) =>
  pr.buildK PP T__4_int [(0, vI ξ78), (1, vI ξ84), (2, vI ξ77), (3, vI ξ83)] fun (v85 : Value) =>
  pr.sem0 PP (Instr.mapUpdate T_M_4_int_bool (.map within_3) v85 (.bool true)) ω16 fun ω86 =>
  k (emb5 p_0 within_3 t19 t20 (w64 (t21 + 1))) ω86)) ∧
  (pr.load1 (.int .i64) a18 ω16 fun (ξ87 : Int) =>
  (pr.load1 (.int .i64) a17 ω16 fun (ξ88 : Int) =>
  pr.load1 (.int .i64) a20 ω16 fun (ξ89 : Int) =>
  pr.buildK PP T__4_int [(0, vI ξ88), (1, vI ξ87), (2, vI ξ77), (3, vI ξ89)] fun (v90 : Value) =>
  pr.sem0 PP (Instr.mapUpdate T_M_4_int_bool (.map within_3) v90 (.bool true)) ω16 fun ω91 =>
  k (emb5 p_0 within_3 t19 t20 (w64 (t21 + 1))) ω91) ∧
  (pr.load1 (.int .i64) a20 ω16 fun (ξ92 : Int) =>
  pr.load1 (.int .i64) a17 ω16 fun (ξ93 : Int) =>
  pr.buildK PP T__4_int [(0, vI ξ93), (1, vI ξ87), (2, vI ξ77), (3, vI ξ92)] fun (v94 : Value) =>
  pr.sem0 PP (Instr.mapUpdate T_M_4_int_bool (.map within_3) v94 (.bool true)) ω16 fun ω95 =>
  k (emb5 p_0 within_3 t19 t20 (w64 (t21 + 1))) ω95)) ∧
  (pr.load1 (.int .i64) a20 ω16 fun (ξ96 : Int) =>
  (pr.load1 (.int .i64) a17 ω16 fun (ξ97 : Int) =>
  pr.load1 (.int .i64) a18 ω16 fun (ξ98 : Int) =>
  pr.buildK PP T__4_int [(0, vI ξ97), (1, vI ξ98), (2, vI ξ77), (3, vI ξ96)] fun (v99 : Value) =>
  pr.sem0 PP (Instr.mapUpdate T_M_4_int_bool (.map within_3) v99 (.bool true)) ω16 fun ω100 =>
  k (emb5 p_0 within_3 t19 t20 (w64 (t21 + 1))) ω100) ∧
  (pr.load1 (.int .i64) a18 ω16 fun (ξ101 : Int) =>
  pr.load1 (.int .i64) a17 ω16 fun (ξ102 : Int) =>
  pr.buildK PP T__4_int [(0, vI ξ102), (1, vI ξ101), (2, vI ξ77), (3, vI ξ96)] fun (v103 : Value) =>
  pr.sem0 PP (Instr.mapUpdate T_M_4_int_bool (.map within_3) v103 (.bool true)) ω16 fun ω104 =>
  k (emb5 p_0 within_3 t19 t20 (w64 (t21 + 1))) ω104))) ∧
  (pr.load1 (.int .i64) a20 ω16 fun (ξ105 : Int) =>
  (pr.load1 (.int .i64) a17 ω16 fun (ξ106 : Int) =>
  (pr.load1 (.int .i64) a18 ω16 fun (ξ107 : Int) =>
  pr.load1 (.int .i64) a19 ω16 fun (ξ108 : Int) =>
  pr.buildK PP T__4_int [(0, vI ξ106), (1, vI ξ107), (2, vI ξ108), (3, vI ξ105)] fun (v109 : Value) =>
  pr.sem0 PP (Instr.mapUpdate T_M_4_int_bool (.map within_3) v109 (.bool true)) ω16 fun ω110 =>
  k (emb5 p_0 within_3 t19 t20 (w64 (t21 + 1))) ω110) ∧
  (pr.load1 (.int .i64) a19 ω16 fun (ξ111 : Int) =>
  pr.load1 (.int .i64) a18 ω16 fun (ξ112 : Int) =>
  pr.buildK PP T__4_int [(0, vI ξ106), (1, vI ξ112), (2, vI ξ111), (3, vI ξ105)] fun (v113 : Value) =>
  pr.sem0 PP (Instr.mapUpdate T_M_4_int_bool (.map within_3) v113 (.bool true)) ω16 fun ω114 =>
  k (emb5 p_0 within_3 t19 t20 (w64 (t21 + 1))) ω114)) ∧
  (pr.load1 (.int .i64) a18 ω16 fun (ξ115 : Int) =>
  (pr.load1 (.int .i64) a17 ω16 fun (ξ116 : Int) =>
  pr.load1 (.int .i64) a19 ω16 fun (ξ117 : Int) =>
  pr.buildK PP T__4_int [(0, vI ξ116), (1, vI ξ115), (2, vI ξ117), (3, vI ξ105)] fun (v118 : Value) =>
  pr.sem0 PP (Instr.mapUpdate T_M_4_int_bool (.map within_3) v118 (.bool true)) ω16 fun ω119 =>
  k (emb5 p_0 within_3 t19 t20 (w64 (t21 + 1))) ω119) ∧
  (pr.load1 (.int .i64) a19 ω16 fun (ξ120 : Int) =>
  pr.load1 (.int .i64) a17 ω16 fun (ξ121 : Int) =>
  pr.buildK PP T__4_int [(0, vI ξ121), (1, vI ξ115), (2, vI ξ120), (3, vI ξ105)] fun (v122 : Value) =>
  pr.sem0 PP (Instr.mapUpdate T_M_4_int_bool (.map within_3) v122 (.bool true)) ω16 fun ω123 =>
  k (emb5 p_0 within_3 t19 t20 (w64 (t21 + 1))) ω123)) ∧
  (pr.load1 (.int .i64) a19 ω16 fun (ξ124 : Int) =>
  (pr.load1 (.int .i64) a17 ω16 fun (ξ125 : Int) =>
  pr.load1 (.int .i64) a18 ω16 fun (ξ126 : Int) =>
  pr.buildK PP T__4_int [(0, vI ξ125), (1, vI ξ126), (2, vI ξ124), (3, vI ξ105)] fun (v127 : Value) =>
  pr.sem0 PP (Instr.mapUpdate T_M_4_int_bool (.map within_3) v127 (.bool true)) ω16 fun ω128 =>
  k (emb5 p_0 within_3 t19 t20 (w64 (t21 + 1))) ω128) ∧
  (pr.load1 (.int .i64) a18 ω16 fun (ξ129 : Int) =>
  pr.load1 (.int .i64) a17 ω16 fun (ξ130 : Int) =>
  pr.buildK PP T__4_int [(0, vI ξ130), (1, vI ξ129), (2, vI ξ124), (3, vI ξ105)] fun (v131 : Value) =>
  pr.sem0 PP (Instr.mapUpdate T_M_4_int_bool (.map within_3) v131 (.bool true)) ω16 fun ω132 =>
  k (emb5 p_0 within_3 t19 t20 (w64 (t21 + 1))) ω132))))
  else (
  Q (.exit 0) (x0 p_0 within_3) w)) := by kernel_rfl
theorem B5_s (p_0 : Sl) (within_3 : (Option Nat)) (t19 : Sl) (t20 : Int) (t21 : Int) (w : World) (k : Env → World → Prop) (Q : Exit → Env → World → Prop) : B5 std p_0 within_3 t19 t20 t21 w k Q = (
  bif decide (t21 < t20) then (
  idxK 1 t19 t21 fun (a14 : Addr) =>
  load1 .sl a14 w fun (ξ15 : Sl) =>
  drewAll w fun ω16 =>
  idxK 1 ξ15 0 fun (a17 : Addr) =>
  idxK 1 ξ15 2 fun (a18 : Addr) =>
  idxK 1 ξ15 3 fun (a19 : Addr) =>
  idxK 1 ξ15 4 fun (a20 : Addr) =>
  (load1 (.int .i64) a17 ω16 fun (ξ21 : Int) =>
  (load1 (.int .i64) a18 ω16 fun (ξ22 : Int) =>
  (load1 (.int .i64) a19 ω16 fun (ξ23 : Int) =>
  load1 (.int .i64) a20 ω16 fun (ξ24 : Int) =>
  buildK PP T__4_int [(0, vI ξ21), (1, vI ξ22), (2, vI ξ23), (3, vI ξ24)] fun (v25 : Value) =>
  sem0 PP (Instr.mapUpdate T_M_4_int_bool (.map within_3) v25 (.bool true)) ω16 fun ω26 =>
  k (emb5 p_0 within_3 t19 t20 (w64 (t21 + 1))) ω26) ∧
  (load1 (.int .i64) a20 ω16 fun (ξ27 : Int) =>
  load1 (.int .i64) a19 ω16 fun (ξ28 : Int) =>
  buildK PP T__4_int [(0, vI ξ21), (1, vI ξ22), (2, vI ξ28), (3, vI ξ27)] fun (v29 : Value) =>
  sem0 PP (Instr.mapUpdate T_M_4_int_bool (.map within_3) v29 (.bool true)) ω16 fun ω30 =>
  k (emb5 p_0 within_3 t19 t20 (w64 (t21 + 1))) ω30)) ∧
  (load1 (.int .i64) a19 ω16 fun (ξ31 : Int) =>
  (load1 (.int .i64) a18 ω16 fun (ξ32 : Int) =>
  load1 (.int .i64) a20 ω16 fun (ξ33 : Int) =>
  buildK PP T__4_int [(0, vI ξ21), (1, vI ξ32), (2, vI ξ31), (3, vI ξ33)] fun (v34 : Value) =>
  sem0 PP (Instr.mapUpdate T_M_4_int_bool (.map within_3) v34 (.bool true)) ω16 fun ω35 =>
  k (emb5 p_0 within_3 t19 t20 (w64 (t21 + 1))) ω35) ∧
  (load1 (.int .i64) a20 ω16 fun (ξ36 : Int) =>
  load1 (.int .i64) a18 ω16 fun (ξ37 : Int) =>
  buildK PP T__4_int [(0, vI ξ21), (1, vI ξ37), (2, vI ξ31), (3, vI ξ36)] fun (v38 : Value) =>
  sem0 PP (Instr.mapUpdate T_M_4_int_bool (.map within_3) v38 (.bool true)) ω16 fun ω39 =>
  k (emb5 p_0 within_3 t19 t20 (w64 (t21 + 1))) ω39)) ∧
  (load1 (.int .i64) a20 ω16 fun (ξ40 : Int) =>
  (load1 (.int .i64) a18 ω16 fun (ξ41 : Int) =>
  load1 (.int .i64) a19 ω16 fun (ξ42 : Int) =>
  buildK PP T__4_int [(0, vI ξ21), (1, vI ξ41), (2, vI ξ42), (3, vI ξ40)] fun (v43 : Value) =>
  sem0 PP (Instr.mapUpdate T_M_4_int_bool (.map within_3) v43 (.bool true)) ω16 fun ω44 =>
  k (emb5 p_0 within_3 t19 t20 (w64 (t21 + 1))) ω44) ∧
  (load1 (.int .i64) a19 ω16 fun (ξ45 : Int) =>
  load1 (.int .i64) a18 ω16 fun (ξ46 : Int) =>
  buildK PP T__4_int [(0, vI ξ21), (1, vI ξ46), (2, vI ξ45), (3, vI ξ40)] fun (v47 : Value) =>
  sem0 PP (Instr.mapUpdate T_M_4_int_bool (.map within_3) v47 (.bool true)) ω16 fun ω48 =>
  k (emb5 p_0 within_3 t19 t20 (w64 (t21 + 1))) ω48))) ∧
  (load1 (.int .i64) a18 ω16 fun (ξ49 : Int) =>
  (load1 (.int .i64) a17 ω16 fun (ξ50 : Int) =>
  (load1 (.int .i64) a19 ω16 fun (ξ51 : Int) =>
  load1 (.int .i64) a20 ω16 fun (ξ52 : Int) =>
  buildK PP T__4_int [(0, vI ξ50), (1, vI ξ49), (2, vI ξ51), (3, vI ξ52)] fun (v53 : Value) =>
  sem0 PP (Instr.mapUpdate T_M_4_int_bool (.map within_3) v53 (.bool true)) ω16 fun ω54 =>
  k (emb5 p_0 within_3 t19 t20 (w64 (t21 + 1))) ω54) ∧
  (load1 (.int .i64) a20 ω16 fun (ξ55 : Int) =>
  load1 (.int .i64) a19 ω16 fun (ξ56 : Int) =>
  buildK PP T__4_int [(0, vI ξ50), (1, vI ξ49), (2, vI ξ56), (3, vI ξ55)] fun (v57 : Value) =>
  sem0 PP (Instr.mapUpdate T_M_4_int_bool (.map within_3) v57 (.bool true)) ω16 fun ω58 =>
  k (emb5 p_0 within_3 t19 t20 (w64 (t21 + 1))) ω58)) ∧
  (load1 (.int .i64) a19 ω16 fun (ξ59 : Int) =>
  (load1 (.int .i64) a17 ω16 fun (ξ60 : Int) =>
  load1 (.int .i64) a20 ω16 fun (ξ61 : Int) =>
  buildK PP T__4_int [(0, vI ξ60), (1, vI ξ49), (2, vI ξ59), (3, vI ξ61)] fun (v62 : Value) =>
  sem0 PP (Instr.mapUpdate T_M_4_int_bool (.map within_3) v62 (.bool true)) ω16 fun ω63 =>
  k (emb5 p_0 within_3 t19 t20 (w64 (t21 + 1))) ω63) ∧
  (load1 (.int .i64) a20 ω16 fun (ξ64 : Int) =>
  load1 (.int .i64) a17 ω16 fun (ξ65 : Int) =>
  buildK PP T__4_int [(0, vI ξ65), (1, vI ξ49), (2, vI ξ59), (3, vI ξ64)] fun (v66 : Value) =>
  sem0 PP (Instr.mapUpdate T_M_4_int_bool (.map within_3) v66 (.bool true)) ω16 fun ω67 =>
  k (emb5 p_0 within_3 t19 t20 (w64 (t21 + 1))) ω67)) ∧
  (load1 (.int .i64) a20 ω16 fun (ξ68 : Int) =>
  (load1 (.int .i64) a17 ω16 fun (ξ69 : Int) =>
  load1 (.int .i64) a19 ω16 fun (ξ70 : Int) =>
  buildK PP T__4_int [(0, vI ξ69), (1, vI ξ49), (2, vI ξ70), (3, vI ξ68)] fun (v71 : Value) =>
  sem0 PP (Instr.mapUpdate T_M_4_int_bool (.map within_3) v71 (.bool true)) ω16 fun ω72 =>
  k (emb5 p_0 within_3 t19 t20 (w64 (t21 + 1))) ω72) ∧
  (load1 (.int .i64) a19 ω16 fun (ξ73 : Int) =>
  load1 (.int .i64) a17 ω16 fun (ξ74 : Int) =>
  buildK PP T__4_int [(0, vI ξ74), (1, vI ξ49), (2, vI ξ73), (3, vI ξ68)] fun (v75 : Value) =>
  sem0 PP (Instr.mapUpdate T_M_4_int_bool (.map within_3) v75 (.bool true)) ω16 fun ω76 =>
  k (emb5 p_0 within_3 t19 t20 (w64 (t21 + 1))) ω76))) ∧
  (load1 (.int .i64) a19 ω16 fun (ξ77 : Int) =>
  (load1 (.int .i64) a17 ω16 fun (ξ78 : Int) =>
  (load1 (.int .i64) a18 ω16 fun (ξ79 : Int) =>
  load1 (.int .i64) a20 ω16 fun (ξ80 : Int) =>
  buildK PP T__4_int [(0, vI ξ78), (1, vI ξ79), (2, vI ξ77), (3, vI ξ80)] fun (v81 : Value) =>
  sem0 PP (Instr.mapUpdate T_M_4_int_bool (.map within_3) v81 (.bool true)) ω16 fun ω82 =>
  k (emb5 p_0 within_3 t19 t20 (w64 (t21 + 1))) ω82) ∧
  (load1 (.int .i64) a20 ω16 fun (ξ83 : Int) =>
  load1 (.int .i64) a18 ω16 fun (ξ84 : Int) =>
  buildK PP T__4_int [(0, vI ξ78), (1, vI ξ84), (2, vI ξ77), (3, vI ξ83)] fun (v85 : Value) =>
  sem0 PP (Instr.mapUpdate T_M_4_int_bool (.map within_3) v85 (.bool true)) ω16 fun ω86 =>
  k (emb5 p_0 within_3 t19 t20 (w64 (t21 + 1))) ω86)) ∧
  (load1 (.int .i64) a18 ω16 fun (ξ87 : Int) =>
  (load1 (.int .i64) a17 ω16 fun (ξ88 : Int) =>
  load1 (.int .i64) a20 ω16 fun (ξ89 : Int) =>
  buildK PP T__4_int [(0, vI ξ88), (1, vI ξ87), (2, vI ξ77), (3, vI ξ89)] fun (v90 : Value) =>
  sem0 PP (Instr.mapUpdate T_M_4_int_bool (.map within_3) v90 (.bool true)) ω16 fun ω91 =>
  k (emb5 p_0 within_3 t19 t20 (w64 (t21 + 1))) ω91) ∧
  (load1 (.int .i64) a20 ω16 fun (ξ92 : Int) =>
  load1 (.int .i64) a17 ω16 fun (ξ93 : Int) =>
  buildK PP T__4_int [(0, vI ξ93), (1, vI ξ87), (2, vI ξ77), (3, vI ξ92)] fun (v94 : Value) =>
  sem0 PP (Instr.mapUpdate T_M_4_int_bool (.map within_3) v94 (.bool true)) ω16 fun ω95 =>
  k (emb5 p_0 within_3 t19 t20 (w64 (t21 + 1))) ω95)) ∧
  (load1 (.int .i64) a20 ω16 fun (ξ96 : Int) =>
  (load1 (.int .i64) a17 ω16 fun (ξ97 : Int) =>
  load1 (.int .i64) a18 ω16 fun (ξ98 : Int) =>
  buildK PP T__4_int [(0, vI ξ97), (1, vI ξ98), (2, vI ξ77), (3, vI ξ96)] fun (v99 : Value) =>
  sem0 PP (Instr.mapUpdate T_M_4_int_bool (.map within_3) v99 (.bool true)) ω16 fun ω100 =>
  k (emb5 p_0 within_3 t19 t20 (w64 (t21 + 1))) ω100) ∧
  (load1 (.int .i64) a18 ω16 fun (ξ101 : Int) =>
  load1 (.int .i64) a17 ω16 fun (ξ102 : Int) =>
  buildK PP T__4_int [(0, vI ξ102), (1, vI ξ101), (2, vI ξ77), (3, vI ξ96)] fun (v103 : Value) =>
  sem0 PP (Instr.mapUpdate T_M_4_int_bool (.map within_3) v103 (.bool true)) ω16 fun ω104 =>
  k (emb5 p_0 within_3 t19 t20 (w64 (t21 + 1))) ω104))) ∧
  (load1 (.int .i64) a20 ω16 fun (ξ105 : Int) =>
  (load1 (.int .i64) a17 ω16 fun (ξ106 : Int) =>
  (load1 (.int .i64) a18 ω16 fun (ξ107 : Int) =>
  load1 (.int .i64) a19 ω16 fun (ξ108 : Int) =>
  buildK PP T__4_int [(0, vI ξ106), (1, vI ξ107), (2, vI ξ108), (3, vI ξ105)] fun (v109 : Value) =>
  sem0 PP (Instr.mapUpdate T_M_4_int_bool (.map within_3) v109 (.bool true)) ω16 fun ω110 =>
  k (emb5 p_0 within_3 t19 t20 (w64 (t21 + 1))) ω110) ∧
  (load1 (.int .i64) a19 ω16 fun (ξ111 : Int) =>
  load1 (.int .i64) a18 ω16 fun (ξ112 : Int) =>
  buildK PP T__4_int [(0, vI ξ106), (1, vI ξ112), (2, vI ξ111), (3, vI ξ105)] fun (v113 : Value) =>
  sem0 PP (Instr.mapUpdate T_M_4_int_bool (.map within_3) v113 (.bool true)) ω16 fun ω114 =>
  k (emb5 p_0 within_3 t19 t20 (w64 (t21 + 1))) ω114)) ∧
  (load1 (.int .i64) a18 ω16 fun (ξ115 : Int) =>
  (load1 (.int .i64) a17 ω16 fun (ξ116 : Int) =>
  load1 (.int .i64) a19 ω16 fun (ξ117 : Int) =>
  buildK PP T__4_int [(0, vI ξ116), (1, vI ξ115), (2, vI ξ117), (3, vI ξ105)] fun (v118 : Value) =>
  sem0 PP (Instr.mapUpdate T_M_4_int_bool (.map within_3) v118 (.bool true)) ω16 fun ω119 =>
  k (emb5 p_0 within_3 t19 t20 (w64 (t21 + 1))) ω119) ∧
  (load1 (.int .i64) a19 ω16 fun (ξ120 : Int) =>
  load1 (.int .i64) a17 ω16 fun (ξ121 : Int) =>
  buildK PP T__4_int [(0, vI ξ121), (1, vI ξ115), (2, vI ξ120), (3, vI ξ105)] fun (v122 : Value) =>
  sem0 PP (Instr.mapUpdate T_M_4_int_bool (.map within_3) v122 (.bool true)) ω16 fun ω123 =>
  k (emb5 p_0 within_3 t19 t20 (w64 (t21 + 1))) ω123)) ∧
  (load1 (.int .i64) a19 ω16 fun (ξ124 : Int) =>
  (load1 (.int .i64) a17 ω16 fun (ξ125 : Int) =>
  load1 (.int .i64) a18 ω16 fun (ξ126 : Int) =>
  buildK PP T__4_int [(0, vI ξ125), (1, vI ξ126), (2, vI ξ124), (3, vI ξ105)] fun (v127 : Value) =>
  sem0 PP (Instr.mapUpdate T_M_4_int_bool (.map within_3) v127 (.bool true)) ω16 fun ω128 =>
  k (emb5 p_0 within_3 t19 t20 (w64 (t21 + 1))) ω128) ∧
  (load1 (.int .i64) a18 ω16 fun (ξ129 : Int) =>
  load1 (.int .i64) a17 ω16 fun (ξ130 : Int) =>
  buildK PP T__4_int [(0, vI ξ130), (1, vI ξ129), (2, vI ξ124), (3, vI ξ105)] fun (v131 : Value) =>
  sem0 PP (Instr.mapUpdate T_M_4_int_bool (.map within_3) v131 (.bool true)) ω16 fun ω132 =>
  k (emb5 p_0 within_3 t19 t20 (w64 (t21 + 1))) ω132))))
  else (
  Q (.exit 0) (x0 p_0 within_3) w)) := B5_eq std p_0 within_3 t19 t20 t21 w k Q
theorem L5_rule (p_0 : Sl) (within_3 : (Option Nat)) (t19 : Sl) (t20 : Int) (t21 : Int) (w : World) (Q : Exit → Env → World → Prop) (I : Int → World → Prop) (μ : Int → World → Nat) (h0 : I t21 w)
    (h : ∀ (t21 : Int) (w' : World), I t21 w' → B5 std p_0 within_3 t19 t20 t21 w' (fun e2 w2 => ∃ t21_n, e2 = emb5 p_0 within_3 t19 t20 t21_n ∧ I t21_n w2 ∧ μ t21_n w2 < μ t21 w') Q) :
    L5 std p_0 within_3 t19 t20 t21 w Q := by
  unfold L5
  refine LoopE.intro (σ := Int) (step := S5 std Q) (fun s => emb5 p_0 within_3 t19 t20 s) (fun s w => I s w) (fun s w => μ s w) t21 rfl h0 ?_
  intro s w' hI
  have h1 := h s w' hI
  unfold B5 at h1
  exact h1
theorem J13_gen (pr : Prims) (within_3 : (Option Nat)) (t42 : Sl) (t43 : Int) (t44 : Int) (t63 : Bool) (w : World) (k : Env → World → Prop) (Q : Exit → Env → World → Prop) : wpC pr PP cfg (DD pr) (sub (codeOf Try.f25) [1, 1, 1, 1, 0, 1, 0, 0, 1, 1, 0, 0, 1, 1]) (q140 pr k Q) (j13 within_3 t42 t43 t44 t63) w = (
  bif t63 then (
  Q .ret [(2, .bool false)] w)
  else (
  k (emb10 within_3 t42 t43 (w64 (t44 + 1))) w)) := by kernel_rfl
theorem J13_s (within_3 : (Option Nat)) (t42 : Sl) (t43 : Int) (t44 : Int) (t63 : Bool) (w : World) (k : Env → World → Prop) (Q : Exit → Env → World → Prop) : J13 std within_3 t42 t43 t44 t63 w k Q = (
  bif t63 then (
  Q .ret [(2, .bool false)] w)
  else (
  k (emb10 within_3 t42 t43 (w64 (t44 + 1))) w)) := J13_gen std within_3 t42 t43 t44 t63 w k Q
theorem B10_eq (pr : Prims) (within_3 : (Option Nat)) (t42 : Sl) (t43 : Int) (t44 : Int) (w : World) (k : Env → World → Prop) (Q : Exit → Env → World → Prop) : B10 pr within_3 t42 t43 t44 w k Q = (
  bif decide (t44 < t43) then (
  pr.idxK 1 t42 t44 fun (a141 : Addr) =>
  pr.load1 .sl a141 w fun (ξ142 : Sl) =>
  pr.drewAll w fun ω144 =>
  pr.idxK 1 ξ142 0 fun (a145 : Addr) =>
  pr.idxK 1 ξ142 1 fun (a146 : Addr) =>
  pr.idxK 1 ξ142 2 fun (a147 : Addr) =>
  pr.idxK 1 ξ142 3 fun (a148 : Addr) =>
  (pr.load1 (.int .i64) a145 ω144 fun (ξ149 : Int) =>
  (pr.load1 (.int .i64) a146 ω144 fun (ξ150 : Int) =>
  (pr.load1 (.int .i64) a147 ω144 fun (ξ151 : Int) =>
  pr.load1 (.int .i64) a148 ω144 fun (ξ152 : Int) =>
  pr.buildK PP T__4_int [(0, vI ξ149), (1, vI ξ150), (2, vI ξ151), (3, vI ξ152)] fun (v153 : Value) =>
  pr.sem1 .bool PP (Instr.lookup T_M_4_int_bool (.map within_3) v153 false) ω144 fun (ρ154 : Bool) ω155 =>
  J13 pr within_3 t42 t43 t44 (!ρ154) ω155 k Q) ∧
  (pr.load1 (.int .i64) a148 ω144 fun (ξ156 : Int) =>
  pr.load1 (.int .i64) a147 ω144 fun (ξ157 : Int) =>
  pr.buildK PP T__4_int [(0, vI ξ149), (1, vI ξ150), (2, vI ξ157), (3, vI ξ156)] fun (v158 : Value) =>
  pr.sem1 .bool PP (Instr.lookup T_M_4_int_bool (.map within_3) v158 false) ω144 fun (ρ159 : Bool) ω160 =>
  J13 pr within_3 t42 t43 t44 (!ρ159) ω160 k Q)) ∧
  (pr.load1 (.int .i64) a147 ω144 fun (ξ161 : Int) =>
  (pr.load1 (.int .i64) a146 ω144 fun (ξ162 : Int) =>
  pr.load1 (.int .i64) a148 ω144 fun (ξ163 : Int) =>
  pr.buildK PP T__4_int [(0, vI ξ149), (1, vI ξ162), (2, vI ξ161), (3, vI ξ163)] fun (v164 : Value) =>
  pr.sem1 .bool PP (Instr.lookup T_M_4_int_bool (.map within_3) v164 false) ω144 fun (ρ165 : Bool) ω166 =>
  J13 pr within_3 t42 t43 t44 (!ρ165) ω166 k Q) ∧
  (pr.load1 (.int .i64) a148 ω144 fun (ξ167 : Int) =>
  pr.load1 (.int .i64) a146 ω144 fun (ξ168 : Int) =>
  pr.buildK PP T__4_int [(0, vI ξ149), (1, vI ξ168), (2, vI ξ161), (3, vI ξ167)] fun (v169 : Value) =>
  pr.sem1 .bool PP (Instr.lookup T_M_4_int_bool (.map within_3) v169 false) ω144 fun (ρ170 : Bool) ω171 =>
  J13 pr within_3 t42 t43 t44 (!ρ170) ω171 k Q)) ∧
  (pr.load1 (.int .i64) a148 ω144 fun (ξ172 : Int) =>
  (pr.load1 (.int .i64) a146 ω144 fun (ξ173 : Int) =>
  pr.load1 (.int .i64) a147 ω144 fun (ξ174 : Int) =>
  pr.buildK PP T__4_int [(0, vI ξ149), (1, vI ξ173), (2, vI ξ174), (3, vI ξ172)] fun (v175 : Value) =>
  pr.sem1 .bool PP (Instr.lookup T_M_4_int_bool (.map within_3) v175 false) ω144 fun (ρ176 : Bool) ω177 =>
  J13 pr within_3 t42 t43 t44 (!ρ176) ω177 k Q) ∧
  (pr.load1 (.int .i64) a147 ω144 fun (ξ178 : Int) =>
  pr.load1 (.int .i64) a146 ω144 fun (ξ179 : Int) =>
  pr.buildK PP T__4_int [(0, vI ξ149), (1, vI ξ179), (2, vI ξ178), (3, vI ξ172)] fun (v180 : Value) =>
  pr.sem1 .bool PP (Instr.lookup T_M_4_int_bool (.map within_3) v180 false) ω144 fun (ρ181 : Bool) ω182 =>
  J13 pr within_3 t42 t43 t44 (!ρ181) ω182 k Q))) ∧
  (pr.load1 (.int .i64) a146 ω144 fun (ξ183 : Int) =>
  (pr.load1 (.int .i64) a145 ω144 fun (ξ184 : Int) =>
  (pr.load1 (.int .i64) a147 ω144 fun (ξ185 : Int) =>
  pr.load1 (.int .i64) a148 ω144 fun (ξ186 : Int) =>
  pr.buildK PP T__4_int [(0, vI ξ184), (1, vI ξ183), (2, vI ξ185), (3, vI ξ186)] fun (v187 : Value) =>
  pr.sem1 .bool PP (Instr.lookup T_M_4_int_bool (.map within_3) v187 false) ω144 fun (ρ188 : Bool) ω189 =>
  J13 pr within_3 t42 t43 t44 (!ρ188) ω189 k Q) ∧
  (pr.load1 (.int .i64) a148 ω144 fun (ξ190 : Int) =>
  pr.load1 (.int .i64) a147 ω144 fun (ξ191 : Int) =>
  pr.buildK PP T__4_int [(0, vI ξ184), (1, vI ξ183), (2, vI ξ191), (3, vI ξ190)] fun (v192 : Value) =>
  pr.sem1 .bool PP (Instr.lookup T_M_4_int_bool (.map within_3) v192 false) ω144 fun (ρ193 : Bool) ω194 =>
  J13 pr within_3 t42 t43 t44 (!ρ193) ω194 k Q)) ∧
  (pr.load1 (.int .i64) a147 ω144 fun (ξ195 : Int) =>
  (pr.load1 (.int .i64) a145 ω144 fun (ξ196 : Int) =>
  pr.load1 (.int .i64) a148 ω144 fun (ξ197 : Int) =>
  pr.buildK PP T__4_int [(0, vI ξ196), (1, vI ξ183), (2, vI ξ195), (3, vI ξ197)] fun (v198 : Value) =>
  pr.sem1 .bool PP (Instr.lookup T_M_4_int_bool (.map within_3) v198 false) ω144 fun (ρ199 : Bool) ω200 =>
  J13 pr within_3 t42 t43 t44 (!ρ199) ω200 k Q) ∧
  (pr.load1 (.int .i64) a148 ω144 fun (ξ201 : Int) =>
  pr.load1 (.int .i64) a145 ω144 fun (ξ202 : Int) =>
  pr.buildK PP T__4_int [(0, vI ξ202), (1, vI ξ183), (2, vI ξ195), (3, vI ξ201)] fun (v203 : Value) =>
  pr.sem1 .bool PP (Instr.lookup T_M_4_int_bool (.map within_3) v203 false) ω144 fun (ρ204 : Bool) ω205 =>
  J13 pr within_3 t42 t43 t44 (!ρ204) ω205 k Q)) ∧
  (pr.load1 (.int .i64) a148 ω144 fun (ξ206 : Int) =>
  (pr.load1 (.int .i64) a145 ω144 fun (ξ207 : Int) =>
  pr.load1 (.int .i64) a147 ω144 fun (ξ208 : Int) =>
  pr.buildK PP T__4_int [(0, vI ξ207), (1, vI ξ183), (2, vI ξ208), (3, vI ξ206)] fun (v209 : Value) =>
  pr.sem1 .bool PP (Instr.lookup T_M_4_int_bool (.map within_3) v209 false) ω144 fun (ρ210 : Bool) ω211 =>
  J13 pr within_3 t42 t43 t44 (!ρ210) ω211 k Q) ∧
  (pr.load1 (.int .i64) a147 ω144 fun (ξ212 : Int) =>
  pr.load1 (.int .i64) a145 ω144 fun (ξ213 : Int) =>
  pr.buildK PP T__4_int [(0, vI ξ213), (1, vI ξ183), (2, vI ξ212), (3, vI ξ206)] fun (v214 : Value) =>
  pr.sem1 .bool PP (Instr.lookup T_M_4_int_bool (.map within_3) v214 false) ω144 fun (ρ215 : Bool) ω216 =>
  J13 pr within_3 t42 t43 t44 (!ρ215) ω216 k Q))) ∧
  (pr.load1 (.int .i64) a147 ω144 fun (ξ217 : Int) =>
  (pr.load1 (.int .i64) a145 ω144 fun (ξ218 : Int) =>
  (pr.load1 (.int .i64) a146 ω144 fun (ξ219 : Int) =>
  pr.load1 (.int .i64) a148 ω144 fun (ξ220 : Int) =>
  pr.buildK PP T__4_int [(0, vI ξ218), (1, vI ξ219), (2, vI ξ217), (3, vI ξ220)] fun (v221 : Value) =>
  pr.sem1 .bool PP (Instr.lookup T_M_4_int_bool (.map within_3) v221 false) ω144 fun (ρ222 : Bool) ω223 =>
  J13 pr within_3 t42 t43 t44 (!ρ222) ω223 k Q) ∧
  (pr.load1 (.int .i64) a148 ω144 fun (ξ224 : Int) =>
  pr.load1 (.int .i64) a146 ω144 fun (ξ225 : Int) =>
  pr.buildK PP T__4_int [(0, vI ξ218), (1, vI ξ225), (2, vI ξ217), (3, vI ξ224)] fun (v226 : Value) =>
  pr.sem1 .bool PP (Instr.lookup T_M_4_int_bool (.map within_3) v226 false) ω144 fun (ρ227 : Bool) ω228 =>
  J13 pr within_3 t42 t43 t44 (!ρ227) ω228 k Q)) ∧
  (pr.load1 (.int .i64) a146 ω144 fun (ξ229 : Int) =>
  (pr.load1 (.int .i64) a145 ω144 fun (ξ230 : Int) =>
  pr.load1 (.int .i64) a148 ω144 fun (ξ231 : Int) =>
  pr.buildK PP T__4_int [(0, vI ξ230), (1, vI ξ229), (2, vI ξ217), (3, vI ξ231)] fun (v232 : Value) =>
  pr.sem1 .bool PP (Instr.lookup T_M_4_int_bool (.map within_3) v232 false) ω144 fun (ρ233 : Bool) ω234 =>
  J13 pr within_3 t42 t43 t44 (!ρ233) ω234 k Q) ∧
  (pr.load1 (.int .i64) a148 ω144 fun (ξ235 : Int) =>
  pr.load1 (.int .i64) a145 ω144 fun (ξ236 : Int) =>
  pr.buildK PP T__4_int [(0, vI ξ236), (1, vI ξ229), (2, vI ξ217), (3, vI ξ235)] fun (v237 : Value) =>
  pr.sem1 .bool PP (Instr.lookup T_M_4_int_bool (.map within_3) v237 false) ω144 fun (ρ238 : Bool) ω239 =>
  J13 pr within_3 t42 t43 t44 (!ρ238) ω239 k Q)) ∧
  (pr.load1 (.int .i64) a148 ω144 fun (ξ240 : Int) =>
  (pr.load1 (.int .i64) a145 ω144 fun (ξ241 : Int) =>
  pr.load1 (.int .i64) a146 ω144 fun (ξ242 : Int) =>
  pr.buildK PP T__4_int [(0, vI ξ241), (1, vI ξ242), (2, vI ξ217), (3, vI ξ240)] fun (v243 : Value) =>
  pr.sem1 .bool PP (Instr.lookup T_M_4_int_bool (.map within_3) v243 false) ω144 fun (ρ244 : Bool) ω245 =>
  J13 pr within_3 t42 t43 t44 (!ρ244) ω245 k Q) ∧
  (pr.load1 (.int .i64) a146 ω144 fun (ξ246 : Int) =>
  pr.load1 (.int .i64) a145 ω144 fun (ξ247 : Int) =>
  pr.buildK PP T__4_int [(0, vI ξ247), (1, vI ξ246), (2, vI ξ217), (3, vI ξ240)] fun (v248 : Value) =>
  pr.sem1 .bool PP (Instr.lookup T_M_4_int_bool (.map within_3) v248 false) ω144 fun (ρ249 : Bool) ω250 =>
  J13 pr within_3 t42 t43 t44 (!ρ249) ω250 k Q))) ∧
  (pr.load1 (.int .i64) a148 ω144 fun (ξ251 : Int) =>
  (pr.load1 (.int .i64) a145 ω144 fun (ξ252 : Int) =>
  (pr.load1 (.int .i64) a146 ω144 fun (ξ253 : Int) =>
  pr.load1 (.int .i64) a147 ω144 fun (ξ254 : Int) =>
  pr.buildK PP T__4_int [(0, vI ξ252), (1, vI ξ253), (2, vI ξ254), (3, vI ξ251)] fun (v255 : Value) =>
  pr.sem1 .bool PP (Instr.lookup T_M_4_int_bool (.map within_3) v255 false) ω144 fun (ρ256 : Bool) ω257 =>
  J13 pr within_3 t42 t43 t44 (!ρ256) ω257 k Q) ∧
  (pr.load1 (.int .i64) a147 ω144 fun (ξ258 : Int) =>
  pr.load1 (.int .i64) a146 ω144 fun (ξ259 : Int) =>
  pr.buildK PP T__4_int [(0, vI ξ252), (1, vI ξ259), (2, vI ξ258), (3, vI ξ251)] fun (v260 : Value) =>
  pr.sem1 .bool PP (Instr.lookup T_M_4_int_bool (.map within_3) v260 false) ω144 fun (ρ261 : Bool) ω262 =>
  J13 pr within_3 t42 t43 t44 (!ρ261) ω262 k Q)) ∧
  (pr.load1 (.int .i64) a146 ω144 fun (ξ263 : Int) =>
  (pr.load1 (.int .i64) a145 ω144 fun (ξ264 : Int) =>
  pr.load1 (.int .i64) a147 ω144 fun (ξ265 : Int) =>
  pr.buildK PP T__4_int [(0, vI ξ264), (1, vI ξ263), (2, vI ξ265), (3, vI ξ251)] fun (v266 : Value) =>
  pr.sem1 .bool PP (Instr.lookup T_M_4_int_bool (.map within_3) v266 false) ω144 fun (ρ267 : Bool) ω268 =>
  J13 pr within_3 t42 t43 t44 (!ρ267) ω268 k Q) ∧
  (pr.load1 (.int .i64) a147 ω144 fun (ξ269 : Int) =>
  pr.load1 (.int .i64) a145 ω144 fun (ξ270 : Int) =>
  pr.buildK PP T__4_int [(0, vI ξ270), (1, vI ξ263), (2, vI ξ269), (3, vI ξ251)] fun (v271 : Value) =>
  pr.sem1 .bool PP (Instr.lookup T_M_4_int_bool (.map within_3) v271 false) ω144 fun (ρ272 : Bool) ω273 =>
  J13 pr within_3 t42 t43 t44 (!ρ272) ω273 k Q)) ∧
  (pr.load1 (.int .i64) a147 ω144 fun (ξ274 : Int) =>
  (pr.load1 (.int .i64) a145 ω144 fun (ξ275 : Int) =>
  pr.load1 (.int .i64) a146 ω144 fun (ξ276 : Int) =>
  pr.buildK PP T__4_int [(0, vI ξ275), (1, vI ξ276), (2, vI ξ274), (3, vI ξ251)] fun (v277 : Value) =>
  pr.sem1 .bool PP (Instr.lookup T_M_4_int_bool (.map within_3) v277 false) ω144 fun (ρ278 : Bool) ω279 =>
  J13 pr within_3 t42 t43 t44 (!ρ278) ω279 k Q) ∧
  (pr.load1 (.int .i64) a146 ω144 fun (ξ280 : Int) =>
  pr.load1 (.int .i64) a145 ω144 fun (ξ281 : Int) =>
  pr.buildK PP T__4_int [(0, vI ξ281), (1, vI ξ280), (2, vI ξ274), (3, vI ξ251)] fun (v282 : Value) =>
  pr.sem1 .bool PP (Instr.lookup T_M_4_int_bool (.map within_3) v282 false) ω144 fun (ρ283 : Bool) ω284 =>
  J13 pr within_3 t42 t43 t44 (!ρ283) ω284 k Q))))
  else (
  Q (.exit 2) (x2) w)) := by kernel_rfl
theorem B10_s (within_3 : (Option Nat)) (t42 : Sl) (t43 : Int) (t44 : Int) (w : World) (k : Env → World → Prop) (Q : Exit → Env → World → Prop) : B10 std within_3 t42 t43 t44 w k Q = (
  bif decide (t44 < t43) then (
  idxK 1 t42 t44 fun (a141 : Addr) =>
  load1 .sl a141 w fun (ξ142 : Sl) =>
  drewAll w fun ω144 =>
  idxK 1 ξ142 0 fun (a145 : Addr) =>
  idxK 1 ξ142 1 fun (a146 : Addr) =>
  idxK 1 ξ142 2 fun (a147 : Addr) =>
  idxK 1 ξ142 3 fun (a148 : Addr) =>
  (load1 (.int .i64) a145 ω144 fun (ξ149 : Int) =>
  (load1 (.int .i64) a146 ω144 fun (ξ150 : Int) =>
  (load1 (.int .i64) a147 ω144 fun (ξ151 : Int) =>
  load1 (.int .i64) a148 ω144 fun (ξ152 : Int) =>
  buildK PP T__4_int [(0, vI ξ149), (1, vI ξ150), (2, vI ξ151), (3, vI ξ152)] fun (v153 : Value) =>
  sem1 .bool PP (Instr.lookup T_M_4_int_bool (.map within_3) v153 false) ω144 fun (ρ154 : Bool) ω155 =>
  J13 std within_3 t42 t43 t44 (!ρ154) ω155 k Q) ∧
  (load1 (.int .i64) a148 ω144 fun (ξ156 : Int) =>
  load1 (.int .i64) a147 ω144 fun (ξ157 : Int) =>
  buildK PP T__4_int [(0, vI ξ149), (1, vI ξ150), (2, vI ξ157), (3, vI ξ156)] fun (v158 : Value) =>
  sem1 .bool PP (Instr.lookup T_M_4_int_bool (.map within_3) v158 false) ω144 fun (ρ159 : Bool) ω160 =>
  J13 std within_3 t42 t43 t44 (!ρ159) ω160 k Q)) ∧
  (load1 (.int .i64) a147 ω144 fun (ξ161 : Int) =>
  (load1 (.int .i64) a146 ω144 fun (ξ162 : Int) =>
  load1 (.int .i64) a148 ω144 fun (ξ163 : Int) =>
  buildK PP T__4_int [(0, vI ξ149), (1, vI ξ162), (2, vI ξ161), (3, vI ξ163)] fun (v164 : Value) =>
  sem1 .bool PP (Instr.lookup T_M_4_int_bool (.map within_3) v164 false) ω144 fun (ρ165 : Bool) ω166 =>
  J13 std within_3 t42 t43 t44 (!ρ165) ω166 k Q) ∧
  (load1 (.int .i64) a148 ω144 fun (ξ167 : Int) =>
  load1 (.int .i64) a146 ω144 fun (ξ168 : Int) =>
  buildK PP T__4_int [(0, vI ξ149), (1, vI ξ168), (2, vI ξ161), (3, vI ξ167)] fun (v169 : Value) =>
  sem1 .bool PP (Instr.lookup T_M_4_int_bool (.map within_3) v169 false) ω144 fun (ρ170 : Bool) ω171 =>
  J13 std within_3 t42 t43 t44 (!ρ170) ω171 k Q)) ∧
  (load1 (.int .i64) a148 ω144 fun (ξ172 : Int) =>
  (load1 (.int .i64) a146 ω144 fun (ξ173 : Int) =>
  load1 (.int .i64) a147 ω144 fun (ξ174 : Int) =>
  buildK PP T__4_int [(0, vI ξ149), (1, vI ξ173), (2, vI ξ174), (3, vI ξ172)] fun (v175 : Value) =>
  sem1 .bool PP (Instr.lookup T_M_4_int_bool (.map within_3) v175 false) ω144 fun (ρ176 : Bool) ω177 =>
  J13 std within_3 t42 t43 t44 (!ρ176) ω177 k Q) ∧
  (load1 (.int .i64) a147 ω144 fun (ξ178 : Int) =>
  load1 (.int .i64) a146 ω144 fun (ξ179 : Int) =>
  buildK PP T__4_int [(0, vI ξ149), (1, vI ξ179), (2, vI ξ178), (3, vI ξ172)] fun (v180 : Value) =>
  sem1 .bool PP (Instr.lookup T_M_4_int_bool (.map within_3) v180 false) ω144 fun (ρ181 : Bool) ω182 =>
  J13 std within_3 t42 t43 t44 (!ρ181) ω182 k Q))) ∧
  (load1 (.int .i64) a146 ω144 fun (ξ183 : Int) =>
  (load1 (.int .i64) a145 ω144 fun (ξ184 : Int) =>
  (load1 (.int .i64) a147 ω144 fun (ξ185 : Int) =>
  load1 (.int .i64) a148 ω144 fun (ξ186 : Int) =>
  buildK PP T__4_int [(0, vI ξ184), (1, vI ξ183), (2, vI ξ185), (3, vI ξ186)] fun (v187 : Value) =>
  sem1 .bool PP (Instr.lookup T_M_4_int_bool (.map within_3) v187 false) ω144 fun (ρ188 : Bool) ω189 =>
  J13 std within_3 t42 t43 t44 (!ρ188) ω189 k Q) ∧
  (load1 (.int .i64) a148 ω144 fun (ξ190 : Int) =>
  load1 (.int .i64) a147 ω144 fun (ξ191 : Int) =>
  buildK PP T__4_int [(0, vI ξ184), (1, vI ξ183), (2, vI ξ191), (3, vI ξ190)] fun (v192 : Value) =>
  sem1 .bool PP (Instr.lookup T_M_4_int_bool (.map within_3) v192 false) ω144 fun (ρ193 : Bool) ω194 =>
  J13 std within_3 t42 t43 t44 (!ρ193) ω194 k Q)) ∧
  (load1 (.int .i64) a147 ω144 fun (ξ195 : Int) =>
  (load1 (.int .i64) a145 ω144 fun (ξ196 : Int) =>
  load1 (.int .i64) a148 ω144 fun (ξ197 : Int) =>
  buildK PP T__4_int [(0, vI ξ196), (1, vI ξ183), (2, vI ξ195), (3, vI ξ197)] fun (v198 : Value) =>
  sem1 .bool PP (Instr.lookup T_M_4_int_bool (.map within_3) v198 false) ω144 fun (ρ199 : Bool) ω200 =>
  J13 std within_3 t42 t43 t44 (!ρ199) ω200 k Q) ∧
  (load1 (.int .i64) a148 ω144 fun (ξ201 : Int) =>
  load1 (.int .i64) a145 ω144 fun (ξ202 : Int) =>
  buildK PP T__4_int [(0, vI ξ202), (1, vI ξ183), (2, vI ξ195), (3, vI ξ201)] fun (v203 : Value) =>
  sem1 .bool PP (Instr.lookup T_M_4_int_bool (.map within_3) v203 false) ω144 fun (ρ204 : Bool) ω205 =>
  J13 std within_3 t42 t43 t44 (!ρ204) ω205 k Q)) ∧
  (load1 (.int .i64) a148 ω144 fun (ξ206 : Int) =>
  (load1 (.int .i64) a145 ω144 fun (ξ207 : Int) =>
  load1 (.int .i64) a147 ω144 fun (ξ208 : Int) =>
  buildK PP T__4_int [(0, vI ξ207), (1, vI ξ183), (2, vI ξ208), (3, vI ξ206)] fun (v209 : Value) =>
  sem1 .bool PP (Instr.lookup T_M_4_int_bool (.map within_3) v209 false) ω144 fun (ρ210 : Bool) ω211 =>
  J13 std within_3 t42 t43 t44 (!ρ210) ω211 k Q) ∧
  (load1 (.int .i64) a147 ω144 fun (ξ212 : Int) =>
  load1 (.int .i64) a145 ω144 fun (ξ213 : Int) =>
  buildK PP T__4_int [(0, vI ξ213), (1, vI ξ183), (2, vI ξ212), (3, vI ξ206)] fun (v214 : Value) =>
  sem1 .bool PP (Instr.lookup T_M_4_int_bool (.map within_3) v214 false) ω144 fun (ρ215 : Bool) ω216 =>
  J13 std within_3 t42 t43 t44 (!ρ215) ω216 k Q))) ∧
  (load1 (.int .i64) a147 ω144 fun (ξ217 : Int) =>
  (load1 (.int .i64) a145 ω144 fun (ξ218 : Int) =>
  (load1 (.int .i64) a146 ω144 fun (ξ219 : Int) =>
  load1 (.int .i64) a148 ω144 fun (ξ220 : Int) =>
  buildK PP T__4_int [(0, vI ξ218), (1, vI ξ219), (2, vI ξ217), (3, vI ξ220)] fun (v221 : Value) =>
  sem1 .bool PP (Instr.lookup T_M_4_int_bool (.map within_3) v221 false) ω144 fun (ρ222 : Bool) ω223 =>
  J13 std within_3 t42 t43 t44 (!ρ222) ω223 k Q) ∧
  (load1 (.int .i64) a148 ω144 fun (ξ224 : Int) =>
  load1 (.int .i64) a146 ω144 fun (ξ225 : Int) =>
  buildK PP T__4_int [(0, vI ξ218), (1, vI ξ225), (2, vI ξ217), (3, vI ξ224)] fun (v226 : Value) =>
  sem1 .bool PP (Instr.lookup T_M_4_int_bool (.map within_3) v226 false) ω144 fun (ρ227 : Bool) ω228 =>
  J13 std within_3 t42 t43 t44 (!ρ227) ω228 k Q)) ∧
  (load1 (.int .i64) a146 ω144 fun (ξ229 : Int) =>
  (load1 (.int .i64) a145 ω144 fun (ξ230 : Int) =>
  load1 (.int .i64) a148 ω144 fun (ξ231 : Int) =>
  buildK PP T__4_int [(0, vI ξ230), (1, vI ξ229), (2, vI ξ217), (3, vI ξ231)] fun (v232 : Value) =>
  sem1 .bool PP (Instr.lookup T_M_4_int_bool (.map within_3) v232 false) ω144 fun (ρ233 : Bool) ω234 =>
  J13 std within_3 t42 t43 t44 (!ρ233) ω234 k Q) ∧
  (load1 (.int .i64) a148 ω144 fun (ξ235 : Int) =>
  load1 (.int .i64) a145 ω144 fun (ξ236 : Int) =>
  buildK PP T__4_int [(0, vI ξ236), (1, vI ξ229), (2, vI ξ217), (3, vI ξ235)] fun (v237 : Value) =>
  sem1 .bool PP (Instr.lookup T_M_4_int_bool (.map within_3) v237 false) ω144 fun (ρ238 : Bool) ω239 =>
  J13 std within_3 t42 t43 t44 (!ρ238) ω239 k Q)) ∧
  (load1 (.int .i64) a148 ω144 fun (ξ240 : Int) =>
  (load1 (.int .i64) a145 ω144 fun (ξ241 : Int) =>
  load1 (.int .i64) a146 ω144 fun (ξ242 : Int) =>
  buildK PP T__4_int [(0, vI ξ241), (1, vI ξ242), (2, vI ξ217), (3, vI ξ240)] fun (v243 : Value) =>
  sem1 .bool PP (Instr.lookup T_M_4_int_bool (.map within_3) v243 false) ω144 fun (ρ244 : Bool) ω245 =>
  J13 std within_3 t42 t43 t44 (!ρ244) ω245 k Q) ∧
  (load1 (.int .i64) a146 ω144 fun (ξ246 : Int) =>
  load1 (.int .i64) a145 ω144 fun (ξ247 : Int) =>
  buildK PP T__4_int [(0, vI ξ247), (1, vI ξ246), (2, vI ξ217), (3, vI ξ240)] fun (v248 : Value) =>
  sem1 .bool PP (Instr.lookup T_M_4_int_bool (.map within_3) v248 false) ω144 fun (ρ249 : Bool) ω250 =>
  J13 std within_3 t42 t43 t44 (!ρ249) ω250 k Q))) ∧
  (load1 (.int .i64) a148 ω144 fun (ξ251 : Int) =>
  (load1 (.int .i64) a145 ω144 fun (ξ252 : Int) =>
  (load1 (.int .i64) a146 ω144 fun (ξ253 : Int) =>
  load1 (.int .i64) a147 ω144 fun (ξ254 : Int) =>
  buildK PP T__4_int [(0, vI ξ252), (1, vI ξ253), (2, vI ξ254), (3, vI ξ251)] fun (v255 : Value) =>
  sem1 .bool PP (Instr.lookup T_M_4_int_bool (.map within_3) v255 false) ω144 fun (ρ256 : Bool) ω257 =>
  J13 std within_3 t42 t43 t44 (!ρ256) ω257 k Q) ∧
  (load1 (.int .i64) a147 ω144 fun (ξ258 : Int) =>
  load1 (.int .i64) a146 ω144 fun (ξ259 : Int) =>
  buildK PP T__4_int [(0, vI ξ252), (1, vI ξ259), (2, vI ξ258), (3, vI ξ251)] fun (v260 : Value) =>
  sem1 .bool PP (Instr.lookup T_M_4_int_bool (.map within_3) v260 false) ω144 fun (ρ261 : Bool) ω262 =>
  J13 std within_3 t42 t43 t44 (!ρ261) ω262 k Q)) ∧
  (load1 (.int .i64) a146 ω144 fun (ξ263 : Int) =>
  (load1 (.int .i64) a145 ω144 fun (ξ264 : Int) =>
  load1 (.int .i64) a147 ω144 fun (ξ265 : Int) =>
  buildK PP T__4_int [(0, vI ξ264), (1, vI ξ263), (2, vI ξ265), (3, vI ξ251)] fun (v266 : Value) =>
  sem1 .bool PP (Instr.lookup T_M_4_int_bool (.map within_3) v266 false) ω144 fun (ρ267 : Bool) ω268 =>
  J13 std within_3 t42 t43 t44 (!ρ267) ω268 k Q) ∧
  (load1 (.int .i64) a147 ω144 fun (ξ269 : Int) =>
  load1 (.int .i64) a145 ω144 fun (ξ270 : Int) =>
  buildK PP T__4_int [(0, vI ξ270), (1, vI ξ263), (2, vI ξ269), (3, vI ξ251)] fun (v271 : Value) =>
  sem1 .bool PP (Instr.lookup T_M_4_int_bool (.map within_3) v271 false) ω144 fun (ρ272 : Bool) ω273 =>
  J13 std within_3 t42 t43 t44 (!ρ272) ω273 k Q)) ∧
  (load1 (.int .i64) a147 ω144 fun (ξ274 : Int) =>
  (load1 (.int .i64) a145 ω144 fun (ξ275 : Int) =>
  load1 (.int .i64) a146 ω144 fun (ξ276 : Int) =>
  buildK PP T__4_int [(0, vI ξ275), (1, vI ξ276), (2, vI ξ274), (3, vI ξ251)] fun (v277 : Value) =>
  sem1 .bool PP (Instr.lookup T_M_4_int_bool (.map within_3) v277 false) ω144 fun (ρ278 : Bool) ω279 =>
  J13 std within_3 t42 t43 t44 (!ρ278) ω279 k Q) ∧
  (load1 (.int .i64) a146 ω144 fun (ξ280 : Int) =>
  load1 (.int .i64) a145 ω144 fun (ξ281 : Int) =>
  buildK PP T__4_int [(0, vI ξ281), (1, vI ξ280), (2, vI ξ274), (3, vI ξ251)] fun (v282 : Value) =>
  sem1 .bool PP (Instr.lookup T_M_4_int_bool (.map within_3) v282 false) ω144 fun (ρ283 : Bool) ω284 =>
  J13 std within_3 t42 t43 t44 (!ρ283) ω284 k Q))))
  else (
  Q (.exit 2) (x2) w)) := B10_eq std within_3 t42 t43 t44 w k Q
theorem L10_rule (within_3 : (Option Nat)) (t42 : Sl) (t43 : Int) (t44 : Int) (w : World) (Q : Exit → Env → World → Prop) (I : Int → World → Prop) (μ : Int → World → Nat) (h0 : I t44 w)
    (h : ∀ (t44 : Int) (w' : World), I t44 w' → B10 std within_3 t42 t43 t44 w' (fun e2 w2 => ∃ t44_n, e2 = emb10 within_3 t42 t43 t44_n ∧ I t44_n w2 ∧ μ t44_n w2 < μ t44 w') Q) :
    L10 std within_3 t42 t43 t44 w Q := by
  unfold L10
  refine LoopE.intro (σ := Int) (step := S10 std Q) (fun s => emb10 within_3 t42 t43 s) (fun s w => I s w) (fun s w => μ s w) t44 rfl h0 ?_
  intro s w' hI
  have h1 := h s w' hI
  unfold B10 at h1
  exact h1
theorem A10_2_eq (pr : Prims) (w : World) (R : Ending → World → Prop) : (q138 pr R) (.exit 2) (x2) w = (
  R (.returned (.bool true)) w) := by kernel_rfl
theorem A10_2_s (w : World) (R : Ending → World → Prop) : (q138 std R) (.exit 2) (x2) w = (
  R (.returned (.bool true)) w) := A10_2_eq std w R
theorem R10_eq (pr : Prims) (v2 : Value) (w : World) (R : Ending → World → Prop) : (q138 pr R) .ret [(2, v2)] w = (
  R (.returned (v2)) w) := by kernel_rfl
theorem R10_s (v2 : Value) (w : World) (R : Ending → World → Prop) : (q138 std R) .ret [(2, v2)] w = (
  R (.returned (v2)) w) := R10_eq std v2 w R
theorem A5_0_eq (pr : Prims) (p_0 : Sl) (within_3 : (Option Nat)) (w : World) (R : Ending → World → Prop) : (q13 pr R) (.exit 0) (x0 p_0 within_3) w = (
  pr.sem1 .sl PP (Instr.buildSlice T_Sint 4 #[(0, vI 3), (1, vI 2), (2, vI 4), (3, vI 1)]) w fun (ρ134 : Sl) ω135 =>
  pr.call1 .sl PP F.impl_occurrences #[Sl.v p_0, Sl.v ρ134] ω135 fun (ρ136 : Sl) ω137 =>
  L10 pr within_3 ρ136 (ρ136.n : Int) 0 ω137 (q138 pr R)) := by kernel_rfl
theorem A5_0_s (p_0 : Sl) (within_3 : (Option Nat)) (w : World) (R : Ending → World → Prop) : (q13 std R) (.exit 0) (x0 p_0 within_3) w = (
  sem1 .sl PP (Instr.buildSlice T_Sint 4 #[(0, vI 3), (1, vI 2), (2, vI 4), (3, vI 1)]) w fun (ρ134 : Sl) ω135 =>
  call1 .sl PP F.impl_occurrences #[Sl.v p_0, Sl.v ρ134] ω135 fun (ρ136 : Sl) ω137 =>
  L10 std within_3 ρ136 (ρ136.n : Int) 0 ω137 (q138 std R)) := A5_0_eq std p_0 within_3 w R
theorem E_eq (pr : Prims) (p_0 : Sl) (w : World) (R : Ending → World → Prop) : E pr p_0 w R = (
  pr.call1 .bool PP F.impl_IsPerm #[Sl.v p_0] w fun (ρ0 : Bool) ω1 =>
  bif !ρ0 then (
  R (.returned (.bool false)) ω1)
  else (
  pr.sem1 .sl PP (Instr.buildSlice T_Sint 4 #[(0, vI 2), (1, vI 3), (2, vI 4), (3, vI 1)]) ω1 fun (ρ2 : Sl) ω3 =>
  pr.call1 .bool PP F.impl_has #[Sl.v p_0, Sl.v ρ2, Sl.v Sl.nil] ω3 fun (ρ4 : Bool) ω5 =>
  bif ρ4 then (
  R (.returned (.bool false)) ω5)
  else (
  pr.sem1 .map PP (Instr.makeMap T_M_4_int_bool none) ω5 fun (ρ6 : (Option Nat)) ω7 =>
  pr.sem1 .sl PP (Instr.buildSlice T_Sint 5 #[(0, vI 3), (1, vI 5), (2, vI 2), (3, vI 4), (4, vI 1)]) ω7 fun (ρ9 : Sl) ω10 =>
  pr.call1 .sl PP F.impl_occurrences #[Sl.v p_0, Sl.v ρ9] ω10 fun (ρ11 : Sl) ω12 =>
  L5 pr p_0 ρ6 ρ11 (ρ11.n : Int) 0 ω12 (q13 pr R)))) := by kernel_rfl
theorem E_s (p_0 : Sl) (w : World) (R : Ending → World → Prop) : E std p_0 w R = (
  call1 .bool PP F.impl_IsPerm #[Sl.v p_0] w fun (ρ0 : Bool) ω1 =>
  bif !ρ0 then (
  R (.returned (.bool false)) ω1)
  else (
  sem1 .sl PP (Instr.buildSlice T_Sint 4 #[(0, vI 2), (1, vI 3), (2, vI 4), (3, vI 1)]) ω1 fun (ρ2 : Sl) ω3 =>
  call1 .bool PP F.impl_has #[Sl.v p_0, Sl.v ρ2, Sl.v Sl.nil] ω3 fun (ρ4 : Bool) ω5 =>
  bif ρ4 then (
  R (.returned (.bool false)) ω5)
  else (
  sem1 .map PP (Instr.makeMap T_M_4_int_bool none) ω5 fun (ρ6 : (Option Nat)) ω7 =>
  sem1 .sl PP (Instr.buildSlice T_Sint 5 #[(0, vI 3), (1, vI 5), (2, vI 2), (3, vI 4), (4, vI 1)]) ω7 fun (ρ9 : Sl) ω10 =>
  call1 .sl PP F.impl_occurrences #[Sl.v p_0, Sl.v ρ9] ω10 fun (ρ11 : Sl) ω12 =>
  L5 std p_0 ρ6 ρ11 (ρ11.n : Int) 0 ω12 (q13 std R)))) := E_eq std p_0 w R
theorem drawsOk : drawsOk PP cfg okD (codeOf Try.f25) = true := by kernel_rfl
theorem calls (p_0 : Sl) {w : World} {R : Ending → World → Prop} (h : E std p_0 w R) : Calls PP F.impl_IsTwicePattern #[Sl.v p_0] w R :=
  calls_of noCount mixed drawOk Try.func25 rfl (c := cfg) (args := [Sl.v p_0]) rfl (Nat.le_of_ble_eq_true (by kernel_rfl)) drawsOk h
end impl_IsTwicePattern

end Go.Proofs.Ytdchjhhpbdekeaa

/- Which blocks a slice of rows stands on, and what a step does to them. -/
namespace Go.Proofs.Ytdchjhhpbdekeaa
open Go Go.RowKit
set_option maxRecDepth 100000

/-- The blocks of a slice of rows. -/
def foot (s : Sl) (rs : List Sl) (g : Nat) : Prop := s.blk = some g ∨ ∃ r ∈ rs, r.blk = some g
theorem OwnRows.footLt {w B s rs LL} (h : OwnRows w B s rs LL) {g : Nat} (hg : foot s rs g) : B ≤ g ∧ g < w.heap.size := by
  rcases hg with hg | ⟨r, hr, hg⟩
  · exact h.out.lt g hg
  · exact h.lt hr hg
theorem OwnRows.keepsF {S : Nat → Prop} {w w' B s rs LL} (h : OwnRows w B s rs LL) (hk : Keeps S w w') (hd : ∀ g, foot s rs g → ¬ S g) : OwnRows w' B s rs LL :=
  h.keeps hk (fun g hg => hd g (.inl hg)) (fun r hr g hg => hd g (.inr ⟨r, hr, hg⟩))
/-- A step that writes S alone, and what S becomes: nothing but S and what is new. -/
structure Stp (w w' : World) (S S' : Nat → Prop) : Prop where
  keeps : Keeps S w w'
  next : ∀ g, S' g → S g ∨ w.heap.size ≤ g
theorem Stp.refl (w : World) (S : Nat → Prop) : Stp w w S S := ⟨Keeps.refl _ _, fun _ h => .inl h⟩
theorem Stp.trans {a b c : World} {S T U : Nat → Prop} (h : Stp a b S T) (k : Stp b c T U) : Stp a c S U := by
  refine ⟨⟨k.keeps.os.trans h.keeps.os, k.keeps.tape.trans h.keeps.tape, k.keeps.output.trans h.keeps.output, Nat.le_trans h.keeps.size k.keeps.size, fun x hx hn => ?_⟩, fun g hg => ?_⟩
  · rw [k.keeps.block x (Nat.lt_of_lt_of_le hx h.keeps.size) fun ht => ?_]
    · exact h.keeps.block x hx hn
    · rcases h.next x ht with h1 | h1
      · exact hn h1
      · omega
  · rcases k.next g hg with h1 | h1
    · exact h.next g h1
    · have := h.keeps.size; exact .inr (by omega)
/-- What stands on other blocks stays apart. -/
theorem Stp.apart {w w' : World} {S S' F : Nat → Prop} (h : Stp w w' S S') (hF : ∀ g, F g → g < w.heap.size) (hd : ∀ g, S g → ¬ F g) : ∀ g, S' g → ¬ F g := fun g h1 h2 => by
  rcases h.next g h1 with h3 | h3
  · exact hd g h3 h2
  · have := hF g h2; omega
theorem Stp.grow {w w' : World} {S : Nat → Prop} (h : Below w.heap.size w w') : Stp w w' S S := ⟨(keeps_grown (grow_of_below h)).mono (fun k e => by cases e), fun _ h => .inl h⟩
theorem Stp.below {w w' : World} {S S' : Nat → Prop} {B : Nat} (h : Stp w w' S S') (hS : ∀ g, S g → B ≤ g) (hB : B ≤ w.heap.size) : Below B w w' := h.keeps.below hS hB

theorem getElem?_getD {LL : List (List Int)} {i : Nat} (hi : i < LL.length) : LL[i]? = some (LL.getD i []) := by simp [List.getD_eq_getElem?_getD, List.getElem?_eq_getElem hi]
/-- 'rows[i] = append(rows[i], x)'. -/
theorem OwnRows.appendAtF {w B s rs LL} (h : OwnRows w B s rs LL) {i : Int} (h0 : 0 ≤ i) (hi : i < LL.length) (hB : B ≤ w.heap.size) (hlen : (LL.getD i.toNat []).length < 2^39) {x : Int} {K : World → Prop}
    (hk : ∀ w' rs', OwnRows w' B s rs' (LL.set i.toNat (LL.getD i.toNat [] ++ [x])) → Stp w w' (foot s rs) (foot s rs') → K w') :
    idxK 1 s i fun a => load1 .sl a w fun (t : Sl) => sem1 .sl PP (Instr.buildSlice T_Sint 1 #[(0, vI x)]) w fun (ρ : Sl) w1 => sem1 .sl PP (Builtin.append_ #[T_Sint, T_Sint] T_Sint #[t.v, ρ.v]) w1 fun (t' : Sl) w2 =>
      idxK 1 s i fun a2 => storeC a2 t'.v w2 K := by
  obtain ⟨t, h1, h2⟩ := h.get (i := i.toNat) (by omega)
  refine Row.get (sh := .sl) (r := t) h.out.row h0 (by rw [List.getElem?_map, h1]; rfl) ?_
  refine append_int h2 hB hlen ?_
  intro t' w5 ht' hg5 hn5
  have hs5 : Own w5 B T_Sint s (rs.map Sl.v) := h.out.kept hg5 fun g hg' e => (h.out.apt h2 (by decide)) g hg' e
  refine Own.put hs5 h0 (by rw [List.length_map, h.len]; exact hi) (v := t'.v) ?_
  intro w6 ho6 hg6 _
  have hm : t ∈ rs := List.mem_of_getElem? h1
  refine hk w6 _ (h.setNew h1 hg5 ht' hn5 ho6 hg6 rfl) ⟨?_, fun g hg => ?_⟩
  · exact ((keeps_grown hg5).mono (fun k e => .inr ⟨t, hm, e⟩)).trans ((keeps_grown hg6).mono (fun k e => .inl e))
  · rcases hg with hg | ⟨r, hr, hg⟩
    · exact .inl (.inl hg)
    · rcases List.mem_or_eq_of_mem_set hr with hr | rfl
      · exact .inl (.inr ⟨r, hr, hg⟩)
      · rcases hn5 g hg with h3 | h3
        · exact .inl (.inr ⟨t, hm, h3⟩)
        · exact .inr h3
/-- 'rows[i][c] = x'. -/
theorem OwnRows.setAtF {w B s rs LL} (h : OwnRows w B s rs LL) {i c : Int} (h0 : 0 ≤ i) (hi : i < LL.length) (hc0 : 0 ≤ c) (hc : c < (LL.getD i.toNat []).length) {x : Int} {K : World → Prop}
    (hk : ∀ w', OwnRows w' B s rs (LL.set i.toNat ((LL.getD i.toNat []).set c.toNat x)) → Stp w w' (foot s rs) (foot s rs) → w'.heap.size = w.heap.size → K w') :
    idxK 1 s i fun a => load1 .sl a w fun (t : Sl) => idxK 1 t c fun a2 => storeC a2 (vI x) w K := by
  obtain ⟨t, h1, h2⟩ := h.get (i := i.toNat) (by omega)
  refine Row.get (sh := .sl) (r := t) h.out.row h0 (by rw [List.getElem?_map, h1]; rfl) ?_
  refine Own.put h2 hc0 (by rw [List.length_map]; exact hc) ?_
  intro w6 ho6 hg6 hs6
  refine hk w6 (h.inside h1 (by simpa [OwnI, List.map_set] using ho6) hg6) ⟨?_, fun g hg => .inl hg⟩ hs6
  exact (keeps_grown hg6).mono (fun k e => .inr ⟨t, List.mem_of_getElem? h1, e⟩)
theorem foot_push {w w' : World} {s s' : Sl} {rs : List Sl} {r : Sl} {C : Nat} (hg : w.grownBy w' s.blk) (hn : Next w s s') (hC : C ≤ w.heap.size) (hr : ∀ g, r.blk = some g → C ≤ g) : Keeps (foot s rs) w w' ∧ ∀ g, foot s' (rs ++ [r]) g → foot s rs g ∨ C ≤ g := by
  refine ⟨(keeps_grown hg).mono (fun k e => .inl e), fun g hg => ?_⟩
  rcases hg with hg | ⟨t, ht, hg⟩
  · rcases hn g hg with h1 | h1
    · exact .inl (.inl h1)
    · exact .inr (by omega)
  · rcases List.mem_append.1 ht with ht | ht
    · exact .inl (.inr ⟨t, ht, hg⟩)
    · simp at ht; subst ht; exact .inr (hr g hg)
/-- 'append(rows, row)', the row made by this step. -/
theorem OwnRows.pushF {w0 w : World} {B : Nat} {s : Sl} {rs : List Sl} {LL : List (List Int)} {r : Sl} {L : List Int} (h0 : OwnRows w0 B s rs LL) (hb : Below w0.heap.size w0 w) (hB : B ≤ w0.heap.size) (hr : OwnI w B r L) (hrn : ∀ g, r.blk = some g → w0.heap.size ≤ g) (hn : LL.length < 2^39) {K : Sl → World → Prop}
    (hk : ∀ s' w', OwnRows w' B s' (rs ++ [r]) (LL ++ [L]) → Stp w0 w' (foot s rs) (foot s' (rs ++ [r])) → K s' w') :
    sem1 .sl PP (Instr.buildSlice T_SSint 1 #[(0, r.v)]) w fun t w1 => sem1 .sl PP (Builtin.append_ #[T_SSint, T_SSint] T_SSint #[s.v, t.v]) w1 K := by
  refine append_sl (h0.grow hb) (Nat.le_trans hB hb.size) hr (fun t ht => Apt.of_lt (fun g hg => (h0.lt ht hg).2) hrn) hn fun s' w' h1 h2 h3 => hk s' w' h1 ?_
  obtain ⟨k1, k2⟩ := foot_push (rs := rs) h2 h3 hb.size hrn
  exact ⟨((Stp.grow (S := foot s rs) hb).keeps).trans k1, k2⟩
end Go.Proofs.Ytdchjhhpbdekeaa

/- A map whose keys are four numbers and whose values are all true: what looking up and storing do. -/
namespace Go.Proofs.Ytdchjhhpbdekeaa
open Go Go.RowKit
set_option maxRecDepth 100000

@[reducible] def kv (t : Int × Int × Int × Int) : Value := .agg #[vI t.1, vI t.2.1, vI t.2.2.1, vI t.2.2.2]
theorem kv_inj {s t : Int × Int × Int × Int} (h : kv s = kv t) : s = t := by
  obtain ⟨a, b, c, d⟩ := s
  obtain ⟨a', b', c', d'⟩ := t
  simp [kv] at h
  simp [h]
theorem u_map4 : PP.underlying T_M_4_int_bool = some (.map T__4_int T_bool) := by kernel_rfl
theorem u_arr4 : PP.underlying T__4_int = some (.array 4 T_int) := by kernel_rfl
theorem u_int : PP.underlying T_int = some (.int .i64) := by kernel_rfl
theorem one_int : oneB PP T_int = true := by kernel_rfl
theorem size_int (w : World) : (sizeOf T_int).run PP w = .ok 1 w := by
  obtain ⟨i, hu, hi, hz, hs, hb, hzc⟩ := oneInt
  simp [sizeOf, typeInfo, hi, hs]
theorem part_int {cs : Array Value} {off : Nat} {v : Value} (h : cs[off]? = some v) (w : World) : (part T_int cs off).run PP w = .ok v w := by
  simp [part, isAgg_one one_int, h]
theorem check_int (e : Bool) (n : Nat) (v : Value) (w : World) : (Instr.checkKey e (n + 1) T_int v).run PP w = .ok () w := by
  simp [Instr.checkKey, run_underlying u_int]
theorem check4 (e : Bool) (n : Nat) (t : Int × Int × Int × Int) (w : World) : (Instr.checkKey e (n + 1 + 1) T__4_int (kv t)).run PP w = .ok () w := by
  rw [Instr.checkKey]
  simp [run_underlying u_arr4, size_int, check_int, part_int, List.range'_succ]
theorem eq_int (a b : Int) (n : Nat) (w : World) : (Op.equalIn (n + 1) T_int (vI a) (vI b)).run PP w = .ok (a == b) w := by
  simp [Op.equalIn, run_underlying u_int]
theorem eq4 (n : Nat) (s t : Int × Int × Int × Int) (w : World) : (Op.equalIn (n + 1 + 1) T__4_int (kv s) (kv t)).run PP w = .ok (decide (s = t)) w := by
  obtain ⟨a, b, c, d⟩ := s
  obtain ⟨a', b', c', d'⟩ := t
  rw [Op.equalIn]
  simp [run_underlying u_arr4, size_int, part_int, eq_int, List.range'_succ]
  by_cases h1 : a = a' <;> by_cases h2 : b = b' <;> by_cases h3 : c = c' <;> by_cases h4 : d = d' <;> simp [h1, h2, h3, h4]
/-- The map holds the keys S. -/
def MapK (w : World) (r : Nat) (S : List (Int × Int × Int × Int)) : Prop := ∃ es clock, w.heap[r]? = some (.map es clock) ∧ (∀ e ∈ es.toList, ∃ t ∈ S, e.key = kv t ∧ e.val = .bool true) ∧ ∀ t ∈ S, ∃ e ∈ es.toList, e.key = kv t
theorem ask4 (t : Int × Int × Int × Int) (w : World) : ∀ (es : List MapEntry) (i : Nat), (∀ e ∈ es, ∃ s, e.key = kv s ∧ e.val = .bool true) →
    ∃ r, (Instr.findAsking T__4_int (kv t) es i).run PP w = .ok r w ∧ ((r = none ∧ ∀ e ∈ es, e.key ≠ kv t) ∨ ∃ j e, r = some (i + j, .bool true) ∧ es[j]? = some e ∧ e.key = kv t)
  | [], i, _ => ⟨none, by simp [Instr.findAsking], .inl ⟨rfl, fun e he => (by cases he)⟩⟩
  | e :: es, i, h => by
    obtain ⟨s, hs, hv⟩ := h e (by simp)
    have he : (Op.equal T__4_int (kv t) (kv s)).run PP w = .ok (decide (t = s)) w := eq4 9998 t s w
    by_cases hts : t = s
    · subst hts
      refine ⟨some (i, .bool true), ?_, .inr ⟨0, e, rfl, rfl, hs⟩⟩
      rw [Instr.findAsking, hs, hv]
      simp only [Sem.run_bind, he, Result.andThen_ok, decide_true, if_true, Sem.run_pure]
    · obtain ⟨r, h1, h2⟩ := ask4 t w es (i + 1) fun e' he' => h e' (by simp [he'])
      refine ⟨r, ?_, ?_⟩
      · rw [Instr.findAsking, hs]
        simp only [Sem.run_bind, he, Result.andThen_ok, hts, decide_false, Bool.false_eq_true, if_false]
        exact h1
      · rcases h2 with ⟨h3, h4⟩ | ⟨j, e', h3, h4, h5⟩
        · refine .inl ⟨h3, fun e' he' => ?_⟩
          rcases List.mem_cons.1 he' with rfl | he'
          · rw [hs]; exact fun e => hts (kv_inj e).symm
          · exact h4 e' he'
        · exact .inr ⟨j + 1, e', by rw [h3]; congr 2; omega, h4, h5⟩
theorem find4 (t : Int × Int × Int × Int) (w : World) (es : List MapEntry) (h : ∀ e ∈ es, ∃ s, e.key = kv s ∧ e.val = .bool true) :
    ∃ r, (Instr.findKey T__4_int (kv t) es).run PP w = .ok r w ∧ ((r = none ∧ ∀ e ∈ es, e.key ≠ kv t) ∨ ∃ j e, r = some (j, .bool true) ∧ es[j]? = some e ∧ e.key = kv t) := by
  cases es with
  | nil => exact ⟨none, by simp [Instr.findKey, run_underlying u_arr4, Instr.findNow], .inl ⟨rfl, fun e he => (by cases he)⟩⟩
  | cons e es =>
    obtain ⟨r, h1, h2⟩ := ask4 t w (e :: es) 0 h
    refine ⟨r, ?_, ?_⟩
    · simp only [Instr.findKey, Sem.run_bind, run_underlying u_arr4, Result.andThen_ok, Instr.findNow, Instr.sameNow]
      exact h1
    · rcases h2 with h3 | ⟨j, e', h3, h4⟩
      · exact .inl h3
      · exact .inr ⟨j, e', by rw [h3, Nat.zero_add], h4⟩
theorem zero_bool (w : World) : (zeroValue T_bool).run PP w = .ok (.bool false) w := by
  have : (PP.info? T_bool).map (·.zero) = some (some (.bool false)) := by kernel_rfl
  cases hi : PP.info? T_bool with
  | none => rw [hi] at this; cases this
  | some i =>
    rw [hi] at this
    simp at this
    simp [zeroValue, typeInfo, hi, this]
theorem look4 {w : World} {r : Nat} {S : List (Int × Int × Int × Int)} (h : MapK w r S) (t : Int × Int × Int × Int) {K : Bool → World → Prop} (hk : K (decide (t ∈ S)) w) : sem1 .bool PP (Instr.lookup T_M_4_int_bool (.map (some r)) (kv t) false) w K := by
  obtain ⟨es, clock, hg, h1, h2⟩ := h
  obtain ⟨q, h3, h4⟩ := find4 t w es.toList fun e he => by obtain ⟨s, _, hs⟩ := h1 e he; exact ⟨s, hs⟩
  refine ⟨decide (t ∈ S), w, ?_, hk⟩
  have hobj : (getObj r).run PP w = .ok (.map es clock) w := by simp [getObj, Sem.run, hg]
  have hch : ∀ e : Bool, (Instr.checkKey e 10000 T__4_int (kv t)).run PP w = .ok () w := fun e => check4 e 9998 t w
  simp only [Instr.lookup, Sem.run_bind, run_underlying u_map4, Result.andThen_ok, hobj, Sem.run_pure, hch, h3]
  rcases h4 with ⟨rfl, h5⟩ | ⟨j, e, rfl, h5, h6⟩
  · have : t ∉ S := fun hm => by obtain ⟨e, he, hke⟩ := h2 t hm; exact h5 e he hke
    simp [zero_bool, this]
  · have : t ∈ S := by
      obtain ⟨s, hs, hks, _⟩ := h1 e (List.mem_of_getElem? h5)
      rw [h6] at hks
      rw [kv_inj hks]; exact hs
    simp [this]
theorem same4 (t : Int × Int × Int × Int) (n : Nat) : Instr.sameBits (n + 1 + 1) (kv t) (kv t) = true := by
  simp [Instr.sameBits]
theorem set_map {w : World} {r : Nat} {es es' : Array MapEntry} {c c' : Nat} (hg : w.heap[r]? = some (.map es c)) : ∃ w', (setObj r (.map es' c')).run PP w = .ok () w' ∧ w'.heap[r]? = some (.map es' c') ∧ w.grownBy w' (some r) ∧ w'.heap.size = w.heap.size := by
  have hlt : r < w.heap.size := (Array.getElem?_eq_some_iff.1 hg).1
  refine ⟨{ w with heap := w.heap.setIfInBounds r (.map es' c') }, by simp [setObj, Sem.run, hg], ?_, ⟨rfl, rfl, rfl, by simp, fun k hk hne => ?_⟩, by simp⟩
  · simp [hlt]
  · simp only
    rw [Array.getElem?_setIfInBounds_ne]
    intro e; exact hne (by rw [e])
theorem put4 {w : World} {r : Nat} {S : List (Int × Int × Int × Int)} (h : MapK w r S) (t : Int × Int × Int × Int) {K : World → Prop} (hk : ∀ w', MapK w' r (t :: S) → w.grownBy w' (some r) → K w') : sem0 PP (Instr.mapUpdate T_M_4_int_bool (.map (some r)) (kv t) (.bool true)) w K := by
  obtain ⟨es, clock, hg, h1, h2⟩ := h
  obtain ⟨q, h3, h4⟩ := find4 t w es.toList fun e he => by obtain ⟨s, _, hs⟩ := h1 e he; exact ⟨s, hs⟩
  have hobj : (getObj r).run PP w = .ok (.map es clock) w := by simp [getObj, Sem.run, hg]
  have hch : (Instr.checkKey false 10000 T__4_int (kv t)).run PP w = .ok () w := check4 false 9998 t w
  rcases h4 with ⟨rfl, h5⟩ | ⟨j, e, rfl, h5, h6⟩
  · obtain ⟨w', s1, s2, s3, s4⟩ := set_map (es' := es.push { key := kv t, val := .bool true, born := clock }) (c' := clock + 1) hg
    refine ⟨w', ?_, hk w' ⟨_, _, s2, fun e he => ?_, fun s hs => ?_⟩ s3⟩
    · simp only [Instr.mapUpdate, Sem.run_bind, run_underlying u_map4, Result.andThen_ok, hobj, hch, h3]
      exact s1
    · rw [Array.toList_push] at he
      rcases List.mem_append.1 he with he | he
      · obtain ⟨s, hs, hks⟩ := h1 e he
        exact ⟨s, by simp [hs], hks⟩
      · simp at he; subst he; exact ⟨t, by simp, rfl, rfl⟩
    · rw [Array.toList_push]
      rcases List.mem_cons.1 hs with rfl | hs
      · exact ⟨{ key := kv s, val := .bool true, born := clock }, by simp, rfl⟩
      · obtain ⟨e, he, hke⟩ := h2 s hs
        exact ⟨e, by simp only [List.mem_append]; exact .inl he, hke⟩
  · have hj : es[j]? = some e := by rw [← Array.getElem?_toList]; exact h5
    obtain ⟨w', s1, s2, s3, s4⟩ := set_map (es' := es.modify j fun e => { e with key := kv t, val := .bool true }) (c' := clock) hg
    have hsame : (Instr.keyThatStays (((es[j]?).map (·.key)).getD (kv t)) (kv t)).run PP w = .ok (kv t) w := by
      have hsb : Instr.sameBits 10000 (kv t) (kv t) = true := same4 t 9998
      rw [hj]
      simp only [Option.map_some, Option.getD_some, h6, Instr.keyThatStays, hsb, if_true, Sem.run_pure]
    have hmem : ∀ e', e' ∈ (es.modify j fun e => { e with key := kv t, val := .bool true }).toList → ∃ s ∈ t :: S, e'.key = kv s ∧ e'.val = .bool true := by
      intro e' he'
      obtain ⟨i, hi, rfl⟩ := List.getElem_of_mem he'
      rw [Array.getElem_toList, Array.getElem_modify]
      split
      · exact ⟨t, by simp, rfl, rfl⟩
      · obtain ⟨s, hs, hks⟩ := h1 _ (Array.getElem_mem_toList (xs := es) (i := i) (by simpa using hi))
        exact ⟨s, by simp [hs], hks⟩
    refine ⟨w', ?_, hk w' ⟨_, _, s2, hmem, fun s hs => ?_⟩ s3⟩
    · simp only [Instr.mapUpdate, Sem.run_bind, run_underlying u_map4, Result.andThen_ok, hobj, hch, h3, hsame]
      exact s1
    · have hjl : j < es.size := (Array.getElem?_eq_some_iff.1 hj).1
      have key : ∃ e' ∈ (es.modify j fun e => { e with key := kv t, val := .bool true }).toList, e'.key = kv t := by
        refine ⟨(es.modify j fun e => { e with key := kv t, val := .bool true })[j]'(by simpa using hjl), Array.getElem_mem_toList _, ?_⟩
        rw [Array.getElem_modify]; simp
      rcases List.mem_cons.1 hs with rfl | hs
      · exact key
      · obtain ⟨e0, he0, hke⟩ := h2 s hs
        by_cases hst : s = t
        · subst hst; exact key
        · obtain ⟨i, hi, rfl⟩ := List.getElem_of_mem he0
          have hi' : i < es.size := by simpa using hi
          have hij : j ≠ i := by
            intro e'
            subst e'
            rw [Array.getElem_toList] at hke
            have : e = es[j] := by rw [Array.getElem?_eq_getElem hi'] at hj; exact (Option.some.inj hj).symm
            rw [← this, h6] at hke
            exact hst (kv_inj hke).symm
          refine ⟨(es.modify j fun e => { e with key := kv t, val := .bool true })[i]'(by simpa using hi'), Array.getElem_mem_toList _, ?_⟩
          rw [Array.getElem_modify, if_neg hij]
          rw [Array.getElem_toList] at hke
          exact hke
theorem MapK.kept {w w' : World} {r : Nat} {S : List (Int × Int × Int × Int)} {T : Nat → Prop} (h : MapK w r S) (hk : Keeps T w w') (hr : ¬ T r) : MapK w' r S := by
  obtain ⟨es, clock, hg, h1, h2⟩ := h
  exact ⟨es, clock, by rw [hk.block r (Array.getElem?_eq_some_iff.1 hg).1 hr]; exact hg, h1, h2⟩
theorem MapK.grow {w w' : World} {r : Nat} {S : List (Int × Int × Int × Int)} (h : MapK w r S) (hb : Below w.heap.size w w') : MapK w' r S := h.kept (T := fun _ => False) ((keeps_grown (grow_of_below hb)).mono fun _ e => (by cases e)) id
theorem MapK.lt {w : World} {r : Nat} {S : List (Int × Int × Int × Int)} (h : MapK w r S) : r < w.heap.size := by
  obtain ⟨es, clock, hg, _⟩ := h
  exact (Array.getElem?_eq_some_iff.1 hg).1
theorem new4 {w : World} {K : Option Nat → World → Prop} (hk : ∀ r w', MapK w' r [] → w.heap.size ≤ r → Below w.heap.size w w' → K (some r) w') : sem1 .map PP (Instr.makeMap T_M_4_int_bool none) w K := by
  refine ⟨some w.heap.size, w.alloc (.map #[] 0), ?_, hk _ _ ⟨#[], 0, heap_alloc_new w _, fun e he => by simp at he, fun t ht => by cases ht⟩ (Nat.le_refl _) (below_of_grow (World.grownBy_alloc w _ none))⟩
  simp [Instr.makeMap, run_underlying u_map4, newObj, Sem.run]
theorem mk4 (a b c d : Int) {K : Value → Prop} (hk : K (kv (a, b, c, d))) : buildK PP T__4_int [(0, vI a), (1, vI b), (2, vI c), (3, vI d)] K :=
  ⟨_, fun w => run_build w _ _ #[vI a, vI b, vI c, vI d] (by kernel_rfl), hk⟩
end Go.Proofs.Ytdchjhhpbdekeaa

/- Ascending lists of places, patterns of lists. No program in sight. -/
namespace Go.Proofs.Ytdchjhhpbdekeaa
open Go
set_option maxRecDepth 100000

def plExt (n : Nat) (l : List Int) : List (List Int) := (seqI (lastD l + 1) ((n : Int) - lastD l).toNat).map fun x => l ++ [x]
def plN (n : Nat) : Nat → List (List Int)
  | 0 => [[]]
  | k + 1 => (plN n k).flatMap (plExt n)
theorem lastD_bd {n : Nat} {l : List Int} (h : ∀ x ∈ l, 1 ≤ x ∧ x ≤ (n : Int)) : 0 ≤ lastD l ∧ lastD l ≤ n := by
  by_cases e : l = []
  · subst e; rw [lastD_nil]; omega
  · have := h _ (lastD_mem e); omega
theorem plN_facts (n : Nat) : ∀ k, ∀ l ∈ plN n k, l.length = k ∧ ∀ x ∈ l, 1 ≤ x ∧ x ≤ (n : Int)
  | 0, l, h => by simp [plN] at h; subst h; simp
  | k + 1, l, h => by
    rw [plN, List.mem_flatMap] at h
    obtain ⟨m, hm, h⟩ := h
    obtain ⟨h1, h2⟩ := plN_facts n k m hm
    rw [plExt, List.mem_map] at h
    obtain ⟨x, hx, rfl⟩ := h
    rw [mem_seqI] at hx
    have hl := lastD_bd h2
    refine ⟨by simp [h1], fun y hy => ?_⟩
    rcases List.mem_append.1 hy with hy | hy
    · exact h2 y hy
    · simp at hy; subst hy; omega
theorem plExt_len {n : Nat} {l : List Int} (h : ∀ x ∈ l, 1 ≤ x ∧ x ≤ (n : Int)) : (plExt n l).length ≤ n := by
  have := lastD_bd h
  rw [plExt, List.length_map, seqI_length]; omega
theorem plN_len (n : Nat) : ∀ k, (plN n k).length ≤ n ^ k
  | 0 => by simp [plN]
  | k + 1 => by
    rw [plN, Nat.pow_succ]
    exact Nat.le_trans (length_flatMap_le _ _ n fun l hl => plExt_len (plN_facts n k l hl).2) (Nat.mul_le_mul_right _ (plN_len n k))
/-- How many of the first m numbers are less. -/
def lessN (L : List Int) (x : Int) : Nat → Int
  | 0 => 0
  | m + 1 => lessN L x m + if L.getD m 0 < x then 1 else 0
theorem lessN_bd (L : List Int) (x : Int) : ∀ m, 0 ≤ lessN L x m ∧ lessN L x m ≤ m
  | 0 => by simp [lessN]
  | m + 1 => by have := lessN_bd L x m; rw [lessN]; split <;> omega
def patV (L : List Int) : List Int := tab L.length fun k => 1 + lessN L (L.getD k 0) L.length
def atV (P l : List Int) : List Int := l.map fun i => P.getD (i - 1).toNat 0
def occV (P Q : List Int) : List (List Int) := (plN P.length Q.length).filter fun l => decide (patV (atV P l) = Q)
theorem lessN_mono (L : List Int) {x y : Int} (h : x ≤ y) : ∀ m, lessN L x m ≤ lessN L y m
  | 0 => Int.le_refl _
  | m + 1 => by
    have := lessN_mono L h m
    rw [lessN, lessN]
    split <;> split <;> omega
theorem lessN_lt (L : List Int) {x y : Int} (h : x < y) {i : Nat} (hi : L.getD i 0 = x) : ∀ m, i < m → lessN L x m < lessN L y m
  | 0, hm => by omega
  | m + 1, hm => by
    rw [lessN, lessN]
    by_cases e : i = m
    · subst e
      have := lessN_mono L (Int.le_of_lt h) i
      rw [if_neg (by omega), if_pos (by omega)]; omega
    · have := lessN_lt L h hi m (by omega)
      split <;> split <;> omega
/-- A list has a pattern if and only if both ascend alike. -/
theorem patV_iso {L Q : List Int} (hl : L.length = Q.length) (hQ : patV Q = Q) : patV L = Q ↔ ∀ i j, i < Q.length → j < Q.length → (L.getD i 0 < L.getD j 0 ↔ Q.getD i 0 < Q.getD j 0) := by
  constructor
  · intro h i j hi hj
    have e : ∀ k, k < Q.length → Q.getD k 0 = 1 + lessN L (L.getD k 0) L.length := fun k hk => by
      conv => lhs; rw [← h, patV]
      exact tab_getD _ (by omega)
    rw [e i hi, e j hj]
    constructor
    · intro h1
      have := lessN_lt L h1 rfl L.length (by omega : i < L.length)
      omega
    · intro h1
      rcases Int.lt_or_le (L.getD i 0) (L.getD j 0) with h2 | h2
      · exact h2
      · have := lessN_mono L h2 L.length; omega
  · intro h
    have e : ∀ k, k < Q.length → ∀ m, m ≤ Q.length → lessN L (L.getD k 0) m = lessN Q (Q.getD k 0) m := fun k hk m => by
      induction m with
      | zero => intro _; rfl
      | succ m ih =>
        intro hm
        rw [lessN, lessN, ih (by omega)]
        have := h m k (by omega) hk
        by_cases h1 : L.getD m 0 < L.getD k 0
        · rw [if_pos h1, if_pos (this.1 h1)]
        · rw [if_neg h1, if_neg fun h2 => h1 (this.2 h2)]
    rw [← hQ, patV, patV, hl]
    exact tab_congr fun k hk => by rw [e k hk Q.length (Nat.le_refl _)]
end Go.Proofs.Ytdchjhhpbdekeaa

/- The occurrences of 3241 and 35241, told from both texts. No program in sight. -/
namespace Go.Proofs.Ytdchjhhpbdekeaa
open Go
set_option maxRecDepth 100000

@[reducible] def at1 (P : List Int) (x : Int) : Int := P.getD (x - 1).toNat 0
def Occ4 (P : List Int) (a b c d : Int) : Prop := 1 ≤ a ∧ a < b ∧ b < c ∧ c < d ∧ d ≤ P.length ∧ at1 P d < at1 P b ∧ at1 P b < at1 P a ∧ at1 P a < at1 P c
def Occ5 (P : List Int) (a e b c d : Int) : Prop := 1 ≤ a ∧ a < e ∧ e < b ∧ b < c ∧ c < d ∧ d ≤ P.length ∧ at1 P d < at1 P b ∧ at1 P b < at1 P a ∧ at1 P a < at1 P c ∧ at1 P c < at1 P e
theorem mem_plN_succ {n k : Nat} {l : List Int} : l ∈ plN n (k + 1) ↔ ∃ m x, m ∈ plN n k ∧ lastD m < x ∧ x ≤ n ∧ l = m ++ [x] := by
  rw [plN, List.mem_flatMap]
  constructor
  · rintro ⟨m, hm, h⟩
    rw [plExt, List.mem_map] at h
    obtain ⟨x, hx, rfl⟩ := h
    rw [mem_seqI] at hx
    have hl := lastD_bd (plN_facts n k m hm).2
    exact ⟨m, x, hm, by omega, by omega, rfl⟩
  · rintro ⟨m, x, hm, h1, h2, rfl⟩
    have hl := lastD_bd (plN_facts n k m hm).2
    exact ⟨m, hm, List.mem_map.2 ⟨x, mem_seqI.2 ⟨by omega, by omega⟩, rfl⟩⟩
theorem mem_plN4 {n : Nat} {l : List Int} : l ∈ plN n 4 ↔ ∃ a b c d, l = [a, b, c, d] ∧ 1 ≤ a ∧ a < b ∧ b < c ∧ c < d ∧ d ≤ (n : Int) := by
  constructor
  · intro h
    obtain ⟨m3, d, h3, e1, e2, rfl⟩ := mem_plN_succ.1 h
    obtain ⟨m2, c, h2, f1, f2, rfl⟩ := mem_plN_succ.1 h3
    obtain ⟨m1, b, h1, g1, g2, rfl⟩ := mem_plN_succ.1 h2
    obtain ⟨m0, a, h0, k1, k2, rfl⟩ := mem_plN_succ.1 h1
    simp [plN] at h0; subst h0
    simp only [lastD_snoc, lastD_nil] at *
    exact ⟨a, b, c, d, rfl, by omega, by omega, by omega, by omega, by omega⟩
  · rintro ⟨a, b, c, d, rfl, h1, h2, h3, h4, h5⟩
    refine mem_plN_succ.2 ⟨[a, b, c], d, mem_plN_succ.2 ⟨[a, b], c, mem_plN_succ.2 ⟨[a], b, mem_plN_succ.2 ⟨[], a, by simp [plN], by rw [lastD_nil]; omega, by omega, rfl⟩, ?_, by omega, rfl⟩, ?_, by omega, rfl⟩, ?_, by omega, rfl⟩
    · exact h2
    · exact h3
    · exact h4
theorem mem_plN5 {n : Nat} {l : List Int} : l ∈ plN n 5 ↔ ∃ a e b c d, l = [a, e, b, c, d] ∧ 1 ≤ a ∧ a < e ∧ e < b ∧ b < c ∧ c < d ∧ d ≤ (n : Int) := by
  constructor
  · intro h
    obtain ⟨m4, d, h4, e1, e2, rfl⟩ := mem_plN_succ.1 h
    obtain ⟨a, e, b, c, rfl, h1, h2, h3, h5, h6⟩ := mem_plN4.1 h4
    have : lastD [a, e, b, c] = c := rfl
    exact ⟨a, e, b, c, d, rfl, h1, h2, h3, h5, by omega, by omega⟩
  · rintro ⟨a, e, b, c, d, rfl, h1, h2, h3, h4, h5, h6⟩
    exact mem_plN_succ.2 ⟨[a, e, b, c], d, mem_plN4.2 ⟨a, e, b, c, rfl, h1, h2, h3, h4, by omega⟩, h5, by omega, rfl⟩
theorem pat3241 : patV [3, 2, 4, 1] = [3, 2, 4, 1] := by decide +kernel
theorem pat35241 : patV [3, 5, 2, 4, 1] = [3, 5, 2, 4, 1] := by decide +kernel
theorem mem_occ4 {P l : List Int} : l ∈ occV P [3, 2, 4, 1] ↔ ∃ a b c d, l = [a, b, c, d] ∧ Occ4 P a b c d := by
  unfold occV
  rw [List.mem_filter, show ([3, 2, 4, 1] : List Int).length = 4 from rfl, mem_plN4, decide_eq_true_iff]
  constructor
  · rintro ⟨⟨a, b, c, d, rfl, h1, h2, h3, h4, h5⟩, hp⟩
    have h := (patV_iso (L := atV P [a, b, c, d]) (Q := [3, 2, 4, 1]) rfl pat3241).1 hp
    have h31 := (h 3 1 (by decide) (by decide)).2 (by decide)
    have h10 := (h 1 0 (by decide) (by decide)).2 (by decide)
    have h02 := (h 0 2 (by decide) (by decide)).2 (by decide)
    exact ⟨a, b, c, d, rfl, h1, h2, h3, h4, h5, h31, h10, h02⟩
  · rintro ⟨a, b, c, d, rfl, h1, h2, h3, h4, h5, h6, h7, h8⟩
    refine ⟨⟨a, b, c, d, rfl, h1, h2, h3, h4, h5⟩, (patV_iso (L := atV P [a, b, c, d]) (Q := [3, 2, 4, 1]) rfl pat3241).2 ?_⟩
    have e0 : (atV P [a, b, c, d]).getD 0 0 = at1 P a := rfl
    have e1 : (atV P [a, b, c, d]).getD 1 0 = at1 P b := rfl
    have e2 : (atV P [a, b, c, d]).getD 2 0 = at1 P c := rfl
    have e3 : (atV P [a, b, c, d]).getD 3 0 = at1 P d := rfl
    have q0 : ([3, 2, 4, 1] : List Int).getD 0 0 = 3 := rfl
    have q1 : ([3, 2, 4, 1] : List Int).getD 1 0 = 2 := rfl
    have q2 : ([3, 2, 4, 1] : List Int).getD 2 0 = 4 := rfl
    have q3 : ([3, 2, 4, 1] : List Int).getD 3 0 = 1 := rfl
    intro i j hi hj
    have hi4 : i = 0 ∨ i = 1 ∨ i = 2 ∨ i = 3 := by simp at hi; omega
    have hj4 : j = 0 ∨ j = 1 ∨ j = 2 ∨ j = 3 := by simp at hj; omega
    rcases hi4 with rfl | rfl | rfl | rfl <;> rcases hj4 with rfl | rfl | rfl | rfl <;> simp only [e0, e1, e2, e3, q0, q1, q2, q3] <;> omega
theorem mem_occ5 {P l : List Int} : l ∈ occV P [3, 5, 2, 4, 1] ↔ ∃ a e b c d, l = [a, e, b, c, d] ∧ Occ5 P a e b c d := by
  unfold occV
  rw [List.mem_filter, show ([3, 5, 2, 4, 1] : List Int).length = 5 from rfl, mem_plN5, decide_eq_true_iff]
  constructor
  · rintro ⟨⟨a, e, b, c, d, rfl, h1, h2, h3, h4, h5, h6⟩, hp⟩
    have h := (patV_iso (L := atV P [a, e, b, c, d]) (Q := [3, 5, 2, 4, 1]) rfl pat35241).1 hp
    have h42 := (h 4 2 (by decide) (by decide)).2 (by decide)
    have h20 := (h 2 0 (by decide) (by decide)).2 (by decide)
    have h03 := (h 0 3 (by decide) (by decide)).2 (by decide)
    have h31 := (h 3 1 (by decide) (by decide)).2 (by decide)
    exact ⟨a, e, b, c, d, rfl, h1, h2, h3, h4, h5, h6, h42, h20, h03, h31⟩
  · rintro ⟨a, e, b, c, d, rfl, h1, h2, h3, h4, h5, h6, h7, h8, h9, h10⟩
    refine ⟨⟨a, e, b, c, d, rfl, h1, h2, h3, h4, h5, h6⟩, (patV_iso (L := atV P [a, e, b, c, d]) (Q := [3, 5, 2, 4, 1]) rfl pat35241).2 ?_⟩
    have e0 : (atV P [a, e, b, c, d]).getD 0 0 = at1 P a := rfl
    have e1 : (atV P [a, e, b, c, d]).getD 1 0 = at1 P e := rfl
    have e2 : (atV P [a, e, b, c, d]).getD 2 0 = at1 P b := rfl
    have e3 : (atV P [a, e, b, c, d]).getD 3 0 = at1 P c := rfl
    have e4 : (atV P [a, e, b, c, d]).getD 4 0 = at1 P d := rfl
    have q0 : ([3, 5, 2, 4, 1] : List Int).getD 0 0 = 3 := rfl
    have q1 : ([3, 5, 2, 4, 1] : List Int).getD 1 0 = 5 := rfl
    have q2 : ([3, 5, 2, 4, 1] : List Int).getD 2 0 = 2 := rfl
    have q3 : ([3, 5, 2, 4, 1] : List Int).getD 3 0 = 4 := rfl
    have q4 : ([3, 5, 2, 4, 1] : List Int).getD 4 0 = 1 := rfl
    intro i j hi hj
    have hi4 : i = 0 ∨ i = 1 ∨ i = 2 ∨ i = 3 ∨ i = 4 := by simp at hi; omega
    have hj4 : j = 0 ∨ j = 1 ∨ j = 2 ∨ j = 3 ∨ j = 4 := by simp at hj; omega
    rcases hi4 with rfl | rfl | rfl | rfl | rfl <;> rcases hj4 with rfl | rfl | rfl | rfl | rfl <;> simp only [e0, e1, e2, e3, e4, q0, q1, q2, q3, q4] <;> omega
theorem mem_occN_succ {P Q : List Int} {m : Nat} {h l : List Int} (hh : ∀ x ∈ h, 1 ≤ x ∧ x ≤ (P.length : Int)) : l ∈ occN P Q (m + 1) h ↔ ∃ x, lastD h < x ∧ x ≤ P.length ∧ fitsB P Q h x = true ∧ l ∈ occN P Q m (h ++ [x]) := by
  have hl := lastD_bd hh
  rw [occN, List.mem_flatMap]
  constructor
  · rintro ⟨x, hx, h1⟩
    rw [mem_seqI] at hx
    split at h1
    · rename_i hf; exact ⟨x, by omega, by omega, hf, h1⟩
    · cases h1
  · rintro ⟨x, h1, h2, h3, h4⟩
    exact ⟨x, mem_seqI.2 ⟨by omega, by omega⟩, by rw [if_pos h3]; exact h4⟩
/-- The model text finds the same. -/
theorem mem_find4 {P l : List Int} (hn : ∀ x y : Int, 1 ≤ x → x < y → y ≤ P.length → at1 P x ≠ at1 P y) : l ∈ occN P [3, 2, 4, 1] 4 [] ↔ ∃ a b c d, l = [a, b, c, d] ∧ Occ4 P a b c d := by
  have fits1 : ∀ a b : Int, fitsB P [3, 2, 4, 1] [a] b = true ↔ ¬ at1 P a < at1 P b := fun a b => by
    have : fitsB P [3, 2, 4, 1] [a] b = (decide (at1 P a < at1 P b) == decide ((3 : Int) < 2)) := by
      simp [fitsB, fitsAt, List.range_succ]
    rw [this]; simp
  have fits2 : ∀ a b c : Int, fitsB P [3, 2, 4, 1] [a, b] c = true ↔ at1 P a < at1 P c ∧ at1 P b < at1 P c := fun a b c => by
    have : fitsB P [3, 2, 4, 1] [a, b] c = ((decide (at1 P a < at1 P c) == decide ((3 : Int) < 4)) && (decide (at1 P b < at1 P c) == decide ((2 : Int) < 4))) := by
      simp [fitsB, fitsAt, List.range_succ]
    rw [this]; simp
  have fits3 : ∀ a b c d : Int, fitsB P [3, 2, 4, 1] [a, b, c] d = true ↔ ¬ at1 P a < at1 P d ∧ ¬ at1 P b < at1 P d ∧ ¬ at1 P c < at1 P d := fun a b c d => by
    have : fitsB P [3, 2, 4, 1] [a, b, c] d = ((decide (at1 P a < at1 P d) == decide ((3 : Int) < 1)) && ((decide (at1 P b < at1 P d) == decide ((2 : Int) < 1)) && (decide (at1 P c < at1 P d) == decide ((4 : Int) < 1)))) := by
      simp [fitsB, fitsAt, List.range_succ]
    rw [this]; simp [and_assoc]
  have bd : ∀ {h : List Int} {x : Int}, (∀ y ∈ h, 1 ≤ y ∧ y ≤ (P.length : Int)) → lastD h < x → x ≤ P.length → ∀ y ∈ h ++ [x], 1 ≤ y ∧ y ≤ (P.length : Int) := fun {h x} hh h1 h2 y hy => by
    have hl := lastD_bd hh
    rcases List.mem_append.1 hy with hy | hy
    · exact hh y hy
    · simp at hy; subst hy; omega
  have b0 : ∀ y ∈ ([] : List Int), 1 ≤ y ∧ y ≤ (P.length : Int) := fun y hy => by cases hy
  constructor
  · intro h
    obtain ⟨a, a1, a2, _, h⟩ := (mem_occN_succ b0).1 h
    have ba := bd b0 a1 a2
    obtain ⟨b, b1, b2, f1, h⟩ := (mem_occN_succ ba).1 h
    have bb := bd ba b1 b2
    obtain ⟨c, c1, c2, f2, h⟩ := (mem_occN_succ bb).1 h
    have bc := bd bb c1 c2
    obtain ⟨d, d1, d2, f3, h⟩ := (mem_occN_succ bc).1 h
    simp only [List.nil_append, List.cons_append, List.singleton_append] at f1 f2 f3 h
    simp only [lastD_nil, lastD_snoc] at a1 b1 c1 d1
    rw [fits1] at f1
    rw [fits2] at f2
    rw [fits3] at f3
    have h : l = [a, b, c, d] := by simpa [occN] using h
    have n1 := hn a b (by omega) (by omega) (by omega)
    have n2 := hn b d (by omega) (by omega) (by omega)
    exact ⟨a, b, c, d, h, by omega, by omega, by omega, by omega, by omega, by omega, by omega, by omega⟩
  · rintro ⟨a, b, c, d, rfl, h1, h2, h3, h4, h5, h6, h7, h8⟩
    have ba := bd (h := []) (x := a) b0 (by rw [lastD_nil]; omega) (by omega)
    have bb := bd (h := [a]) (x := b) ba h2 (by omega)
    have bc := bd (h := [a, b]) (x := c) bb h3 (by omega)
    refine (mem_occN_succ b0).2 ⟨a, by rw [lastD_nil]; omega, by omega, by simp [fitsB], ?_⟩
    refine (mem_occN_succ ba).2 ⟨b, h2, by omega, (fits1 a b).2 (by omega), ?_⟩
    refine (mem_occN_succ bb).2 ⟨c, h3, by omega, (fits2 a b c).2 (by omega), ?_⟩
    refine (mem_occN_succ bc).2 ⟨d, h4, by omega, (fits3 a b c d).2 (by omega), ?_⟩
    simp [occN]
end Go.Proofs.Ytdchjhhpbdekeaa

/- What each function does, step by step, written by a program (Gen.lean); each equation is checked by the kernel. -/
namespace Go.Proofs.Ytdchjhhpbdekeaa
open Go
set_option linter.unusedVariables false
set_option maxRecDepth 100000
namespace impl_occurrences
@[reducible] def cfg : Cfg := ⟨29, [(3, [0, 1, 5, 13, 14, 15])], [(1, [0, 1, 5, 13, 14, 15]), (0, [5])], [], [4], [], [101, 107, 112, 15, 21, 124, 76, 137, 28, 115, 91, 81, 130], [138, 140, 82, 6, 86, 85, 132]⟩
def q2 (pr : Prims) (R : Ending → World → Prop) : Exit → Env → World → Prop := fun ex e w => normQ ex (fun e w => contE pr cfg (sub (codeOf Try.f88) [1, 1, 1]) (fun e w => wpC pr PP cfg (DD pr) (sub (codeOf Try.f88) [1, 1, 1]) (retQ Try.f88.results.toList R) e w) e w) (retQ Try.f88.results.toList R) e w
def q5 (pr : Prims) (R : Ending → World → Prop) : Exit → Env → World → Prop := fun ex e w => blockQ ex 0 (q2 pr R) e w
def emb3 (p_0 : Sl) (q_1 : Sl) (out_5 : Sl) (t13 : Sl) (t14 : Int) (t15 : Int) : Env := [(0, Sl.v p_0), (1, Sl.v q_1), (5, Sl.v out_5), (13, Sl.v t13), (14, vI t14), (15, vI t15)]
def x0 (out_5 : Sl) : Env := [(5, Sl.v out_5)]
def S3 (pr : Prims) (Q : Exit → Env → World → Prop) : (Env → World → Prop) → Env → World → Prop := fun k e w => wpC pr PP cfg (DD pr) (sub (codeOf Try.f88) [1, 1, 0, 1, 0, 0]) (fun ex e w => normQ ex (fun e' w' => k (Env.restr e' (lookN cfg.loops (keyOf (sub (codeOf Try.f88) [1, 1, 0, 1, 0, 0])))) w') Q e w) e w
def B3 (pr : Prims) (p_0 : Sl) (q_1 : Sl) (out_5 : Sl) (t13 : Sl) (t14 : Int) (t15 : Int) (w : World) (k : Env → World → Prop) (Q : Exit → Env → World → Prop) : Prop :=
  S3 pr Q k (emb3 p_0 q_1 out_5 t13 t14 t15) w
def L3 (pr : Prims) (p_0 : Sl) (q_1 : Sl) (out_5 : Sl) (t13 : Sl) (t14 : Int) (t15 : Int) (w : World) (Q : Exit → Env → World → Prop) : Prop :=
  pr.loop (S3 pr Q) (emb3 p_0 q_1 out_5 t13 t14 t15) w
def E (pr : Prims) (p_0 : Sl) (q_1 : Sl) (w : World) (R : Ending → World → Prop) : Prop :=
  wpC pr PP cfg (DD pr) (codeOf Try.f88) (retQ Try.f88.results.toList R) (argE 0 [Sl.v p_0, Sl.v q_1]) w
theorem B3_eq (pr : Prims) (p_0 : Sl) (q_1 : Sl) (out_5 : Sl) (t13 : Sl) (t14 : Int) (t15 : Int) (w : World) (k : Env → World → Prop) (Q : Exit → Env → World → Prop) : B3 pr p_0 q_1 out_5 t13 t14 t15 w k Q = (
  bif decide (t15 < t14) then (
  pr.idxK 1 t13 t15 fun (a6 : Addr) =>
  pr.load1 .sl a6 w fun (ξ7 : Sl) =>
  pr.call1 .bool PP F.impl_isOccurrence #[Sl.v p_0, Sl.v q_1, Sl.v ξ7] w fun (ρ8 : Bool) ω9 =>
  bif ρ8 then (
  pr.sem1 .sl PP (Instr.buildSlice T_SSint 1 #[(0, Sl.v ξ7)]) ω9 fun (ρ10 : Sl) ω11 =>
  pr.sem1 .sl PP (Builtin.append_ #[T_SSint, T_SSint] T_SSint #[Sl.v out_5, Sl.v ρ10]) ω11 fun (ρ12 : Sl) ω13 =>
  k (emb3 p_0 q_1 ρ12 t13 t14 (w64 (t15 + 1))) ω13)
  else (
  k (emb3 p_0 q_1 out_5 t13 t14 (w64 (t15 + 1))) ω9))
  else (
  Q (.exit 0) (x0 out_5) w)) := by kernel_rfl
theorem B3_s (p_0 : Sl) (q_1 : Sl) (out_5 : Sl) (t13 : Sl) (t14 : Int) (t15 : Int) (w : World) (k : Env → World → Prop) (Q : Exit → Env → World → Prop) : B3 std p_0 q_1 out_5 t13 t14 t15 w k Q = (
  bif decide (t15 < t14) then (
  idxK 1 t13 t15 fun (a6 : Addr) =>
  load1 .sl a6 w fun (ξ7 : Sl) =>
  call1 .bool PP F.impl_isOccurrence #[Sl.v p_0, Sl.v q_1, Sl.v ξ7] w fun (ρ8 : Bool) ω9 =>
  bif ρ8 then (
  sem1 .sl PP (Instr.buildSlice T_SSint 1 #[(0, Sl.v ξ7)]) ω9 fun (ρ10 : Sl) ω11 =>
  sem1 .sl PP (Builtin.append_ #[T_SSint, T_SSint] T_SSint #[Sl.v out_5, Sl.v ρ10]) ω11 fun (ρ12 : Sl) ω13 =>
  k (emb3 p_0 q_1 ρ12 t13 t14 (w64 (t15 + 1))) ω13)
  else (
  k (emb3 p_0 q_1 out_5 t13 t14 (w64 (t15 + 1))) ω9))
  else (
  Q (.exit 0) (x0 out_5) w)) := B3_eq std p_0 q_1 out_5 t13 t14 t15 w k Q
theorem L3_rule (p_0 : Sl) (q_1 : Sl) (out_5 : Sl) (t13 : Sl) (t14 : Int) (t15 : Int) (w : World) (Q : Exit → Env → World → Prop) (I : Sl → Int → World → Prop) (μ : Sl → Int → World → Nat) (h0 : I out_5 t15 w)
    (h : ∀ (out_5 : Sl) (t15 : Int) (w' : World), I out_5 t15 w' → B3 std p_0 q_1 out_5 t13 t14 t15 w' (fun e2 w2 => ∃ out_5_n t15_n, e2 = emb3 p_0 q_1 out_5_n t13 t14 t15_n ∧ I out_5_n t15_n w2 ∧ μ out_5_n t15_n w2 < μ out_5 t15 w') Q) :
    L3 std p_0 q_1 out_5 t13 t14 t15 w Q := by
  unfold L3
  refine LoopE.intro (σ := Sl × Int) (step := S3 std Q) (fun s => emb3 p_0 q_1 s.1 t13 t14 s.2) (fun s w => I s.1 s.2 w) (fun s w => μ s.1 s.2 w) (out_5, t15) rfl h0 ?_
  intro s w' hI
  have h1 := h s.1 s.2 w' hI
  unfold B3 at h1
  simp only [Prod.exists]
  exact h1
theorem A3_0_eq (pr : Prims) (out_5 : Sl) (w : World) (R : Ending → World → Prop) : (q5 pr R) (.exit 0) (x0 out_5) w = (
  R (.returned (Sl.v out_5)) w) := by kernel_rfl
theorem A3_0_s (out_5 : Sl) (w : World) (R : Ending → World → Prop) : (q5 std R) (.exit 0) (x0 out_5) w = (
  R (.returned (Sl.v out_5)) w) := A3_0_eq std out_5 w R
theorem E_eq (pr : Prims) (p_0 : Sl) (q_1 : Sl) (w : World) (R : Ending → World → Prop) : E pr p_0 q_1 w R = (
  pr.sem1 .sl PP (Instr.buildSlice T_SSint 0 #[]) w fun (ρ0 : Sl) ω1 =>
  pr.call1 .sl PP F.impl_places #[vI (p_0.n : Int), vI (q_1.n : Int)] ω1 fun (ρ3 : Sl) ω4 =>
  L3 pr p_0 q_1 ρ0 ρ3 (ρ3.n : Int) 0 ω4 (q5 pr R)) := by kernel_rfl
theorem E_s (p_0 : Sl) (q_1 : Sl) (w : World) (R : Ending → World → Prop) : E std p_0 q_1 w R = (
  sem1 .sl PP (Instr.buildSlice T_SSint 0 #[]) w fun (ρ0 : Sl) ω1 =>
  call1 .sl PP F.impl_places #[vI (p_0.n : Int), vI (q_1.n : Int)] ω1 fun (ρ3 : Sl) ω4 =>
  L3 std p_0 q_1 ρ0 ρ3 (ρ3.n : Int) 0 ω4 (q5 std R)) := E_eq std p_0 q_1 w R
theorem drawsOk : drawsOk PP cfg okD (codeOf Try.f88) = true := by kernel_rfl
theorem calls (p_0 : Sl) (q_1 : Sl) {w : World} {R : Ending → World → Prop} (h : E std p_0 q_1 w R) : Calls PP F.impl_occurrences #[Sl.v p_0, Sl.v q_1] w R :=
  calls_of noCount mixed drawOk Try.func88 rfl (c := cfg) (args := [Sl.v p_0, Sl.v q_1]) rfl (Nat.le_of_ble_eq_true (by kernel_rfl)) drawsOk h
end impl_occurrences

namespace impl_places
@[reducible] def cfg : Cfg := ⟨51, [(12, [0, 6, 8, 10, 13, 14, 17, 18, 19]), (6, [0, 6, 13, 14, 17, 18, 19]), (3, [0, 5, 13, 14])], [(5, [0, 6, 8, 10, 13, 14, 17, 18, 19]), (4, [0, 6, 13, 14, 17, 18, 19]), (3, [0, 6, 13, 14, 17, 18, 19]), (2, [0, 6, 13, 14]), (1, [0, 5, 13, 14]), (0, [5])], [(11, [0, 6, 8, 9, 13, 14, 17, 18, 19])], [4], [], [101, 107, 112, 15, 21, 124, 76, 137, 28, 115, 91, 81, 130], [138, 140, 82, 6, 86, 85, 132]⟩
def q4 (pr : Prims) (R : Ending → World → Prop) : Exit → Env → World → Prop := fun ex e w => normQ ex (fun e w => contE pr cfg (sub (codeOf Try.f128) [1, 1, 1]) (fun e w => wpC pr PP cfg (DD pr) (sub (codeOf Try.f128) [1, 1, 1]) (retQ Try.f128.results.toList R) e w) e w) (retQ Try.f128.results.toList R) e w
def q5 (pr : Prims) (R : Ending → World → Prop) : Exit → Env → World → Prop := fun ex e w => blockQ ex 0 (q4 pr R) e w
def q6 (pr : Prims) (k : Env → World → Prop) (Q : Exit → Env → World → Prop) : Exit → Env → World → Prop := fun ex e w => normQ ex (fun e w => contE pr cfg (sub (codeOf Try.f128) [1, 1, 0, 1, 0, 0, 1, 1, 1]) (fun e w => wpC pr PP cfg (DD pr) (sub (codeOf Try.f128) [1, 1, 0, 1, 0, 0, 1, 1, 1]) (fun ex e w => normQ ex (fun e' w' => k (Env.restr e' (lookN cfg.loops (keyOf (sub (codeOf Try.f128) [1, 1, 0, 1, 0, 0])))) w') Q e w) e w) e w) (fun ex e w => normQ ex (fun e' w' => k (Env.restr e' (lookN cfg.loops (keyOf (sub (codeOf Try.f128) [1, 1, 0, 1, 0, 0])))) w') Q e w) e w
def q7 (pr : Prims) (k : Env → World → Prop) (Q : Exit → Env → World → Prop) : Exit → Env → World → Prop := fun ex e w => blockQ ex 1 (q6 pr k Q) e w
def q10 (pr : Prims) (k : Env → World → Prop) (Q : Exit → Env → World → Prop) : Exit → Env → World → Prop := fun ex e w => normQ ex (fun e w => contE pr cfg (sub (codeOf Try.f128) [1, 1, 0, 1, 0, 0, 1, 1, 0, 0, 1, 1]) (fun e w => wpC pr PP cfg (DD pr) (sub (codeOf Try.f128) [1, 1, 0, 1, 0, 0, 1, 1, 0, 0, 1, 1]) (q7 pr k Q) e w) e w) (q7 pr k Q) e w
def q11 (pr : Prims) (k : Env → World → Prop) (Q : Exit → Env → World → Prop) : Exit → Env → World → Prop := fun ex e w => blockQ ex 2 (q10 pr k Q) e w
def q12 (pr : Prims) (k : Env → World → Prop) (Q : Exit → Env → World → Prop) : Exit → Env → World → Prop := fun ex e w => normQ ex (fun e w => contE pr cfg (sub (codeOf Try.f128) [1, 1, 0, 1, 0, 0, 1, 1, 0, 0, 1, 0, 1, 0, 0, 1, 1, 1]) (fun e w => wpC pr PP cfg (DD pr) (sub (codeOf Try.f128) [1, 1, 0, 1, 0, 0, 1, 1, 0, 0, 1, 0, 1, 0, 0, 1, 1, 1]) (fun ex e w => normQ ex (fun e' w' => k (Env.restr e' (lookN cfg.loops (keyOf (sub (codeOf Try.f128) [1, 1, 0, 1, 0, 0, 1, 1, 0, 0, 1, 0, 1, 0, 0])))) w') Q e w) e w) e w) (fun ex e w => normQ ex (fun e' w' => k (Env.restr e' (lookN cfg.loops (keyOf (sub (codeOf Try.f128) [1, 1, 0, 1, 0, 0, 1, 1, 0, 0, 1, 0, 1, 0, 0])))) w') Q e w) e w
def q13 (pr : Prims) (k : Env → World → Prop) (Q : Exit → Env → World → Prop) : Exit → Env → World → Prop := fun ex e w => blockQ ex 3 (q12 pr k Q) e w
def q16 (pr : Prims) (k : Env → World → Prop) (Q : Exit → Env → World → Prop) : Exit → Env → World → Prop := fun ex e w => normQ ex (fun e w => contE pr cfg (sub (codeOf Try.f128) [1, 1, 0, 1, 0, 0, 1, 1, 0, 0, 1, 0, 1, 0, 0, 1, 1, 0, 0, 1, 1, 1]) (fun e w => wpC pr PP cfg (DD pr) (sub (codeOf Try.f128) [1, 1, 0, 1, 0, 0, 1, 1, 0, 0, 1, 0, 1, 0, 0, 1, 1, 0, 0, 1, 1, 1]) (q13 pr k Q) e w) e w) (q13 pr k Q) e w
def q19 (pr : Prims) (k : Env → World → Prop) (Q : Exit → Env → World → Prop) : Exit → Env → World → Prop := fun ex e w => blockQ ex 4 (q13 pr k Q) e w
def emb3 (n_0 : Int) (out_5 : Sl) (t13 : Int) (t14 : Int) : Env := [(0, vI n_0), (5, Sl.v out_5), (13, vI t13), (14, vI t14)]
def emb6 (n_0 : Int) (longer_6 : Sl) (t13 : Int) (t14 : Int) (t17 : Sl) (t18 : Int) (t19 : Int) : Env := [(0, vI n_0), (6, Sl.v longer_6), (13, vI t13), (14, vI t14), (17, Sl.v t17), (18, vI t18), (19, vI t19)]
def j11 (n_0 : Int) (longer_6 : Sl) (list_8 : Sl) (from_9 : Int) (t13 : Int) (t14 : Int) (t17 : Sl) (t18 : Int) (t19 : Int) : Env := [(0, vI n_0), (6, Sl.v longer_6), (8, Sl.v list_8), (9, vI from_9), (13, vI t13), (14, vI t14), (17, Sl.v t17), (18, vI t18), (19, vI t19)]
def emb12 (n_0 : Int) (longer_6 : Sl) (list_8 : Sl) (i_10 : Int) (t13 : Int) (t14 : Int) (t17 : Sl) (t18 : Int) (t19 : Int) : Env := [(0, vI n_0), (6, Sl.v longer_6), (8, Sl.v list_8), (10, vI i_10), (13, vI t13), (14, vI t14), (17, Sl.v t17), (18, vI t18), (19, vI t19)]
def x4 (n_0 : Int) (longer_6 : Sl) (t13 : Int) (t14 : Int) (t17 : Sl) (t18 : Int) (t19 : Int) : Env := [(0, vI n_0), (6, Sl.v longer_6), (13, vI t13), (14, vI t14), (17, Sl.v t17), (18, vI t18), (19, vI t19)]
def x2 (n_0 : Int) (longer_6 : Sl) (t13 : Int) (t14 : Int) : Env := [(0, vI n_0), (6, Sl.v longer_6), (13, vI t13), (14, vI t14)]
def x0 (out_5 : Sl) : Env := [(5, Sl.v out_5)]
def S12 (pr : Prims) (Q : Exit → Env → World → Prop) : (Env → World → Prop) → Env → World → Prop := fun k e w => wpC pr PP cfg (DD pr) (sub (codeOf Try.f128) [1, 1, 0, 1, 0, 0, 1, 1, 0, 0, 1, 0, 1, 0, 0, 1, 1, 0, 0, 1, 1, 1, 1, 0, 0]) (fun ex e w => normQ ex (fun e' w' => k (Env.restr e' (lookN cfg.loops (keyOf (sub (codeOf Try.f128) [1, 1, 0, 1, 0, 0, 1, 1, 0, 0, 1, 0, 1, 0, 0, 1, 1, 0, 0, 1, 1, 1, 1, 0, 0])))) w') Q e w) e w
def S6 (pr : Prims) (Q : Exit → Env → World → Prop) : (Env → World → Prop) → Env → World → Prop := fun k e w => wpC pr PP cfg (DD pr) (sub (codeOf Try.f128) [1, 1, 0, 1, 0, 0, 1, 1, 0, 0, 1, 0, 1, 0, 0]) (fun ex e w => normQ ex (fun e' w' => k (Env.restr e' (lookN cfg.loops (keyOf (sub (codeOf Try.f128) [1, 1, 0, 1, 0, 0, 1, 1, 0, 0, 1, 0, 1, 0, 0])))) w') Q e w) e w
def S3 (pr : Prims) (Q : Exit → Env → World → Prop) : (Env → World → Prop) → Env → World → Prop := fun k e w => wpC pr PP cfg (DD pr) (sub (codeOf Try.f128) [1, 1, 0, 1, 0, 0]) (fun ex e w => normQ ex (fun e' w' => k (Env.restr e' (lookN cfg.loops (keyOf (sub (codeOf Try.f128) [1, 1, 0, 1, 0, 0])))) w') Q e w) e w
def B12 (pr : Prims) (n_0 : Int) (longer_6 : Sl) (list_8 : Sl) (i_10 : Int) (t13 : Int) (t14 : Int) (t17 : Sl) (t18 : Int) (t19 : Int) (w : World) (k : Env → World → Prop) (Q : Exit → Env → World → Prop) : Prop :=
  S12 pr Q k (emb12 n_0 longer_6 list_8 i_10 t13 t14 t17 t18 t19) w
def L12 (pr : Prims) (n_0 : Int) (longer_6 : Sl) (list_8 : Sl) (i_10 : Int) (t13 : Int) (t14 : Int) (t17 : Sl) (t18 : Int) (t19 : Int) (w : World) (Q : Exit → Env → World → Prop) : Prop :=
  pr.loop (S12 pr Q) (emb12 n_0 longer_6 list_8 i_10 t13 t14 t17 t18 t19) w
def J11 (pr : Prims) (n_0 : Int) (longer_6 : Sl) (list_8 : Sl) (from_9 : Int) (t13 : Int) (t14 : Int) (t17 : Sl) (t18 : Int) (t19 : Int) (w : World) (k : Env → World → Prop) (Q : Exit → Env → World → Prop) : Prop :=
  pr.seg (fun e w => wpC pr PP cfg (DD pr) (sub (codeOf Try.f128) [1, 1, 0, 1, 0, 0, 1, 1, 0, 0, 1, 0, 1, 0, 0, 1, 1, 0, 0, 1, 1, 1]) (q13 pr k Q) e w) (j11 n_0 longer_6 list_8 from_9 t13 t14 t17 t18 t19) w
def B6 (pr : Prims) (n_0 : Int) (longer_6 : Sl) (t13 : Int) (t14 : Int) (t17 : Sl) (t18 : Int) (t19 : Int) (w : World) (k : Env → World → Prop) (Q : Exit → Env → World → Prop) : Prop :=
  S6 pr Q k (emb6 n_0 longer_6 t13 t14 t17 t18 t19) w
def L6 (pr : Prims) (n_0 : Int) (longer_6 : Sl) (t13 : Int) (t14 : Int) (t17 : Sl) (t18 : Int) (t19 : Int) (w : World) (Q : Exit → Env → World → Prop) : Prop :=
  pr.loop (S6 pr Q) (emb6 n_0 longer_6 t13 t14 t17 t18 t19) w
def B3 (pr : Prims) (n_0 : Int) (out_5 : Sl) (t13 : Int) (t14 : Int) (w : World) (k : Env → World → Prop) (Q : Exit → Env → World → Prop) : Prop :=
  S3 pr Q k (emb3 n_0 out_5 t13 t14) w
def L3 (pr : Prims) (n_0 : Int) (out_5 : Sl) (t13 : Int) (t14 : Int) (w : World) (Q : Exit → Env → World → Prop) : Prop :=
  pr.loop (S3 pr Q) (emb3 n_0 out_5 t13 t14) w
def E (pr : Prims) (n_0 : Int) (k_1 : Int) (w : World) (R : Ending → World → Prop) : Prop :=
  wpC pr PP cfg (DD pr) (codeOf Try.f128) (retQ Try.f128.results.toList R) (argE 0 [vI n_0, vI k_1]) w
theorem B12_eq (pr : Prims) (n_0 : Int) (longer_6 : Sl) (list_8 : Sl) (i_10 : Int) (t13 : Int) (t14 : Int) (t17 : Sl) (t18 : Int) (t19 : Int) (w : World) (k : Env → World → Prop) (Q : Exit → Env → World → Prop) : B12 pr n_0 longer_6 list_8 i_10 t13 t14 t17 t18 t19 w k Q = (
  bif decide (i_10 ≤ n_0) then (
  pr.call1 .sl PP F.slices_Clone___int_int_ #[Sl.v list_8] w fun (ρ20 : Sl) ω21 =>
  pr.sem1 .sl PP (Instr.buildSlice T_Sint 1 #[(0, vI i_10)]) ω21 fun (ρ22 : Sl) ω23 =>
  pr.sem1 .sl PP (Builtin.append_ #[T_Sint, T_Sint] T_Sint #[Sl.v ρ20, Sl.v ρ22]) ω23 fun (ρ24 : Sl) ω25 =>
  pr.sem1 .sl PP (Instr.buildSlice T_SSint 1 #[(0, Sl.v ρ24)]) ω25 fun (ρ26 : Sl) ω27 =>
  pr.sem1 .sl PP (Builtin.append_ #[T_SSint, T_SSint] T_SSint #[Sl.v longer_6, Sl.v ρ26]) ω27 fun (ρ28 : Sl) ω29 =>
  k (emb12 n_0 ρ28 list_8 (w64 (i_10 + 1)) t13 t14 t17 t18 t19) ω29)
  else (
  Q (.exit 4) (x4 n_0 longer_6 t13 t14 t17 t18 t19) w)) := by kernel_rfl
theorem B12_s (n_0 : Int) (longer_6 : Sl) (list_8 : Sl) (i_10 : Int) (t13 : Int) (t14 : Int) (t17 : Sl) (t18 : Int) (t19 : Int) (w : World) (k : Env → World → Prop) (Q : Exit → Env → World → Prop) : B12 std n_0 longer_6 list_8 i_10 t13 t14 t17 t18 t19 w k Q = (
  bif decide (i_10 ≤ n_0) then (
  call1 .sl PP F.slices_Clone___int_int_ #[Sl.v list_8] w fun (ρ20 : Sl) ω21 =>
  sem1 .sl PP (Instr.buildSlice T_Sint 1 #[(0, vI i_10)]) ω21 fun (ρ22 : Sl) ω23 =>
  sem1 .sl PP (Builtin.append_ #[T_Sint, T_Sint] T_Sint #[Sl.v ρ20, Sl.v ρ22]) ω23 fun (ρ24 : Sl) ω25 =>
  sem1 .sl PP (Instr.buildSlice T_SSint 1 #[(0, Sl.v ρ24)]) ω25 fun (ρ26 : Sl) ω27 =>
  sem1 .sl PP (Builtin.append_ #[T_SSint, T_SSint] T_SSint #[Sl.v longer_6, Sl.v ρ26]) ω27 fun (ρ28 : Sl) ω29 =>
  k (emb12 n_0 ρ28 list_8 (w64 (i_10 + 1)) t13 t14 t17 t18 t19) ω29)
  else (
  Q (.exit 4) (x4 n_0 longer_6 t13 t14 t17 t18 t19) w)) := B12_eq std n_0 longer_6 list_8 i_10 t13 t14 t17 t18 t19 w k Q
theorem L12_rule (n_0 : Int) (longer_6 : Sl) (list_8 : Sl) (i_10 : Int) (t13 : Int) (t14 : Int) (t17 : Sl) (t18 : Int) (t19 : Int) (w : World) (Q : Exit → Env → World → Prop) (I : Sl → Int → World → Prop) (μ : Sl → Int → World → Nat) (h0 : I longer_6 i_10 w)
    (h : ∀ (longer_6 : Sl) (i_10 : Int) (w' : World), I longer_6 i_10 w' → B12 std n_0 longer_6 list_8 i_10 t13 t14 t17 t18 t19 w' (fun e2 w2 => ∃ longer_6_n i_10_n, e2 = emb12 n_0 longer_6_n list_8 i_10_n t13 t14 t17 t18 t19 ∧ I longer_6_n i_10_n w2 ∧ μ longer_6_n i_10_n w2 < μ longer_6 i_10 w') Q) :
    L12 std n_0 longer_6 list_8 i_10 t13 t14 t17 t18 t19 w Q := by
  unfold L12
  refine LoopE.intro (σ := Sl × Int) (step := S12 std Q) (fun s => emb12 n_0 s.1 list_8 s.2 t13 t14 t17 t18 t19) (fun s w => I s.1 s.2 w) (fun s w => μ s.1 s.2 w) (longer_6, i_10) rfl h0 ?_
  intro s w' hI
  have h1 := h s.1 s.2 w' hI
  unfold B12 at h1
  simp only [Prod.exists]
  exact h1
theorem A12_4_eq (pr : Prims) (n_0 : Int) (longer_6 : Sl) (t13 : Int) (t14 : Int) (t17 : Sl) (t18 : Int) (t19 : Int) (w : World) (k : Env → World → Prop) (Q : Exit → Env → World → Prop) : (q19 pr k Q) (.exit 4) (x4 n_0 longer_6 t13 t14 t17 t18 t19) w = (
  k (emb6 n_0 longer_6 t13 t14 t17 t18 (w64 (t19 + 1))) w) := by kernel_rfl
theorem A12_4_s (n_0 : Int) (longer_6 : Sl) (t13 : Int) (t14 : Int) (t17 : Sl) (t18 : Int) (t19 : Int) (w : World) (k : Env → World → Prop) (Q : Exit → Env → World → Prop) : (q19 std k Q) (.exit 4) (x4 n_0 longer_6 t13 t14 t17 t18 t19) w = (
  k (emb6 n_0 longer_6 t13 t14 t17 t18 (w64 (t19 + 1))) w) := A12_4_eq std n_0 longer_6 t13 t14 t17 t18 t19 w k Q
theorem J11_gen (pr : Prims) (n_0 : Int) (longer_6 : Sl) (list_8 : Sl) (from_9 : Int) (t13 : Int) (t14 : Int) (t17 : Sl) (t18 : Int) (t19 : Int) (w : World) (k : Env → World → Prop) (Q : Exit → Env → World → Prop) : wpC pr PP cfg (DD pr) (sub (codeOf Try.f128) [1, 1, 0, 1, 0, 0, 1, 1, 0, 0, 1, 0, 1, 0, 0, 1, 1, 0, 0, 1, 1, 1]) (q13 pr k Q) (j11 n_0 longer_6 list_8 from_9 t13 t14 t17 t18 t19) w = (
  L12 pr n_0 longer_6 list_8 from_9 t13 t14 t17 t18 t19 w (q19 pr k Q)) := by kernel_rfl
theorem J11_s (n_0 : Int) (longer_6 : Sl) (list_8 : Sl) (from_9 : Int) (t13 : Int) (t14 : Int) (t17 : Sl) (t18 : Int) (t19 : Int) (w : World) (k : Env → World → Prop) (Q : Exit → Env → World → Prop) : J11 std n_0 longer_6 list_8 from_9 t13 t14 t17 t18 t19 w k Q = (
  L12 std n_0 longer_6 list_8 from_9 t13 t14 t17 t18 t19 w (q19 std k Q)) := J11_gen std n_0 longer_6 list_8 from_9 t13 t14 t17 t18 t19 w k Q
theorem B6_eq (pr : Prims) (n_0 : Int) (longer_6 : Sl) (t13 : Int) (t14 : Int) (t17 : Sl) (t18 : Int) (t19 : Int) (w : World) (k : Env → World → Prop) (Q : Exit → Env → World → Prop) : B6 pr n_0 longer_6 t13 t14 t17 t18 t19 w k Q = (
  bif decide (t19 < t18) then (
  pr.idxK 1 t17 t19 fun (a14 : Addr) =>
  pr.load1 .sl a14 w fun (ξ15 : Sl) =>
  bif decide ((ξ15.n : Int) > 0) then (
  pr.idxK 1 ξ15 (w64 ((ξ15.n : Int) - 1)) fun (a17 : Addr) =>
  pr.load1 (.int .i64) a17 w fun (ξ18 : Int) =>
  J11 pr n_0 longer_6 ξ15 (w64 (ξ18 + 1)) t13 t14 t17 t18 t19 w k Q)
  else (
  J11 pr n_0 longer_6 ξ15 1 t13 t14 t17 t18 t19 w k Q))
  else (
  Q (.exit 2) (x2 n_0 longer_6 t13 t14) w)) := by kernel_rfl
theorem B6_s (n_0 : Int) (longer_6 : Sl) (t13 : Int) (t14 : Int) (t17 : Sl) (t18 : Int) (t19 : Int) (w : World) (k : Env → World → Prop) (Q : Exit → Env → World → Prop) : B6 std n_0 longer_6 t13 t14 t17 t18 t19 w k Q = (
  bif decide (t19 < t18) then (
  idxK 1 t17 t19 fun (a14 : Addr) =>
  load1 .sl a14 w fun (ξ15 : Sl) =>
  bif decide ((ξ15.n : Int) > 0) then (
  idxK 1 ξ15 (w64 ((ξ15.n : Int) - 1)) fun (a17 : Addr) =>
  load1 (.int .i64) a17 w fun (ξ18 : Int) =>
  J11 std n_0 longer_6 ξ15 (w64 (ξ18 + 1)) t13 t14 t17 t18 t19 w k Q)
  else (
  J11 std n_0 longer_6 ξ15 1 t13 t14 t17 t18 t19 w k Q))
  else (
  Q (.exit 2) (x2 n_0 longer_6 t13 t14) w)) := B6_eq std n_0 longer_6 t13 t14 t17 t18 t19 w k Q
theorem L6_rule (n_0 : Int) (longer_6 : Sl) (t13 : Int) (t14 : Int) (t17 : Sl) (t18 : Int) (t19 : Int) (w : World) (Q : Exit → Env → World → Prop) (I : Sl → Int → World → Prop) (μ : Sl → Int → World → Nat) (h0 : I longer_6 t19 w)
    (h : ∀ (longer_6 : Sl) (t19 : Int) (w' : World), I longer_6 t19 w' → B6 std n_0 longer_6 t13 t14 t17 t18 t19 w' (fun e2 w2 => ∃ longer_6_n t19_n, e2 = emb6 n_0 longer_6_n t13 t14 t17 t18 t19_n ∧ I longer_6_n t19_n w2 ∧ μ longer_6_n t19_n w2 < μ longer_6 t19 w') Q) :
    L6 std n_0 longer_6 t13 t14 t17 t18 t19 w Q := by
  unfold L6
  refine LoopE.intro (σ := Sl × Int) (step := S6 std Q) (fun s => emb6 n_0 s.1 t13 t14 t17 t18 s.2) (fun s w => I s.1 s.2 w) (fun s w => μ s.1 s.2 w) (longer_6, t19) rfl h0 ?_
  intro s w' hI
  have h1 := h s.1 s.2 w' hI
  unfold B6 at h1
  simp only [Prod.exists]
  exact h1
theorem A6_2_eq (pr : Prims) (n_0 : Int) (longer_6 : Sl) (t13 : Int) (t14 : Int) (w : World) (k : Env → World → Prop) (Q : Exit → Env → World → Prop) : (q11 pr k Q) (.exit 2) (x2 n_0 longer_6 t13 t14) w = (
  k (emb3 n_0 longer_6 t13 (w64 (t14 + 1))) w) := by kernel_rfl
theorem A6_2_s (n_0 : Int) (longer_6 : Sl) (t13 : Int) (t14 : Int) (w : World) (k : Env → World → Prop) (Q : Exit → Env → World → Prop) : (q11 std k Q) (.exit 2) (x2 n_0 longer_6 t13 t14) w = (
  k (emb3 n_0 longer_6 t13 (w64 (t14 + 1))) w) := A6_2_eq std n_0 longer_6 t13 t14 w k Q
theorem A6_4_eq (pr : Prims) (n_0 : Int) (longer_6 : Sl) (t13 : Int) (t14 : Int) (t17 : Sl) (t18 : Int) (t19 : Int) (w : World) (k : Env → World → Prop) (Q : Exit → Env → World → Prop) : (q11 pr k Q) (.exit 4) (x4 n_0 longer_6 t13 t14 t17 t18 t19) w = (
  Q (.exit 4) (x4 n_0 longer_6 t13 t14 t17 t18 t19) w) := by kernel_rfl
theorem A6_4_s (n_0 : Int) (longer_6 : Sl) (t13 : Int) (t14 : Int) (t17 : Sl) (t18 : Int) (t19 : Int) (w : World) (k : Env → World → Prop) (Q : Exit → Env → World → Prop) : (q11 std k Q) (.exit 4) (x4 n_0 longer_6 t13 t14 t17 t18 t19) w = (
  Q (.exit 4) (x4 n_0 longer_6 t13 t14 t17 t18 t19) w) := A6_4_eq std n_0 longer_6 t13 t14 t17 t18 t19 w k Q
theorem B3_eq (pr : Prims) (n_0 : Int) (out_5 : Sl) (t13 : Int) (t14 : Int) (w : World) (k : Env → World → Prop) (Q : Exit → Env → World → Prop) : B3 pr n_0 out_5 t13 t14 w k Q = (
  bif decide (t14 < t13) then (
  pr.sem1 .sl PP (Instr.buildSlice T_SSint 0 #[]) w fun (ρ8 : Sl) ω9 =>
  L6 pr n_0 ρ8 t13 t14 out_5 (out_5.n : Int) 0 ω9 (q11 pr k Q))
  else (
  Q (.exit 0) (x0 out_5) w)) := by kernel_rfl
theorem B3_s (n_0 : Int) (out_5 : Sl) (t13 : Int) (t14 : Int) (w : World) (k : Env → World → Prop) (Q : Exit → Env → World → Prop) : B3 std n_0 out_5 t13 t14 w k Q = (
  bif decide (t14 < t13) then (
  sem1 .sl PP (Instr.buildSlice T_SSint 0 #[]) w fun (ρ8 : Sl) ω9 =>
  L6 std n_0 ρ8 t13 t14 out_5 (out_5.n : Int) 0 ω9 (q11 std k Q))
  else (
  Q (.exit 0) (x0 out_5) w)) := B3_eq std n_0 out_5 t13 t14 w k Q
theorem L3_rule (n_0 : Int) (out_5 : Sl) (t13 : Int) (t14 : Int) (w : World) (Q : Exit → Env → World → Prop) (I : Sl → Int → World → Prop) (μ : Sl → Int → World → Nat) (h0 : I out_5 t14 w)
    (h : ∀ (out_5 : Sl) (t14 : Int) (w' : World), I out_5 t14 w' → B3 std n_0 out_5 t13 t14 w' (fun e2 w2 => ∃ out_5_n t14_n, e2 = emb3 n_0 out_5_n t13 t14_n ∧ I out_5_n t14_n w2 ∧ μ out_5_n t14_n w2 < μ out_5 t14 w') Q) :
    L3 std n_0 out_5 t13 t14 w Q := by
  unfold L3
  refine LoopE.intro (σ := Sl × Int) (step := S3 std Q) (fun s => emb3 n_0 s.1 t13 s.2) (fun s w => I s.1 s.2 w) (fun s w => μ s.1 s.2 w) (out_5, t14) rfl h0 ?_
  intro s w' hI
  have h1 := h s.1 s.2 w' hI
  unfold B3 at h1
  simp only [Prod.exists]
  exact h1
theorem A3_0_eq (pr : Prims) (out_5 : Sl) (w : World) (R : Ending → World → Prop) : (q5 pr R) (.exit 0) (x0 out_5) w = (
  R (.returned (Sl.v out_5)) w) := by kernel_rfl
theorem A3_0_s (out_5 : Sl) (w : World) (R : Ending → World → Prop) : (q5 std R) (.exit 0) (x0 out_5) w = (
  R (.returned (Sl.v out_5)) w) := A3_0_eq std out_5 w R
theorem E_eq (pr : Prims) (n_0 : Int) (k_1 : Int) (w : World) (R : Ending → World → Prop) : E pr n_0 k_1 w R = (
  pr.sem1 .sl PP (Instr.buildSlice T_Sint 0 #[]) w fun (ρ0 : Sl) ω1 =>
  pr.sem1 .sl PP (Instr.buildSlice T_SSint 1 #[(0, Sl.v ρ0)]) ω1 fun (ρ2 : Sl) ω3 =>
  L3 pr n_0 ρ2 k_1 0 ω3 (q5 pr R)) := by kernel_rfl
theorem E_s (n_0 : Int) (k_1 : Int) (w : World) (R : Ending → World → Prop) : E std n_0 k_1 w R = (
  sem1 .sl PP (Instr.buildSlice T_Sint 0 #[]) w fun (ρ0 : Sl) ω1 =>
  sem1 .sl PP (Instr.buildSlice T_SSint 1 #[(0, Sl.v ρ0)]) ω1 fun (ρ2 : Sl) ω3 =>
  L3 std n_0 ρ2 k_1 0 ω3 (q5 std R)) := E_eq std n_0 k_1 w R
theorem drawsOk : drawsOk PP cfg okD (codeOf Try.f128) = true := by kernel_rfl
theorem calls (n_0 : Int) (k_1 : Int) {w : World} {R : Ending → World → Prop} (h : E std n_0 k_1 w R) : Calls PP F.impl_places #[vI n_0, vI k_1] w R :=
  calls_of noCount mixed drawOk Try.func128 rfl (c := cfg) (args := [vI n_0, vI k_1]) rfl (Nat.le_of_ble_eq_true (by kernel_rfl)) drawsOk h
end impl_places

namespace impl_isOccurrence
@[reducible] def cfg : Cfg := ⟨30, [(3, [0, 1, 7, 11, 12, 13])], [(1, [0, 1, 7, 11, 12, 13]), (0, [1, 7])], [], [6], [], [101, 107, 112, 15, 21, 124, 76, 137, 28, 115, 91, 81, 130], [138, 140, 82, 6, 86, 85, 132]⟩
def q2 (pr : Prims) (R : Ending → World → Prop) : Exit → Env → World → Prop := fun ex e w => normQ ex (fun e w => contE pr cfg (sub (codeOf Try.f129) [1, 1, 1]) (fun e w => wpC pr PP cfg (DD pr) (sub (codeOf Try.f129) [1, 1, 1]) (retQ Try.f129.results.toList R) e w) e w) (retQ Try.f129.results.toList R) e w
def q3 (pr : Prims) (R : Ending → World → Prop) : Exit → Env → World → Prop := fun ex e w => blockQ ex 0 (q2 pr R) e w
def emb3 (p_0 : Sl) (q_1 : Sl) (list_7 : Sl) (t11 : Sl) (t12 : Int) (t13 : Int) : Env := [(0, Sl.v p_0), (1, Sl.v q_1), (7, Sl.v list_7), (11, Sl.v t11), (12, vI t12), (13, vI t13)]
def x0 (q_1 : Sl) (list_7 : Sl) : Env := [(1, Sl.v q_1), (7, Sl.v list_7)]
def S3 (pr : Prims) (Q : Exit → Env → World → Prop) : (Env → World → Prop) → Env → World → Prop := fun k e w => wpC pr PP cfg (DD pr) (sub (codeOf Try.f129) [1, 1, 0, 1, 0, 0]) (fun ex e w => normQ ex (fun e' w' => k (Env.restr e' (lookN cfg.loops (keyOf (sub (codeOf Try.f129) [1, 1, 0, 1, 0, 0])))) w') Q e w) e w
def B3 (pr : Prims) (p_0 : Sl) (q_1 : Sl) (list_7 : Sl) (t11 : Sl) (t12 : Int) (t13 : Int) (w : World) (k : Env → World → Prop) (Q : Exit → Env → World → Prop) : Prop :=
  S3 pr Q k (emb3 p_0 q_1 list_7 t11 t12 t13) w
def L3 (pr : Prims) (p_0 : Sl) (q_1 : Sl) (list_7 : Sl) (t11 : Sl) (t12 : Int) (t13 : Int) (w : World) (Q : Exit → Env → World → Prop) : Prop :=
  pr.loop (S3 pr Q) (emb3 p_0 q_1 list_7 t11 t12 t13) w
def E (pr : Prims) (p_0 : Sl) (q_1 : Sl) (places_2 : Sl) (w : World) (R : Ending → World → Prop) : Prop :=
  wpC pr PP cfg (DD pr) (codeOf Try.f129) (retQ Try.f129.results.toList R) (argE 0 [Sl.v p_0, Sl.v q_1, Sl.v places_2]) w
theorem B3_eq (pr : Prims) (p_0 : Sl) (q_1 : Sl) (list_7 : Sl) (t11 : Sl) (t12 : Int) (t13 : Int) (w : World) (k : Env → World → Prop) (Q : Exit → Env → World → Prop) : B3 pr p_0 q_1 list_7 t11 t12 t13 w k Q = (
  bif decide (t13 < t12) then (
  pr.idxK 1 t11 t13 fun (a4 : Addr) =>
  pr.load1 (.int .i64) a4 w fun (ξ5 : Int) =>
  pr.idxK 1 p_0 (w64 (ξ5 - 1)) fun (a6 : Addr) =>
  pr.load1 (.int .i64) a6 w fun (ξ7 : Int) =>
  pr.sem1 .sl PP (Instr.buildSlice T_Sint 1 #[(0, vI ξ7)]) w fun (ρ8 : Sl) ω9 =>
  pr.sem1 .sl PP (Builtin.append_ #[T_Sint, T_Sint] T_Sint #[Sl.v list_7, Sl.v ρ8]) ω9 fun (ρ10 : Sl) ω11 =>
  k (emb3 p_0 q_1 ρ10 t11 t12 (w64 (t13 + 1))) ω11)
  else (
  Q (.exit 0) (x0 q_1 list_7) w)) := by kernel_rfl
theorem B3_s (p_0 : Sl) (q_1 : Sl) (list_7 : Sl) (t11 : Sl) (t12 : Int) (t13 : Int) (w : World) (k : Env → World → Prop) (Q : Exit → Env → World → Prop) : B3 std p_0 q_1 list_7 t11 t12 t13 w k Q = (
  bif decide (t13 < t12) then (
  idxK 1 t11 t13 fun (a4 : Addr) =>
  load1 (.int .i64) a4 w fun (ξ5 : Int) =>
  idxK 1 p_0 (w64 (ξ5 - 1)) fun (a6 : Addr) =>
  load1 (.int .i64) a6 w fun (ξ7 : Int) =>
  sem1 .sl PP (Instr.buildSlice T_Sint 1 #[(0, vI ξ7)]) w fun (ρ8 : Sl) ω9 =>
  sem1 .sl PP (Builtin.append_ #[T_Sint, T_Sint] T_Sint #[Sl.v list_7, Sl.v ρ8]) ω9 fun (ρ10 : Sl) ω11 =>
  k (emb3 p_0 q_1 ρ10 t11 t12 (w64 (t13 + 1))) ω11)
  else (
  Q (.exit 0) (x0 q_1 list_7) w)) := B3_eq std p_0 q_1 list_7 t11 t12 t13 w k Q
theorem L3_rule (p_0 : Sl) (q_1 : Sl) (list_7 : Sl) (t11 : Sl) (t12 : Int) (t13 : Int) (w : World) (Q : Exit → Env → World → Prop) (I : Sl → Int → World → Prop) (μ : Sl → Int → World → Nat) (h0 : I list_7 t13 w)
    (h : ∀ (list_7 : Sl) (t13 : Int) (w' : World), I list_7 t13 w' → B3 std p_0 q_1 list_7 t11 t12 t13 w' (fun e2 w2 => ∃ list_7_n t13_n, e2 = emb3 p_0 q_1 list_7_n t11 t12 t13_n ∧ I list_7_n t13_n w2 ∧ μ list_7_n t13_n w2 < μ list_7 t13 w') Q) :
    L3 std p_0 q_1 list_7 t11 t12 t13 w Q := by
  unfold L3
  refine LoopE.intro (σ := Sl × Int) (step := S3 std Q) (fun s => emb3 p_0 q_1 s.1 t11 t12 s.2) (fun s w => I s.1 s.2 w) (fun s w => μ s.1 s.2 w) (list_7, t13) rfl h0 ?_
  intro s w' hI
  have h1 := h s.1 s.2 w' hI
  unfold B3 at h1
  simp only [Prod.exists]
  exact h1
theorem A3_0_eq (pr : Prims) (q_1 : Sl) (list_7 : Sl) (w : World) (R : Ending → World → Prop) : (q3 pr R) (.exit 0) (x0 q_1 list_7) w = (
  pr.call1 .sl PP F.impl_pattern #[Sl.v list_7] w fun (ρ12 : Sl) ω13 =>
  pr.call1 .bool PP F.slices_Equal___int_int_ #[Sl.v ρ12, Sl.v q_1] ω13 fun (ρ14 : Bool) ω15 =>
  R (.returned (.bool ρ14)) ω15) := by kernel_rfl
theorem A3_0_s (q_1 : Sl) (list_7 : Sl) (w : World) (R : Ending → World → Prop) : (q3 std R) (.exit 0) (x0 q_1 list_7) w = (
  call1 .sl PP F.impl_pattern #[Sl.v list_7] w fun (ρ12 : Sl) ω13 =>
  call1 .bool PP F.slices_Equal___int_int_ #[Sl.v ρ12, Sl.v q_1] ω13 fun (ρ14 : Bool) ω15 =>
  R (.returned (.bool ρ14)) ω15) := A3_0_eq std q_1 list_7 w R
theorem E_eq (pr : Prims) (p_0 : Sl) (q_1 : Sl) (places_2 : Sl) (w : World) (R : Ending → World → Prop) : E pr p_0 q_1 places_2 w R = (
  pr.sem1 .sl PP (Instr.buildSlice T_Sint 0 #[]) w fun (ρ0 : Sl) ω1 =>
  L3 pr p_0 q_1 ρ0 places_2 (places_2.n : Int) 0 ω1 (q3 pr R)) := by kernel_rfl
theorem E_s (p_0 : Sl) (q_1 : Sl) (places_2 : Sl) (w : World) (R : Ending → World → Prop) : E std p_0 q_1 places_2 w R = (
  sem1 .sl PP (Instr.buildSlice T_Sint 0 #[]) w fun (ρ0 : Sl) ω1 =>
  L3 std p_0 q_1 ρ0 places_2 (places_2.n : Int) 0 ω1 (q3 std R)) := E_eq std p_0 q_1 places_2 w R
theorem drawsOk : drawsOk PP cfg okD (codeOf Try.f129) = true := by kernel_rfl
theorem calls (p_0 : Sl) (q_1 : Sl) (places_2 : Sl) {w : World} {R : Ending → World → Prop} (h : E std p_0 q_1 places_2 w R) : Calls PP F.impl_isOccurrence #[Sl.v p_0, Sl.v q_1, Sl.v places_2] w R :=
  calls_of noCount mixed drawOk Try.func129 rfl (c := cfg) (args := [Sl.v p_0, Sl.v q_1, Sl.v places_2]) rfl (Nat.le_of_ble_eq_true (by kernel_rfl)) drawsOk h
end impl_isOccurrence

namespace impl_pattern
@[reducible] def cfg : Cfg := ⟨34, [(7, [0, 3, 5, 6, 10, 11, 12, 16, 17, 18]), (3, [0, 3, 10, 11, 12])], [(3, [0, 3, 5, 6, 10, 11, 12, 16, 17, 18]), (2, [0, 3, 6, 10, 11, 12]), (1, [0, 3, 10, 11, 12]), (0, [3])], [], [2], [], [101, 107, 112, 15, 21, 124, 76, 137, 28, 115, 91, 81, 130], [138, 140, 82, 6, 86, 85, 132]⟩
def q2 (pr : Prims) (R : Ending → World → Prop) : Exit → Env → World → Prop := fun ex e w => normQ ex (fun e w => contE pr cfg (sub (codeOf Try.f139) [1, 1, 1]) (fun e w => wpC pr PP cfg (DD pr) (sub (codeOf Try.f139) [1, 1, 1]) (retQ Try.f139.results.toList R) e w) e w) (retQ Try.f139.results.toList R) e w
def q3 (pr : Prims) (R : Ending → World → Prop) : Exit → Env → World → Prop := fun ex e w => blockQ ex 0 (q2 pr R) e w
def q4 (pr : Prims) (k : Env → World → Prop) (Q : Exit → Env → World → Prop) : Exit → Env → World → Prop := fun ex e w => normQ ex (fun e w => contE pr cfg (sub (codeOf Try.f139) [1, 1, 0, 1, 0, 0, 1, 1, 1]) (fun e w => wpC pr PP cfg (DD pr) (sub (codeOf Try.f139) [1, 1, 0, 1, 0, 0, 1, 1, 1]) (fun ex e w => normQ ex (fun e' w' => k (Env.restr e' (lookN cfg.loops (keyOf (sub (codeOf Try.f139) [1, 1, 0, 1, 0, 0])))) w') Q e w) e w) e w) (fun ex e w => normQ ex (fun e' w' => k (Env.restr e' (lookN cfg.loops (keyOf (sub (codeOf Try.f139) [1, 1, 0, 1, 0, 0])))) w') Q e w) e w
def q5 (pr : Prims) (k : Env → World → Prop) (Q : Exit → Env → World → Prop) : Exit → Env → World → Prop := fun ex e w => blockQ ex 1 (q4 pr k Q) e w
def q8 (pr : Prims) (k : Env → World → Prop) (Q : Exit → Env → World → Prop) : Exit → Env → World → Prop := fun ex e w => normQ ex (fun e w => contE pr cfg (sub (codeOf Try.f139) [1, 1, 0, 1, 0, 0, 1, 1, 0, 0, 1, 1, 1]) (fun e w => wpC pr PP cfg (DD pr) (sub (codeOf Try.f139) [1, 1, 0, 1, 0, 0, 1, 1, 0, 0, 1, 1, 1]) (q5 pr k Q) e w) e w) (q5 pr k Q) e w
def q9 (pr : Prims) (k : Env → World → Prop) (Q : Exit → Env → World → Prop) : Exit → Env → World → Prop := fun ex e w => blockQ ex 2 (q8 pr k Q) e w
def emb3 (list_0 : Sl) (out_3 : Sl) (t10 : Sl) (t11 : Int) (t12 : Int) : Env := [(0, Sl.v list_0), (3, Sl.v out_3), (10, Sl.v t10), (11, vI t11), (12, vI t12)]
def emb7 (list_0 : Sl) (out_3 : Sl) (x_5 : Int) (v_6 : Int) (t10 : Sl) (t11 : Int) (t12 : Int) (t16 : Sl) (t17 : Int) (t18 : Int) : Env := [(0, Sl.v list_0), (3, Sl.v out_3), (5, vI x_5), (6, vI v_6), (10, Sl.v t10), (11, vI t11), (12, vI t12), (16, Sl.v t16), (17, vI t17), (18, vI t18)]
def x2 (list_0 : Sl) (out_3 : Sl) (v_6 : Int) (t10 : Sl) (t11 : Int) (t12 : Int) : Env := [(0, Sl.v list_0), (3, Sl.v out_3), (6, vI v_6), (10, Sl.v t10), (11, vI t11), (12, vI t12)]
def x0 (out_3 : Sl) : Env := [(3, Sl.v out_3)]
def S7 (pr : Prims) (Q : Exit → Env → World → Prop) : (Env → World → Prop) → Env → World → Prop := fun k e w => wpC pr PP cfg (DD pr) (sub (codeOf Try.f139) [1, 1, 0, 1, 0, 0, 1, 1, 0, 0, 1, 1, 0, 1, 0, 0]) (fun ex e w => normQ ex (fun e' w' => k (Env.restr e' (lookN cfg.loops (keyOf (sub (codeOf Try.f139) [1, 1, 0, 1, 0, 0, 1, 1, 0, 0, 1, 1, 0, 1, 0, 0])))) w') Q e w) e w
def S3 (pr : Prims) (Q : Exit → Env → World → Prop) : (Env → World → Prop) → Env → World → Prop := fun k e w => wpC pr PP cfg (DD pr) (sub (codeOf Try.f139) [1, 1, 0, 1, 0, 0]) (fun ex e w => normQ ex (fun e' w' => k (Env.restr e' (lookN cfg.loops (keyOf (sub (codeOf Try.f139) [1, 1, 0, 1, 0, 0])))) w') Q e w) e w
def B7 (pr : Prims) (list_0 : Sl) (out_3 : Sl) (x_5 : Int) (v_6 : Int) (t10 : Sl) (t11 : Int) (t12 : Int) (t16 : Sl) (t17 : Int) (t18 : Int) (w : World) (k : Env → World → Prop) (Q : Exit → Env → World → Prop) : Prop :=
  S7 pr Q k (emb7 list_0 out_3 x_5 v_6 t10 t11 t12 t16 t17 t18) w
def L7 (pr : Prims) (list_0 : Sl) (out_3 : Sl) (x_5 : Int) (v_6 : Int) (t10 : Sl) (t11 : Int) (t12 : Int) (t16 : Sl) (t17 : Int) (t18 : Int) (w : World) (Q : Exit → Env → World → Prop) : Prop :=
  pr.loop (S7 pr Q) (emb7 list_0 out_3 x_5 v_6 t10 t11 t12 t16 t17 t18) w
def B3 (pr : Prims) (list_0 : Sl) (out_3 : Sl) (t10 : Sl) (t11 : Int) (t12 : Int) (w : World) (k : Env → World → Prop) (Q : Exit → Env → World → Prop) : Prop :=
  S3 pr Q k (emb3 list_0 out_3 t10 t11 t12) w
def L3 (pr : Prims) (list_0 : Sl) (out_3 : Sl) (t10 : Sl) (t11 : Int) (t12 : Int) (w : World) (Q : Exit → Env → World → Prop) : Prop :=
  pr.loop (S3 pr Q) (emb3 list_0 out_3 t10 t11 t12) w
def E (pr : Prims) (list_0 : Sl) (w : World) (R : Ending → World → Prop) : Prop :=
  wpC pr PP cfg (DD pr) (codeOf Try.f139) (retQ Try.f139.results.toList R) (argE 0 [Sl.v list_0]) w
theorem B7_eq (pr : Prims) (list_0 : Sl) (out_3 : Sl) (x_5 : Int) (v_6 : Int) (t10 : Sl) (t11 : Int) (t12 : Int) (t16 : Sl) (t17 : Int) (t18 : Int) (w : World) (k : Env → World → Prop) (Q : Exit → Env → World → Prop) : B7 pr list_0 out_3 x_5 v_6 t10 t11 t12 t16 t17 t18 w k Q = (
  bif decide (t18 < t17) then (
  pr.idxK 1 t16 t18 fun (a10 : Addr) =>
  pr.load1 (.int .i64) a10 w fun (ξ11 : Int) =>
  bif decide (ξ11 < x_5) then (
  k (emb7 list_0 out_3 x_5 (w64 (v_6 + 1)) t10 t11 t12 t16 t17 (w64 (t18 + 1))) w)
  else (
  k (emb7 list_0 out_3 x_5 v_6 t10 t11 t12 t16 t17 (w64 (t18 + 1))) w))
  else (
  Q (.exit 2) (x2 list_0 out_3 v_6 t10 t11 t12) w)) := by kernel_rfl
theorem B7_s (list_0 : Sl) (out_3 : Sl) (x_5 : Int) (v_6 : Int) (t10 : Sl) (t11 : Int) (t12 : Int) (t16 : Sl) (t17 : Int) (t18 : Int) (w : World) (k : Env → World → Prop) (Q : Exit → Env → World → Prop) : B7 std list_0 out_3 x_5 v_6 t10 t11 t12 t16 t17 t18 w k Q = (
  bif decide (t18 < t17) then (
  idxK 1 t16 t18 fun (a10 : Addr) =>
  load1 (.int .i64) a10 w fun (ξ11 : Int) =>
  bif decide (ξ11 < x_5) then (
  k (emb7 list_0 out_3 x_5 (w64 (v_6 + 1)) t10 t11 t12 t16 t17 (w64 (t18 + 1))) w)
  else (
  k (emb7 list_0 out_3 x_5 v_6 t10 t11 t12 t16 t17 (w64 (t18 + 1))) w))
  else (
  Q (.exit 2) (x2 list_0 out_3 v_6 t10 t11 t12) w)) := B7_eq std list_0 out_3 x_5 v_6 t10 t11 t12 t16 t17 t18 w k Q
theorem L7_rule (list_0 : Sl) (out_3 : Sl) (x_5 : Int) (v_6 : Int) (t10 : Sl) (t11 : Int) (t12 : Int) (t16 : Sl) (t17 : Int) (t18 : Int) (w : World) (Q : Exit → Env → World → Prop) (I : Int → Int → World → Prop) (μ : Int → Int → World → Nat) (h0 : I v_6 t18 w)
    (h : ∀ (v_6 : Int) (t18 : Int) (w' : World), I v_6 t18 w' → B7 std list_0 out_3 x_5 v_6 t10 t11 t12 t16 t17 t18 w' (fun e2 w2 => ∃ v_6_n t18_n, e2 = emb7 list_0 out_3 x_5 v_6_n t10 t11 t12 t16 t17 t18_n ∧ I v_6_n t18_n w2 ∧ μ v_6_n t18_n w2 < μ v_6 t18 w') Q) :
    L7 std list_0 out_3 x_5 v_6 t10 t11 t12 t16 t17 t18 w Q := by
  unfold L7
  refine LoopE.intro (σ := Int × Int) (step := S7 std Q) (fun s => emb7 list_0 out_3 x_5 s.1 t10 t11 t12 t16 t17 s.2) (fun s w => I s.1 s.2 w) (fun s w => μ s.1 s.2 w) (v_6, t18) rfl h0 ?_
  intro s w' hI
  have h1 := h s.1 s.2 w' hI
  unfold B7 at h1
  simp only [Prod.exists]
  exact h1
theorem A7_2_eq (pr : Prims) (list_0 : Sl) (out_3 : Sl) (v_6 : Int) (t10 : Sl) (t11 : Int) (t12 : Int) (w : World) (k : Env → World → Prop) (Q : Exit → Env → World → Prop) : (q9 pr k Q) (.exit 2) (x2 list_0 out_3 v_6 t10 t11 t12) w = (
  pr.sem1 .sl PP (Instr.buildSlice T_Sint 1 #[(0, vI v_6)]) w fun (ρ12 : Sl) ω13 =>
  pr.sem1 .sl PP (Builtin.append_ #[T_Sint, T_Sint] T_Sint #[Sl.v out_3, Sl.v ρ12]) ω13 fun (ρ14 : Sl) ω15 =>
  k (emb3 list_0 ρ14 t10 t11 (w64 (t12 + 1))) ω15) := by kernel_rfl
theorem A7_2_s (list_0 : Sl) (out_3 : Sl) (v_6 : Int) (t10 : Sl) (t11 : Int) (t12 : Int) (w : World) (k : Env → World → Prop) (Q : Exit → Env → World → Prop) : (q9 std k Q) (.exit 2) (x2 list_0 out_3 v_6 t10 t11 t12) w = (
  sem1 .sl PP (Instr.buildSlice T_Sint 1 #[(0, vI v_6)]) w fun (ρ12 : Sl) ω13 =>
  sem1 .sl PP (Builtin.append_ #[T_Sint, T_Sint] T_Sint #[Sl.v out_3, Sl.v ρ12]) ω13 fun (ρ14 : Sl) ω15 =>
  k (emb3 list_0 ρ14 t10 t11 (w64 (t12 + 1))) ω15) := A7_2_eq std list_0 out_3 v_6 t10 t11 t12 w k Q
theorem B3_eq (pr : Prims) (list_0 : Sl) (out_3 : Sl) (t10 : Sl) (t11 : Int) (t12 : Int) (w : World) (k : Env → World → Prop) (Q : Exit → Env → World → Prop) : B3 pr list_0 out_3 t10 t11 t12 w k Q = (
  bif decide (t12 < t11) then (
  pr.idxK 1 t10 t12 fun (a6 : Addr) =>
  pr.load1 (.int .i64) a6 w fun (ξ7 : Int) =>
  L7 pr list_0 out_3 ξ7 1 t10 t11 t12 list_0 (list_0.n : Int) 0 w (q9 pr k Q))
  else (
  Q (.exit 0) (x0 out_3) w)) := by kernel_rfl
theorem B3_s (list_0 : Sl) (out_3 : Sl) (t10 : Sl) (t11 : Int) (t12 : Int) (w : World) (k : Env → World → Prop) (Q : Exit → Env → World → Prop) : B3 std list_0 out_3 t10 t11 t12 w k Q = (
  bif decide (t12 < t11) then (
  idxK 1 t10 t12 fun (a6 : Addr) =>
  load1 (.int .i64) a6 w fun (ξ7 : Int) =>
  L7 std list_0 out_3 ξ7 1 t10 t11 t12 list_0 (list_0.n : Int) 0 w (q9 std k Q))
  else (
  Q (.exit 0) (x0 out_3) w)) := B3_eq std list_0 out_3 t10 t11 t12 w k Q
theorem L3_rule (list_0 : Sl) (out_3 : Sl) (t10 : Sl) (t11 : Int) (t12 : Int) (w : World) (Q : Exit → Env → World → Prop) (I : Sl → Int → World → Prop) (μ : Sl → Int → World → Nat) (h0 : I out_3 t12 w)
    (h : ∀ (out_3 : Sl) (t12 : Int) (w' : World), I out_3 t12 w' → B3 std list_0 out_3 t10 t11 t12 w' (fun e2 w2 => ∃ out_3_n t12_n, e2 = emb3 list_0 out_3_n t10 t11 t12_n ∧ I out_3_n t12_n w2 ∧ μ out_3_n t12_n w2 < μ out_3 t12 w') Q) :
    L3 std list_0 out_3 t10 t11 t12 w Q := by
  unfold L3
  refine LoopE.intro (σ := Sl × Int) (step := S3 std Q) (fun s => emb3 list_0 s.1 t10 t11 s.2) (fun s w => I s.1 s.2 w) (fun s w => μ s.1 s.2 w) (out_3, t12) rfl h0 ?_
  intro s w' hI
  have h1 := h s.1 s.2 w' hI
  unfold B3 at h1
  simp only [Prod.exists]
  exact h1
theorem A3_0_eq (pr : Prims) (out_3 : Sl) (w : World) (R : Ending → World → Prop) : (q3 pr R) (.exit 0) (x0 out_3) w = (
  R (.returned (Sl.v out_3)) w) := by kernel_rfl
theorem A3_0_s (out_3 : Sl) (w : World) (R : Ending → World → Prop) : (q3 std R) (.exit 0) (x0 out_3) w = (
  R (.returned (Sl.v out_3)) w) := A3_0_eq std out_3 w R
theorem E_eq (pr : Prims) (list_0 : Sl) (w : World) (R : Ending → World → Prop) : E pr list_0 w R = (
  pr.sem1 .sl PP (Instr.buildSlice T_Sint 0 #[]) w fun (ρ0 : Sl) ω1 =>
  L3 pr list_0 ρ0 list_0 (list_0.n : Int) 0 ω1 (q3 pr R)) := by kernel_rfl
theorem E_s (list_0 : Sl) (w : World) (R : Ending → World → Prop) : E std list_0 w R = (
  sem1 .sl PP (Instr.buildSlice T_Sint 0 #[]) w fun (ρ0 : Sl) ω1 =>
  L3 std list_0 ρ0 list_0 (list_0.n : Int) 0 ω1 (q3 std R)) := E_eq std list_0 w R
theorem drawsOk : drawsOk PP cfg okD (codeOf Try.f139) = true := by kernel_rfl
theorem calls (list_0 : Sl) {w : World} {R : Ending → World → Prop} (h : E std list_0 w R) : Calls PP F.impl_pattern #[Sl.v list_0] w R :=
  calls_of noCount mixed drawOk Try.func139 rfl (c := cfg) (args := [Sl.v list_0]) rfl (Nat.le_of_ble_eq_true (by kernel_rfl)) drawsOk h
end impl_pattern

end Go.Proofs.Ytdchjhhpbdekeaa

/- Function values with one bool result; new variables. -/
namespace Go.Proofs.Ytdchjhhpbdekeaa
open Go Go.RowKit
set_option maxRecDepth 100000

/-- A function value that answers b, and adds to memory at most. -/
def FnB (w0 : World) (f : Value) (args : List Value) (b : Bool) : Prop := ∀ w, Below w0.heap.size w0 w → ∃ g first cap, f = .func (.func g) first cap ∧ bodied PP g = true ∧ Calls PP g ((first ++ args.toArray) ++ cap) w fun e w' => e = .returned (.bool b) ∧ Below w.heap.size w w'
theorem FnB.callV1 {w0 f args b} (h : FnB w0 f args b) {w : World} (hb : Below w0.heap.size w0 w) {K : Bool → World → Prop} (hk : ∀ w', Below w.heap.size w w' → K b w') : callV1 .bool PP f args w K := by
  obtain ⟨g, first, cap, hf, hbd, hc⟩ := h w hb
  exact ⟨g, first, cap, hf, hbd, hc.mono fun e w' ⟨he, hb⟩ => ⟨b, he, hk w' hb⟩⟩
theorem FnB.grow {w0 f args b} (h : FnB w0 f args b) {w : World} (hb : Below w0.heap.size w0 w) : FnB w f args b := fun w' hb' => h w' (hb.trans (hb'.mono hb.size))
theorem cell_grow {w w' : World} {a : Addr} {v : Value} (h : w.cell? a = some v) (hb : Below w.heap.size w w') : w'.cell? a = some v := by
  rw [hb.cell (World.block_lt_of_cell? w _ h)]; exact h
theorem new_one {t : TypeId} {v : Value} {w : World} {K : Addr → World → Prop} (h : ∀ ad w', w'.cell? ad = some v → Below w.heap.size w w' → K ad w') : newK t #[v] w K := by
  refine h ⟨w.heap.size, 0, none⟩ (w.alloc (.cells #[v] t)) ?_ (below_of_grow (World.grownBy_alloc w _ none))
  have := cell_of_row (w.alloc (.cells #[v] t)) w.heap.size 0 #[v] t (0, 0) (heap_alloc_new w _)
  rw [this]; rfl
/-- A new variable, set at once. -/
theorem new_set {t : TypeId} {u v : Value} {w : World} {K : Addr → World → Prop} (h : ∀ ad w', w'.cell? ad = some v → Below w.heap.size w w' → K ad w') : newK t #[u] w fun ad w1 => storeC ad v w1 (K ad) := by
  have hnew := heap_alloc_new w (.cells #[u] t)
  have hc : (w.alloc (.cells #[u] t)).cell? ⟨w.heap.size, 0, none⟩ = some u := by
    have := cell_of_row (w.alloc (.cells #[u] t)) w.heap.size 0 #[u] t (0, 0) hnew
    rw [this]; rfl
  refine ⟨⟨u, hc⟩, by simp only [World.frozen?, hnew]; rfl, h _ _ ?_ ?_⟩
  · have h1 : ((w.alloc (.cells #[u] t)).setCell ⟨w.heap.size, 0, none⟩ v).heap[w.heap.size]? = some (.cells (#[u].setIfInBounds 0 v) t (0, 0)) := by
      simp only [World.setCell, Array.getElem?_modify, hnew]; rfl
    have := cell_of_row _ w.heap.size 0 _ t (0, 0) h1
    rw [this]; rfl
  · have hb := below_of_grow (World.grownBy_alloc w (.cells #[u] t) none)
    refine ⟨hb.os, hb.tape, hb.output, by simp [World.setCell], fun k hk => ?_⟩
    rw [Below.heap_setCell _ _ _ _ (by simp; omega)]
    exact hb.block k hk
def idxF {α : Type} (φ : α → Bool) (l : List α) : Int := if l.findIdx φ < l.length then (l.findIdx φ : Int) else -1
theorem idxF_nonneg {α : Type} {φ : α → Bool} {l : List α} : decide (idxF φ l ≥ 0) = l.any φ := by
  unfold idxF
  split
  · rename_i h
    rw [List.findIdx_lt_length] at h
    obtain ⟨x, h1, h2⟩ := h
    rw [List.any_eq_true.2 ⟨x, h1, h2⟩, decide_eq_true (by omega)]
  · rename_i h
    rw [List.findIdx_lt_length] at h
    rw [decide_eq_false (by omega)]
    symm
    rw [List.any_eq_false]
    intro x hx hp
    exact h ⟨x, hx, hp⟩
theorem idxF_at {α : Type} {φ : α → Bool} {l : List α} {i : Nat} (hi : i < l.length) (h1 : φ l[i] = true) (h2 : ∀ j (hj : j < i), φ (l[j]'(by omega)) = false) : idxF φ l = i := by
  have : l.findIdx φ = i := by rw [List.findIdx_eq hi]; exact ⟨h1, h2⟩
  rw [idxF, this, if_pos hi]
theorem idxF_none {α : Type} {φ : α → Bool} {l : List α} (h : ∀ j (hj : j < l.length), φ l[j] = false) : idxF φ l = -1 := by
  rw [idxF, if_neg]
  intro h5
  rw [List.findIdx_lt_length] at h5
  obtain ⟨x, h6, h7⟩ := h5
  obtain ⟨i, hi, rfl⟩ := List.getElem_of_mem h6
  rw [h i hi] at h7; cases h7
end Go.Proofs.Ytdchjhhpbdekeaa

/- Places, patterns and occurrences: the program's text. -/
namespace Go.Proofs.Ytdchjhhpbdekeaa
open Go Go.RowKit
set_option maxRecDepth 100000

theorem seqI_take {a i : Int} (h : a ≤ i) : seqI a (i + 1 - a).toNat = seqI a (i - a).toNat ++ [i] := by
  rw [show (i + 1 - a).toNat = (i - a).toNat + 1 by omega, seqI_succ, show a + ((i - a).toNat : Int) = i by omega]
theorem c_places {w : World} (n k0 : Nat) (hn : n ≤ 8) (hk0 : k0 ≤ 8) :
    Calls PP F.impl_places #[vI n, vI k0] w fun e w' => ∃ s : Sl, e = .returned s.v ∧ OwnSS w' w.heap.size s (plN n k0) ∧ Below w.heap.size w w' := by
  refine impl_places.calls n k0 ?_
  rw [impl_places.E_s]
  refine lit0 oneInt (B := w.heap.size) (Nat.le_refl _) ?_
  intro s0 w1 h0 hg1 hc1
  have hb1 := below_of_grow hg1
  refine lit1 oneSint (B := w.heap.size) hb1.size (One.sl s0) ?_
  intro t0 w2 ht0 hg2 hn2
  have hb2 := hb1.grown hg2 hb1.size (by simp)
  have hst : OwnSS w2 w.heap.size t0 (plN n 0) := by
    refine ⟨[s0], ht0, rfl, fun i r L e1 e2 => ?_, fun i j r t hij e1 e2 => ?_⟩
    · cases i with
      | zero => simp [plN] at e1 e2; subst e1 e2; exact h0.kept hg2 (fun _ _ => by simp)
      | succ i => simp at e1
    · cases i with
      | zero => cases j with
        | zero => exact absurd rfl hij
        | succ j => simp at e2
      | succ i => simp at e1
  have h88 : ∀ k, k ≤ 8 → (plN n k).length ≤ 8 ^ 8 := fun k hk =>
    Nat.le_trans (plN_len n k) (Nat.le_trans (Nat.pow_le_pow_left hn k) (Nat.pow_le_pow_right (by omega) hk))
  refine impl_places.L3_rule _ _ _ _ _ _ (I := fun out k w' => 0 ≤ k ∧ k ≤ k0 ∧ OwnSS w' w.heap.size out (plN n k.toNat) ∧ Below w.heap.size w w') (μ := fun _ k _ => (k0 - k).toNat) ⟨by omega, by omega, hst, hb2⟩ ?_
  rintro out k w' ⟨hk0', hk, ho, hb⟩
  rw [impl_places.B3_s]
  refine bif_dec (fun h3 => ?_) (fun h3 => ?_)
  · refine lit0 oneSint (B := w'.heap.size) (Nat.le_refl _) ?_
    intro l0 w3 hl0 hg3 _
    have hb3 := below_of_grow hg3
    have hon := ho.row.n
    have hkn := h88 k.toNat (by omega)
    rw [hon]
    refine impl_places.L6_rule _ _ _ _ _ _ _ _ _ (I := fun lo i w4 => 0 ≤ i ∧ i ≤ (plN n k.toNat).length ∧ OwnSS w4 w'.heap.size lo (((plN n k.toNat).take i.toNat).flatMap (plExt n)) ∧ Below w'.heap.size w' w4) (μ := fun _ i _ => ((plN n k.toNat).length - i).toNat)
      ⟨by omega, by omega, OwnSS.nil hl0, hb3⟩ ?_
    rintro lo i w4 ⟨hi0, hi, hlo, hb4⟩
    rw [impl_places.B6_s]
    refine bif_dec (fun h5 => ?_) (fun h5 => ?_)
    · have hlt : i.toNat < (plN n k.toNat).length := by omega
      refine RowSS.getB ho.row hb4 hi0 (by omega) fun r hr => ?_
      rw [getD_SS hlt] at hr
      have hmem := List.getElem_mem hlt
      generalize hpe : (plN n k.toNat)[i.toNat] = p at hr hmem
      obtain ⟨hplen, hpb⟩ := plN_facts n k.toNat p hmem
      have hlb := lastD_bd hpb
      have hrn : r.n = p.length := by have := hr.n; simpa using this
      have hcnt : (((plN n k.toNat).take i.toNat).flatMap (plExt n)).length ≤ 8 ^ 8 * 8 := by
        refine Nat.le_trans (length_flatMap_le _ _ 8 (fun x hx => Nat.le_trans (plExt_len (plN_facts n k.toNat x (List.mem_of_mem_take hx)).2) hn)) (Nat.mul_le_mul_right _ ?_)
        rw [List.length_take]; omega
      -- behind the choice of the first place
      have fin : impl_places.J11 std n lo r (lastD p + 1) k0 k out (plN n k.toNat).length i w4 (fun e2 w2 => ∃ lo_n i_n, e2 = impl_places.emb6 n lo_n k0 k out (plN n k.toNat).length i_n ∧ (0 ≤ i_n ∧ i_n ≤ (plN n k.toNat).length ∧ OwnSS w2 w'.heap.size lo_n (((plN n k.toNat).take i_n.toNat).flatMap (plExt n)) ∧ Below w'.heap.size w' w2) ∧ (((plN n k.toNat).length : Int) - i_n).toNat < (((plN n k.toNat).length : Int) - i).toNat) (impl_places.q11 std (fun e2 w2 => ∃ out_n k_n, e2 = impl_places.emb3 n out_n k0 k_n ∧ (0 ≤ k_n ∧ k_n ≤ k0 ∧ OwnSS w2 w.heap.size out_n (plN n k_n.toNat) ∧ Below w.heap.size w w2) ∧ ((k0 : Int) - k_n).toNat < ((k0 : Int) - k).toNat) (impl_places.q5 std fun e w' => ∃ s : Sl, e = .returned s.v ∧ OwnSS w' w.heap.size s (plN n k0) ∧ Below w.heap.size w w')) := by
        rw [impl_places.J11_s]
        refine impl_places.L12_rule _ _ _ _ _ _ _ _ _ _ _ (I := fun lo2 x w5 => lastD p + 1 ≤ x ∧ x ≤ n + 1 ∧ OwnSS w5 w'.heap.size lo2 (((plN n k.toNat).take i.toNat).flatMap (plExt n) ++ (seqI (lastD p + 1) (x - (lastD p + 1)).toNat).map fun x => p ++ [x]) ∧ Below w'.heap.size w' w5) (μ := fun _ x _ => (n + 1 - x).toNat)
          ⟨by omega, by omega, by simpa [seqI] using hlo, hb4⟩ ?_
        rintro lo2 x w5 ⟨hx1, hx, hlo2, hb5⟩
        rw [impl_places.B12_s]
        refine bif_dec (fun h6 => ?_) (fun h6 => ?_)
        · refine (c_Clone (hr.grow hb5) (by omega)).mono ?_
          rintro e w7 ⟨s, rfl, hs, hb67⟩
          refine ⟨s, rfl, ?_⟩
          refine append_int hs hb67.size (by omega) ?_
          intro t w8 ht hg8 _
          have hb68 := hb67.grown hg8 hb67.size (fun g hg => (hs.lt g hg).1)
          refine append_new hlo2 hb68 hb5.size ht (by rw [List.length_append, List.length_map, seqI_length]; omega) ?_
          intro lo3 w9 hlo3 hg9 _
          refine ⟨lo3, x + 1, by rw [w64_succ (by omega) (by omega)], ⟨by omega, by omega, ?_, (hb5.trans (hb68.mono hb5.size)).grown hg9 (Nat.le_trans hb5.size hb68.size) (fun g hg => (hlo2.lt g hg).1)⟩, by omega⟩
          rw [seqI_take hx1, List.map_append, ← List.append_assoc]
          exact hlo3
        · rw [impl_places.A12_4_s]
          refine ⟨lo2, i + 1, by rw [w64_succ hi0 (by omega)], ⟨by omega, by omega, ?_, hb5⟩, by omega⟩
          rw [show (x - (lastD p + 1)).toNat = ((n : Int) - lastD p).toNat by omega] at hlo2
          rw [show (i + 1).toNat = i.toNat + 1 by omega, List.take_succ_eq_append_getElem hlt, flat_snoc, hpe]
          exact hlo2
      rw [hrn]
      refine bif_dec (fun h6 => ?_) (fun h6 => ?_)
      · rw [w64_id (by omega) (by omega)]
        refine RowI.get (hr.grow hb4) (by omega) (by omega) ?_
        rw [show ((p.length : Int) - 1).toNat = p.length - 1 by omega, show p.getD (p.length - 1) 0 = lastD p from rfl, w64_succ (by omega) (by omega)]
        exact fin
      · have : p = [] := List.eq_nil_of_length_eq_zero (by omega)
        subst this
        rw [lastD_nil] at fin
        exact fin
    · rw [impl_places.A6_2_s]
      rw [show i.toNat = (plN n k.toNat).length by omega, List.take_length] at hlo
      refine ⟨lo, k + 1, by rw [w64_succ hk0' (by omega)], ⟨by omega, by omega, ?_, hb.trans (hb4.mono hb.size)⟩, by omega⟩
      rw [show (k + 1).toNat = k.toNat + 1 by omega, plN]
      exact hlo.mono hb.size
  · rw [impl_places.A3_0_s]
    rw [show k.toNat = k0 by omega] at ho
    exact ⟨out, rfl, ho, hb⟩
theorem c_pattern {w : World} {a : Sl} {L : List Int} (ha : RowI w a L) (hL : L.length < 2^30) :
    Calls PP F.impl_pattern #[a.v] w fun e w' => ∃ s : Sl, e = .returned s.v ∧ OwnI w' w.heap.size s (patV L) ∧ Below w.heap.size w w' := by
  have han : a.n = L.length := by have := ha.n; simpa using this
  refine impl_pattern.calls a ?_
  rw [impl_pattern.E_s]
  refine lit0 oneInt (B := w.heap.size) (Nat.le_refl _) ?_
  intro s0 w1 hs0 hg1 _
  have hb1 := below_of_grow hg1
  rw [han]
  refine impl_pattern.L3_rule _ _ _ _ _ _ _ (I := fun s k w' => 0 ≤ k ∧ k ≤ L.length ∧ OwnI w' w.heap.size s (tab k.toNat fun j => 1 + lessN L (L.getD j 0) L.length) ∧ Below w.heap.size w w') (μ := fun _ k _ => (L.length - k).toNat)
    ⟨by omega, by omega, by simpa [tab, OwnI] using hs0, hb1⟩ ?_
  rintro s k w2 ⟨hk0, hk, hs, hb⟩
  rw [impl_pattern.B3_s]
  refine bif_dec (fun h3 => ?_) (fun h3 => ?_)
  · refine RowI.get (ha.grow hb) hk0 (by omega) ?_
    rw [han]
    refine impl_pattern.L7_rule _ _ _ _ _ _ _ _ _ _ _ _ (I := fun v i w' => w' = w2 ∧ 0 ≤ i ∧ i ≤ L.length ∧ v = 1 + lessN L (L.getD k.toNat 0) i.toNat) (μ := fun _ i _ => (L.length - i).toNat) ⟨rfl, by omega, by omega, by simp [lessN]⟩ ?_
    rintro v i w3 ⟨rfl, hi0, hi, rfl⟩
    have hlb := lessN_bd L (L.getD k.toNat 0) i.toNat
    rw [impl_pattern.B7_s]
    refine bif_dec (fun h4 => ?_) (fun h4 => ?_)
    · refine RowI.get (ha.grow hb) hi0 (by omega) ?_
      refine bif_dec (fun h5 => ?_) (fun h5 => ?_)
      · refine ⟨_, i + 1, by rw [w64_succ hi0 (by omega), w64_id (by omega) (by omega)], ⟨rfl, by omega, by omega, ?_⟩, by omega⟩
        rw [show (i + 1).toNat = i.toNat + 1 by omega, lessN, if_pos h5]; omega
      · refine ⟨_, i + 1, by rw [w64_succ hi0 (by omega)], ⟨rfl, by omega, by omega, ?_⟩, by omega⟩
        rw [show (i + 1).toNat = i.toNat + 1 by omega, lessN, if_neg h5]; omega
    · rw [impl_pattern.A7_2_s]
      refine append_int hs hb.size (by rw [tab_length]; omega) ?_
      intro s' w4 hs' hg4 _
      refine ⟨s', k + 1, by rw [w64_succ hk0 (by omega)], ⟨by omega, by omega, ?_, hb.grown hg4 hb.size (fun g hg => (hs.lt g hg).1)⟩, by omega⟩
      rw [show (k + 1).toNat = k.toNat + 1 by omega, tab_succ]
      rw [show i.toNat = L.length by omega] at hs'
      exact hs'
  · rw [impl_pattern.A3_0_s]
    rw [show k.toNat = L.length by omega] at hs
    exact ⟨s, rfl, hs, hb⟩
theorem c_isOccurrence {w : World} {p q l : Sl} {P Q L : List Int} (hp : RowI w p P) (hq : RowI w q Q) (hl : RowI w l L) (hP : P.length ≤ 8) (hL : L.length ≤ 8) (hin : ∀ x ∈ L, 1 ≤ x ∧ x ≤ (P.length : Int)) :
    Calls PP F.impl_isOccurrence #[p.v, q.v, l.v] w fun e w' => e = .returned (.bool (decide (patV (atV P L) = Q))) ∧ Below w.heap.size w w' := by
  have hln : l.n = L.length := by have := hl.n; simpa using this
  refine impl_isOccurrence.calls p q l ?_
  rw [impl_isOccurrence.E_s]
  refine lit0 oneInt (B := w.heap.size) (Nat.le_refl _) ?_
  intro s0 w1 hs0 hg1 _
  have hb1 := below_of_grow hg1
  rw [hln]
  refine impl_isOccurrence.L3_rule _ _ _ _ _ _ _ _ (I := fun s k w' => 0 ≤ k ∧ k ≤ L.length ∧ OwnI w' w.heap.size s (atV P (L.take k.toNat)) ∧ Below w.heap.size w w') (μ := fun _ k _ => (L.length - k).toNat)
    ⟨by omega, by omega, by simpa [atV, OwnI] using hs0, hb1⟩ ?_
  rintro s k w2 ⟨hk0, hk, hs, hb⟩
  rw [impl_isOccurrence.B3_s]
  refine bif_dec (fun h3 => ?_) (fun h3 => ?_)
  · have hlt : k.toNat < L.length := by omega
    have hx := hin _ (List.getElem_mem hlt)
    refine RowI.get (hl.grow hb) hk0 (by omega) ?_
    rw [getD_lt hlt, w64_id (by omega) (by omega)]
    refine RowI.get (hp.grow hb) (by omega) (by omega) ?_
    refine append_int hs hb.size (by simp [atV]; omega) ?_
    intro s' w4 hs' hg4 _
    refine ⟨s', k + 1, by rw [w64_succ hk0 (by omega)], ⟨by omega, by omega, ?_, hb.grown hg4 hb.size (fun g hg => (hs.lt g hg).1)⟩, by omega⟩
    rw [show (k + 1).toNat = k.toNat + 1 by omega, List.take_succ_eq_append_getElem hlt, atV, List.map_append]
    exact hs'
  · rw [impl_isOccurrence.A3_0_s]
    rw [show k.toNat = L.length by omega, List.take_length] at hs
    refine (c_pattern hs.row (by simp [atV]; omega)).mono ?_
    rintro e w3 ⟨t, rfl, ht, hb3⟩
    refine ⟨t, rfl, ?_⟩
    have hb03 := hb.trans (hb3.mono hb.size)
    refine Quiet.call1 (s := .bool) (c_Equal ht.row (hq.grow hb03) (by simp [patV, tab_length, atV]; omega)) ?_
    intro w4 hd4
    exact ⟨rfl, hb03.trans (hd4.below _)⟩
theorem c_occurrences {w : World} {p q : Sl} {P Q : List Int} (hp : RowI w p P) (hq : RowI w q Q) (hP : P.length ≤ 8) (hQ : Q.length ≤ 8) :
    Calls PP F.impl_occurrences #[p.v, q.v] w fun e w' => ∃ s : Sl, e = .returned s.v ∧ RowSS w' s (occV P Q) ∧ Below w.heap.size w w' := by
  have hpn : p.n = P.length := by have := hp.n; simpa using this
  have hqn : q.n = Q.length := by have := hq.n; simpa using this
  refine impl_occurrences.calls p q ?_
  rw [impl_occurrences.E_s]
  refine lit0 oneSint (B := w.heap.size) (Nat.le_refl _) ?_
  intro s0 w1 hs0 hg1 hc1
  have hb1 := below_of_grow hg1
  rw [hpn, hqn]
  refine (c_places P.length Q.length hP hQ).mono ?_
  rintro e w2 ⟨all, rfl, ⟨ra, hall⟩, hb2⟩
  refine ⟨all, rfl, ?_⟩
  have hb02 := hb1.trans (hb2.mono hb1.size)
  have hn := hall.n
  have h88 : (plN P.length Q.length).length ≤ 8 ^ 8 := Nat.le_trans (plN_len _ _) (Nat.le_trans (Nat.pow_le_pow_left hP _) (Nat.pow_le_pow_right (by omega) hQ))
  show impl_occurrences.L3 std p q s0 all (all.n : Int) 0 w2 _
  rw [hn]
  refine impl_occurrences.L3_rule _ _ _ _ _ _ _ _ (I := fun s k w' => 0 ≤ k ∧ k ≤ (plN P.length Q.length).length ∧ Below w.heap.size w w' ∧ OwnRows w' w.heap.size all ra (plN P.length Q.length) ∧ ∃ rs, OwnRows w' w.heap.size s rs (((plN P.length Q.length).take k.toNat).filter fun l => decide (patV (atV P l) = Q)) ∧ (∀ g, s.blk = some g → ¬ foot all ra g) ∧ (∀ r ∈ rs, ∃ j, j < k.toNat ∧ ra[j]? = some r)) (μ := fun _ k _ => ((plN P.length Q.length).length - k).toNat)
    ⟨by omega, by omega, hb02, hall.mono hb1.size, [], (OwnRows.nil hs0).grow hb2, fun g hg => by simp [Sl.blk, hc1] at hg, fun r hr => by cases hr⟩ ?_
  rintro s k w3 ⟨hk0, hk, hb3, hA, rs, hs, hd, hin⟩
  rw [impl_occurrences.B3_s]
  refine bif_dec (fun h3 => ?_) (fun h3 => ?_)
  · have hlt : k.toNat < (plN P.length Q.length).length := by omega
    obtain ⟨hl1, hl2⟩ := plN_facts P.length Q.length _ (List.getElem_mem hlt)
    refine hA.load hk0 (by omega) fun r hr hro => ?_
    rw [getD_SS hlt] at hro
    refine (c_isOccurrence (hp.grow hb3) (hq.grow hb3) hro.row hP (by omega) hl2).mono ?_
    rintro e w4 ⟨rfl, hb4⟩
    refine ⟨_, rfl, ?_⟩
    have hb04 := hb3.trans (hb4.mono hb3.size)
    have hA4 := hA.grow hb4
    have hs4 := hs.grow hb4
    have hro4 := Own.grow hro hb4
    have ek : (k + 1).toNat = k.toNat + 1 := by omega
    refine bif_intro (fun h5 => ?_) (fun h5 => ?_)
    · have h5' : patV (atV P (plN P.length Q.length)[k.toNat]) = Q := by simpa using h5
      refine append_sl hs4 hb04.size hro4 (fun t ht => ?_) ?_ ?_
      · obtain ⟨j, hj, hjr⟩ := hin t ht
        exact hA.apt j k.toNat t r (by omega) hjr hr
      · have := List.length_filter_le (fun l => decide (patV (atV P l) = Q)) ((plN P.length Q.length).take k.toNat)
        rw [List.length_take] at this; omega
      intro s' w5 hs' hg5 hn5
      have k5 := keeps_grown hg5
      have hA5 := hA4.keepsF k5 fun x h6 h7 => hd x h7 h6
      refine ⟨s', k + 1, by rw [w64_succ hk0 (by omega)], ⟨by omega, by omega, hb04.grown hg5 hb04.size (fun g hg => (hs4.out.lt g hg).1), hA5, rs ++ [r], ?_, fun g hg hf => ?_, fun t ht => ?_⟩, by omega⟩
      · rw [ek, List.take_succ_eq_append_getElem hlt, List.filter_append]
        simpa [h5'] using hs'
      · rcases hn5 g hg with h6 | h6
        · exact hd g h6 hf
        · have := (hA4.footLt hf).2; omega
      · rcases List.mem_append.1 ht with ht | ht
        · obtain ⟨j, hj, hjr⟩ := hin t ht; exact ⟨j, by omega, hjr⟩
        · simp at ht; subst ht; exact ⟨k.toNat, by omega, hr⟩
    · have h5' : ¬ patV (atV P (plN P.length Q.length)[k.toNat]) = Q := by simpa using h5
      refine ⟨s, k + 1, by rw [w64_succ hk0 (by omega)], ⟨by omega, by omega, hb04, hA4, rs, ?_, hd, fun t ht => ?_⟩, by omega⟩
      · rw [ek, List.take_succ_eq_append_getElem hlt, List.filter_append]
        simpa [h5'] using hs4
      · obtain ⟨j, hj, hjr⟩ := hin t ht; exact ⟨j, by omega, hjr⟩
  · rw [impl_occurrences.A3_0_s]
    rw [show k.toNat = (plN P.length Q.length).length by omega, List.take_length] at hs
    exact ⟨s, rfl, hs.row, hb3⟩
end Go.Proofs.Ytdchjhhpbdekeaa

/- IsTwicePattern: both texts, and the law. -/
namespace Go.Proofs.Ytdchjhhpbdekeaa
open Go Go.RowKit
set_option maxRecDepth 100000

theorem lit4 {w : World} {B : Nat} (hB : B ≤ w.heap.size) (a b c d : Int) {K : Sl → World → Prop} (h : ∀ s w', OwnI w' B s [a, b, c, d] → Below w.heap.size w w' → K s w') : sem1 .sl PP (Instr.buildSlice T_Sint 4 #[(0, vI a), (1, vI b), (2, vI c), (3, vI d)]) w K := by
  obtain ⟨i, hu, hi, hz, hs, hb, hzc⟩ := oneInt
  have hrun : (Instr.buildSlice T_Sint 4 #[(0, vI a), (1, vI b), (2, vI c), (3, vI d)]).run PP w = .ok (.slice (some ⟨w.heap.size, 0, none⟩) 4 4) (w.alloc (.cells #[vI a, vI b, vI c, vI d] T_int)) := by
    refine run_buildSlice w T_Sint T_int 4 _ #[vI a, vI b, vI c, vI d] i (vI 0) hu hi hz (by rw [hs]; decide) (by rw [hs]; decide) ?_
    rw [hs]
    simp [Instr.fill, Array.range, Value.cells]
    rfl
  exact ⟨⟨some ⟨w.heap.size, 0, none⟩, 4, 4⟩, _, hrun, h _ _ ⟨rfl, Nat.le_refl _, by simp only [maxLen]; omega, .inr ⟨_, _, rfl, hB, heap_alloc_new w _, rfl, rfl⟩⟩ (below_of_grow (World.grownBy_alloc w _ none))⟩
theorem lit5 {w : World} {B : Nat} (hB : B ≤ w.heap.size) (a b c d e : Int) {K : Sl → World → Prop} (h : ∀ s w', OwnI w' B s [a, b, c, d, e] → Below w.heap.size w w' → K s w') : sem1 .sl PP (Instr.buildSlice T_Sint 5 #[(0, vI a), (1, vI b), (2, vI c), (3, vI d), (4, vI e)]) w K := by
  obtain ⟨i, hu, hi, hz, hs, hb, hzc⟩ := oneInt
  have hrun : (Instr.buildSlice T_Sint 5 #[(0, vI a), (1, vI b), (2, vI c), (3, vI d), (4, vI e)]).run PP w = .ok (.slice (some ⟨w.heap.size, 0, none⟩) 5 5) (w.alloc (.cells #[vI a, vI b, vI c, vI d, vI e] T_int)) := by
    refine run_buildSlice w T_Sint T_int 5 _ #[vI a, vI b, vI c, vI d, vI e] i (vI 0) hu hi hz (by rw [hs]; decide) (by rw [hs]; decide) ?_
    rw [hs]
    simp [Instr.fill, Array.range, Value.cells]
    rfl
  exact ⟨⟨some ⟨w.heap.size, 0, none⟩, 5, 5⟩, _, hrun, h _ _ ⟨rfl, Nat.le_refl _, by simp only [maxLen]; omega, .inr ⟨_, _, rfl, hB, heap_alloc_new w _, rfl, rfl⟩⟩ (below_of_grow (World.grownBy_alloc w _ none))⟩
def Twice (P : List Int) : Prop := IsP P ∧ hasP P [2, 3, 4, 1] = false ∧ ∀ a b c d, Occ4 P a b c d → ∃ e, a < e ∧ e < b ∧ at1 P c < at1 P e
open Classical in
noncomputable def IsTwicePatternV (P : List Int) : Bool := decide (Twice P)
theorem isP_ne {P : List Int} (h : IsP P) : ∀ x y : Int, 1 ≤ x → x < y → y ≤ P.length → at1 P x ≠ at1 P y := fun x y h1 h2 h3 => (h.2 (y - 1).toNat (by omega)).2.2 (x - 1).toNat (by omega)
theorem c_specIsTwicePattern {w : World} {p : Sl} {P : List Int} (hp : RowI w p P) (hL : P.length < 2^38) :
    Calls PP F.spec_IsTwicePattern #[p.v] w fun e w' => e = .returned (.bool (IsTwicePatternV P)) ∧ Below w.heap.size w w' := by
  classical
  have no : ∀ w', Below w.heap.size w w' → ¬ Twice P → (Ending.returned (.bool false)) = .returned (.bool (IsTwicePatternV P)) ∧ Below w.heap.size w w' := fun w' hb hn => ⟨by rw [IsTwicePatternV, decide_eq_false hn], hb⟩
  refine spec_IsTwicePattern.calls p ?_
  rw [spec_IsTwicePattern.E_s]
  refine Quiet.call1 (s := .bool) (c_specIsPerm hp hL) ?_
  intro w1 hd1
  have hb1 := hd1.below w.heap.size
  refine bif_intro (fun h => ?_) (fun h => ?_)
  · exact no w1 hb1 fun hh => by simp [hh.1] at h
  have hP : IsP P := by simpa using h
  have h8 := hP.1
  refine lit4 (B := w1.heap.size) (Nat.le_refl _) 2 3 4 1 ?_
  intro q w2 hq hb2
  have hb02 := hb1.trans (hb2.mono hb1.size)
  refine (c_l7Has (hp.grow hb02) hq.row h8 (by simp)).mono ?_
  rintro e w3 ⟨rfl, hb3⟩
  refine ⟨_, rfl, ?_⟩
  have hb03 := hb02.trans (hb3.mono hb02.size)
  refine bif_intro (fun h => ?_) (fun h => ?_)
  · exact no w3 hb03 fun hh => by rw [hh.2.1] at h; cases h
  refine lit4 (B := w3.heap.size) (Nat.le_refl _) 3 2 4 1 ?_
  intro q2 w4 hq2 hb4
  have hb04 := hb03.trans (hb4.mono hb03.size)
  refine lit0 oneInt (B := w4.heap.size) (Nat.le_refl _) ?_
  intro hd w5 hhd hg5 hdc
  have hb5 := below_of_grow hg5
  refine lit0 oneSint (B := w4.heap.size) hb5.size ?_
  intro o w6 ho hg6 hoc
  have hb6 := below_of_grow hg6
  have hb46 := hb5.trans (hb6.mono hb5.size)
  have hb06 := hb04.trans (hb46.mono hb04.size)
  refine (c_l7Find (hp.grow hb04) hq2.row h8 (by simp) 4 w6 hd o [] [] [] hb46 (OwnRows.nil ho) (by simpa [OwnI] using Own.grow hhd hb6) (fun t ht => by cases ht) (by simp) (Places.nil P) (by simp)).mono ?_
  rintro e w7 ⟨s, rfl, hs, hg7, hn7⟩
  refine ⟨s, rfl, ?_⟩
  have hb7 : Below w.heap.size w w7 := hb06.grown hg7 hb06.size (fun g hg => by simp [Sl.blk, hoc] at hg)
  rw [List.nil_append] at hs
  have hsr := hs.row
  have hsn := hsr.n
  have hmem := fun l => mem_find4 (P := P) (l := l) (isP_ne hP)
  refine spec_IsTwicePattern.L5_rule _ _ _ _ _ (I := fun k w' => 0 ≤ k ∧ k ≤ (occN P [3, 2, 4, 1] 4 []).length ∧ Drew w7 w' ∧ ∀ a b c d, (∃ j, j < k.toNat ∧ (occN P [3, 2, 4, 1] 4 [])[j]? = some [a, b, c, d]) → ∃ e, a < e ∧ e < b ∧ at1 P c < at1 P e) (μ := fun k _ => ((occN P [3, 2, 4, 1] 4 []).length - k).toNat)
    ⟨by omega, by omega, Drew.refl _, fun a b c d ⟨j, hj, _⟩ => by simp at hj⟩ ?_
  rintro k w8 ⟨hk0, hk, hd8, hall⟩
  have hh8 := hd8.heap'
  have hb8 : Below w.heap.size w w8 := hb7.trans (hd8.below _)
  rw [spec_IsTwicePattern.B5_s, hsn]
  refine bif_dec (fun h3 => ?_) (fun h3 => ?_)
  · have hlt : k.toNat < (occN P [3, 2, 4, 1] 4 []).length := by omega
    refine RowSS.get (hsr.heap hh8) hk0 (by omega) fun x hx => ?_
    rw [getD_SS hlt] at hx
    obtain ⟨a, b, c, d, hl, hO⟩ := (hmem _).1 (List.getElem_mem hlt)
    obtain ⟨o1, o2, o3, o4, o5, o6, o7, o8⟩ := id hO
    rw [hl] at hx
    refine RowI.get hx (i := 0) (by omega) (by simp) ?_
    have ea : ([a, b, c, d] : List Int).getD (0 : Int).toNat 0 = a := rfl
    rw [ea, w64_id (n := a + 1) (by omega) (by omega)]
    refine spec_IsTwicePattern.L10_rule _ _ _ _ _ _ _ _ (I := fun found i w' => Drew w8 w' ∧ a + 1 ≤ i ∧ i ≤ b ∧ (found = true ↔ ∃ e, a < e ∧ e < i ∧ at1 P c < at1 P e)) (μ := fun _ i _ => (b - i).toNat) ⟨Drew.refl _, by omega, by omega, by simp; intro e h1 h2; omega⟩ ?_
    rintro found i w9 ⟨hd9, hi1, hi2, hf⟩
    have hh9 : w9.heap = w7.heap := (hd8.trans hd9).heap'
    have hx9 : RowI w9 x [a, b, c, d] := hx.heap (by rw [hh9, hh8])
    have hp9 : RowI w9 p P := (hp.grow hb7).heap hh9
    rw [spec_IsTwicePattern.B10_s]
    refine RowI.get hx9 (i := 1) (by omega) (by simp) ?_
    have eb : ([a, b, c, d] : List Int).getD (1 : Int).toNat 0 = b := rfl
    rw [eb]
    refine bif_dec (fun h4 => ?_) (fun h4 => ?_)
    · refine bif_intro (fun h5 => ?_) (fun h5 => ?_)
      · refine drew_intro fun w10 hd10 => ?_
        refine ⟨true, i + 1, by rw [w64_id (by omega) (by omega)], ⟨hd9.trans hd10, by omega, by omega, ?_⟩, by omega⟩
        obtain ⟨e, e1, e2, e3⟩ := hf.1 h5
        exact ⟨fun _ => ⟨e, e1, by omega, e3⟩, fun _ => rfl⟩
      · rw [w64_id (n := i - 1) (by omega) (by omega)]
        refine RowI.get hp9 (by omega) (by omega) ?_
        refine RowI.get hx9 (i := 2) (by omega) (by simp) ?_
        have ec : ([a, b, c, d] : List Int).getD (2 : Int).toNat 0 = c := rfl
        rw [ec, w64_id (n := c - 1) (by omega) (by omega)]
        refine RowI.get hp9 (by omega) (by omega) ?_
        refine drew_intro fun w10 hd10 => ?_
        refine ⟨_, i + 1, by rw [w64_id (by omega) (by omega)], ⟨hd9.trans hd10, by omega, by omega, ?_⟩, by omega⟩
        rw [decide_eq_true_iff]
        constructor
        · intro h6; exact ⟨i, by omega, by omega, h6⟩
        · rintro ⟨e, e1, e2, e3⟩
          by_cases he : e = i
          · subst he; exact e3
          · exact absurd (hf.2 ⟨e, e1, by omega, e3⟩) (by rw [h5]; simp)
    · rw [spec_IsTwicePattern.A10_2_s]
      have hib : i = b := by omega
      subst hib
      have hb9 : Below w.heap.size w w9 := hb8.trans (hd9.below _)
      refine bif_intro (fun h5 => ?_) (fun h5 => ?_)
      · rw [spec_IsTwicePattern.R5_s]
        have hff : found = false := by simpa using h5
        refine no w9 hb9 fun hh => ?_
        have := hf.2 (hh.2.2 a i c d hO)
        rw [hff] at this; cases this
      · have hff : found = true := by simpa using h5
        refine ⟨k + 1, by rw [w64_succ hk0 (by have := occN_length (P := P) (Q := [3, 2, 4, 1]) 4 [] (Places.nil P); have := Nat.pow_le_pow_left h8 4; omega)], ⟨by omega, by omega, hd8.trans hd9, fun a' b' c' d' ⟨j, hj, hje⟩ => ?_⟩, by omega⟩
        by_cases e : j = k.toNat
        · subst e
          rw [List.getElem?_eq_getElem hlt, hl] at hje
          simp at hje
          obtain ⟨rfl, rfl, rfl, rfl⟩ := hje
          exact hf.1 hff
        · exact hall a' b' c' d' ⟨j, by omega, hje⟩
  · rw [spec_IsTwicePattern.A5_0_s]
    refine ⟨?_, hb8⟩
    rw [IsTwicePatternV, decide_eq_true]
    refine ⟨hP, by simpa using h, fun a b c d hO => ?_⟩
    obtain ⟨j, hj, hje⟩ := List.getElem_of_mem ((hmem [a, b, c, d]).2 ⟨a, b, c, d, rfl, hO⟩)
    exact hall a b c d ⟨j, by omega, by rw [List.getElem?_eq_getElem hj, hje]⟩
set_option maxHeartbeats 1000000 in
theorem c_implIsTwicePattern {w : World} {p : Sl} {P : List Int} (hp : RowI w p P) (hL : P.length < 2^38) :
    Calls PP F.impl_IsTwicePattern #[p.v] w fun e w' => e = .returned (.bool (IsTwicePatternV P)) ∧ Below w.heap.size w w' := by
  classical
  have no : ∀ w', Below w.heap.size w w' → ¬ Twice P → (Ending.returned (.bool false)) = .returned (.bool (IsTwicePatternV P)) ∧ Below w.heap.size w w' := fun w' hb hn => ⟨by rw [IsTwicePatternV, decide_eq_false hn], hb⟩
  refine impl_IsTwicePattern.calls p ?_
  rw [impl_IsTwicePattern.E_s]
  refine (c_implIsPerm hp hL).mono ?_
  rintro e w1 ⟨rfl, hb1⟩
  refine ⟨_, rfl, ?_⟩
  refine bif_intro (fun h => ?_) (fun h => ?_)
  · exact no w1 hb1 fun hh => by simp [hh.1] at h
  have hP : IsP P := by simpa using h
  have h8 := hP.1
  refine lit4 (B := w1.heap.size) (Nat.le_refl _) 2 3 4 1 ?_
  intro q w2 hq hb2
  have hb02 := hb1.trans (hb2.mono hb1.size)
  refine (c_has_nil (hp.grow hb02) hq.row (by omega) (by simp)).mono ?_
  rintro e w3 ⟨rfl, hb3⟩
  refine ⟨_, rfl, ?_⟩
  have hb03 := hb02.trans (hb3.mono hb02.size)
  refine bif_intro (fun h => ?_) (fun h => ?_)
  · exact no w3 hb03 fun hh => by rw [hh.2.1] at h; cases h
  have hno2341 : hasP P [2, 3, 4, 1] = false := by simpa using h
  refine new4 fun r w4 hr hrn hb4 => ?_
  have hb04 := hb03.trans (hb4.mono hb03.size)
  have hrw : w.heap.size ≤ r := Nat.le_trans hb03.size hrn
  refine lit5 (B := w4.heap.size) (Nat.le_refl _) 3 5 2 4 1 ?_
  intro q2 w5 hq2 hb5
  have hb05 := hb04.trans (hb5.mono hb04.size)
  refine (c_occurrences (hp.grow hb05) hq2.row h8 (by simp)).mono ?_
  rintro e w6 ⟨s, rfl, hs, hb6⟩
  refine ⟨s, rfl, ?_⟩
  have hb06 := hb05.trans (hb6.mono hb05.size)
  have hr6 := (hr.grow hb5).grow hb6
  have hsn := hs.n
  have h88 : ∀ Q : List Int, Q.length ≤ 8 → (occV P Q).length ≤ 8 ^ 8 := fun Q hQ => Nat.le_trans (List.length_filter_le _ _) (Nat.le_trans (plN_len _ _) (Nat.le_trans (Nat.pow_le_pow_left h8 _) (Nat.pow_le_pow_right (by omega) hQ)))
  have hc5 := h88 [3, 5, 2, 4, 1] (by simp)
  have hc4 := h88 [3, 2, 4, 1] (by simp)
  show impl_IsTwicePattern.L5 std p (some r) s (s.n : Int) 0 w6 _
  rw [hsn]
  -- the rows of the first list are not the map
  obtain ⟨rs, hrs⟩ := hs
  have hrows : ∀ (w' : World) (T : Nat → Prop), Keeps T w6 w' → (∀ x, T x → x = r) → RowSS w' s (occV P [3, 5, 2, 4, 1]) := by
    intro w' T hk hT
    have hcell : ∀ (a : Addr) (v : Value), w6.cell? a = some v → w'.cell? a = some v := fun a v hc => by
      have hlt := World.block_lt_of_cell? w6 _ hc
      have hne : ¬ T a.block := fun ht => by
        have e := hT _ ht
        obtain ⟨es, clock, hg, _⟩ := hr6
        unfold World.cell? at hc
        rw [e, hg] at hc
        simp at hc
      have := hk.block a.block hlt hne
      unfold World.cell? at hc ⊢
      rw [this]; exact hc
    refine ⟨rs, ⟨hrs.out.n, hrs.out.nc, fun i v hv => ?_⟩, hrs.len, fun i t L e1 e2 => ⟨(hrs.at_ i t L e1 e2).n, (hrs.at_ i t L e1 e2).nc, fun j v hv => ?_⟩⟩
    · obtain ⟨a, ha, hc⟩ := hrs.out.cell i v hv; exact ⟨a, ha, hcell _ _ hc⟩
    · obtain ⟨a, ha, hc⟩ := (hrs.at_ i t L e1 e2).cell j v hv; exact ⟨a, ha, hcell _ _ hc⟩
  refine impl_IsTwicePattern.L5_rule _ _ _ _ _ _ _ (I := fun k w' => 0 ≤ k ∧ k ≤ (occV P [3, 5, 2, 4, 1]).length ∧ Keeps (fun x => x = r) w6 w' ∧ ∃ S, MapK w' r S ∧ ∀ a b c d : Int, (a, b, c, d) ∈ S ↔ ∃ e j, j < k.toNat ∧ (occV P [3, 5, 2, 4, 1])[j]? = some [a, e, b, c, d]) (μ := fun k _ => ((occV P [3, 5, 2, 4, 1]).length - k).toNat)
    ⟨by omega, by omega, Keeps.refl _ _, [], hr6, fun a b c d => ⟨fun hm => (by cases hm), fun ⟨e, j, hj, _⟩ => by simp at hj⟩⟩ ?_
  rintro k w7 ⟨hk0, hk, hk7, S, hS, hSm⟩
  have hs7 := hrows w7 _ hk7 (fun x hx => hx)
  have hb07 : Below w.heap.size w w7 := hb06.trans (hk7.below (fun x hx => by rw [hx]; exact hrw) hb06.size)
  rw [impl_IsTwicePattern.B5_s]
  refine bif_dec (fun h3 => ?_) (fun h3 => ?_)
  · have hlt : k.toNat < (occV P [3, 5, 2, 4, 1]).length := by omega
    refine RowSS.get hs7 hk0 (by omega) fun x hx => ?_
    rw [getD_SS hlt] at hx
    obtain ⟨a, e, b, c, d, hl, hO⟩ := mem_occ5.1 (List.getElem_mem hlt)
    rw [hl] at hx
    refine drew_intro fun w8 hd8 => ?_
    have hx8 : RowI w8 x [a, e, b, c, d] := hx.heap hd8.heap'
    have hS8 : MapK w8 r S := hS.grow (hd8.below _)
    refine RowI.place hx8 (i := 0) (by omega) (by simp) fun a0 h0 => ?_
    refine RowI.place hx8 (i := 2) (by omega) (by simp) fun a2 h2 => ?_
    refine RowI.place hx8 (i := 3) (by omega) (by simp) fun a3 h3' => ?_
    refine RowI.place hx8 (i := 4) (by omega) (by simp) fun a4 h4' => ?_
    have g0 : w8.cell? a0 = some (vI a) := h0
    have g2 : w8.cell? a2 = some (vI b) := h2
    have g3 : w8.cell? a3 = some (vI c) := h3'
    have g4 : w8.cell? a4 = some (vI d) := h4'
    have fin : buildK PP T__4_int [(0, vI a), (1, vI b), (2, vI c), (3, vI d)] fun v => sem0 PP (Instr.mapUpdate T_M_4_int_bool (.map (some r)) v (.bool true)) w8 fun w9 =>
        ∃ k_n, impl_IsTwicePattern.emb5 p (some r) s (occV P [3, 5, 2, 4, 1]).length (w64 (k + 1)) = impl_IsTwicePattern.emb5 p (some r) s (occV P [3, 5, 2, 4, 1]).length k_n ∧ (0 ≤ k_n ∧ k_n ≤ (occV P [3, 5, 2, 4, 1]).length ∧ Keeps (fun x => x = r) w6 w9 ∧ ∃ S, MapK w9 r S ∧ ∀ a b c d : Int, (a, b, c, d) ∈ S ↔ ∃ e j, j < k_n.toNat ∧ (occV P [3, 5, 2, 4, 1])[j]? = some [a, e, b, c, d]) ∧ (((occV P [3, 5, 2, 4, 1]).length : Int) - k_n).toNat < (((occV P [3, 5, 2, 4, 1]).length : Int) - k).toNat := by
      refine mk4 a b c d ?_
      refine put4 hS8 (a, b, c, d) fun w9 hS9 hg9 => ?_
      refine ⟨k + 1, by rw [w64_succ hk0 (by omega)], ⟨by omega, by omega, (hk7.trans (hd8.keeps _)).trans ((keeps_grown hg9).mono fun y hy => (Option.some.inj hy).symm), _, hS9, fun a' b' c' d' => ?_⟩, by omega⟩
      rw [List.mem_cons, hSm]
      constructor
      · rintro (h5 | ⟨e', j, hj, hje⟩)
        · simp at h5
          obtain ⟨rfl, rfl, rfl, rfl⟩ := h5
          exact ⟨e, k.toNat, by omega, by rw [List.getElem?_eq_getElem hlt, hl]⟩
        · exact ⟨e', j, by omega, hje⟩
      · rintro ⟨e', j, hj, hje⟩
        by_cases ej : j = k.toNat
        · subst ej
          rw [List.getElem?_eq_getElem hlt, hl] at hje
          simp at hje
          obtain ⟨rfl, rfl, rfl, rfl, rfl⟩ := hje
          exact .inl rfl
        · exact .inr ⟨e', j, by omega, hje⟩
    have l0 : ∀ K : Int → Prop, K a → load1 (.int .i64) a0 w8 K := fun K hk => load_int g0 hk
    have l2 : ∀ K : Int → Prop, K b → load1 (.int .i64) a2 w8 K := fun K hk => load_int g2 hk
    have l3 : ∀ K : Int → Prop, K c → load1 (.int .i64) a3 w8 K := fun K hk => load_int g3 hk
    have l4 : ∀ K : Int → Prop, K d → load1 (.int .i64) a4 w8 K := fun K hk => load_int g4 hk
    repeat' first
      | (with_reducible exact fin)
      | (with_reducible apply And.intro)
      | (with_reducible refine l0 _ ?_)
      | (with_reducible refine l2 _ ?_)
      | (with_reducible refine l3 _ ?_)
      | (with_reducible refine l4 _ ?_)
  · rw [impl_IsTwicePattern.A5_0_s]
    have hSx : ∀ a b c d : Int, (a, b, c, d) ∈ S ↔ ∃ e, Occ5 P a e b c d := fun a b c d => by
      rw [hSm]
      constructor
      · rintro ⟨e, j, _, hje⟩
        obtain ⟨a', e', b', c', d', hl, hO⟩ := mem_occ5.1 (List.mem_of_getElem? hje)
        simp at hl
        obtain ⟨rfl, rfl, rfl, rfl, rfl⟩ := hl
        exact ⟨e, hO⟩
      · rintro ⟨e, hO⟩
        obtain ⟨j, hj, hje⟩ := List.getElem_of_mem (mem_occ5.2 ⟨a, e, b, c, d, rfl, hO⟩)
        exact ⟨e, j, by omega, by rw [List.getElem?_eq_getElem hj, hje]⟩
    refine lit4 (B := w7.heap.size) (Nat.le_refl _) 3 2 4 1 ?_
    intro q3 w8 hq3 hb8
    have hb08 := hb07.trans (hb8.mono hb07.size)
    refine (c_occurrences (hp.grow hb08) hq3.row h8 (by simp)).mono ?_
    rintro e w9 ⟨u, rfl, hu, hb9⟩
    refine ⟨u, rfl, ?_⟩
    have hb09 := hb08.trans (hb9.mono hb08.size)
    have hS9 := (hS.grow hb8).grow hb9
    have hun := hu.n
    show impl_IsTwicePattern.L10 std (some r) u (u.n : Int) 0 w9 _
    rw [hun]
    refine impl_IsTwicePattern.L10_rule _ _ _ _ _ _ (I := fun k w' => 0 ≤ k ∧ k ≤ (occV P [3, 2, 4, 1]).length ∧ Drew w9 w' ∧ ∀ a b c d : Int, (∃ j, j < k.toNat ∧ (occV P [3, 2, 4, 1])[j]? = some [a, b, c, d]) → (a, b, c, d) ∈ S) (μ := fun k _ => ((occV P [3, 2, 4, 1]).length - k).toNat)
      ⟨by omega, by omega, Drew.refl _, fun a b c d ⟨j, hj, _⟩ => by simp at hj⟩ ?_
    rintro k w10 ⟨hk0, hk, hd10, hall⟩
    have hb10 : Below w.heap.size w w10 := hb09.trans (hd10.below _)
    rw [impl_IsTwicePattern.B10_s]
    refine bif_dec (fun h5 => ?_) (fun h5 => ?_)
    · have hlt : k.toNat < (occV P [3, 2, 4, 1]).length := by omega
      refine RowSS.get (hu.heap hd10.heap') hk0 (by omega) fun x hx => ?_
      rw [getD_SS hlt] at hx
      obtain ⟨a, b, c, d, hl, hO⟩ := mem_occ4.1 (List.getElem_mem hlt)
      rw [hl] at hx
      refine drew_intro fun w11 hd11 => ?_
      have hx11 : RowI w11 x [a, b, c, d] := hx.heap hd11.heap'
      have hS11 : MapK w11 r S := hS9.grow ((hd10.trans hd11).below _)
      refine RowI.place hx11 (i := 0) (by omega) (by simp) fun a0 h0 => ?_
      refine RowI.place hx11 (i := 1) (by omega) (by simp) fun a2 h2 => ?_
      refine RowI.place hx11 (i := 2) (by omega) (by simp) fun a3 h3' => ?_
      refine RowI.place hx11 (i := 3) (by omega) (by simp) fun a4 h4' => ?_
      have g0 : w11.cell? a0 = some (vI a) := h0
      have g2 : w11.cell? a2 = some (vI b) := h2
      have g3 : w11.cell? a3 = some (vI c) := h3'
      have g4 : w11.cell? a4 = some (vI d) := h4'
      have fin : buildK PP T__4_int [(0, vI a), (1, vI b), (2, vI c), (3, vI d)] fun v => sem1 .bool PP (Instr.lookup T_M_4_int_bool (.map (some r)) v false) w11 fun (ρ : Bool) w12 =>
          impl_IsTwicePattern.J13 std (some r) u (occV P [3, 2, 4, 1]).length k (!ρ) w12 (fun e2 w2 => ∃ k_n, e2 = impl_IsTwicePattern.emb10 (some r) u (occV P [3, 2, 4, 1]).length k_n ∧ (0 ≤ k_n ∧ k_n ≤ (occV P [3, 2, 4, 1]).length ∧ Drew w9 w2 ∧ ∀ a b c d : Int, (∃ j, j < k_n.toNat ∧ (occV P [3, 2, 4, 1])[j]? = some [a, b, c, d]) → (a, b, c, d) ∈ S) ∧ (((occV P [3, 2, 4, 1]).length : Int) - k_n).toNat < (((occV P [3, 2, 4, 1]).length : Int) - k).toNat) (impl_IsTwicePattern.q138 std fun e w' => e = .returned (.bool (IsTwicePatternV P)) ∧ Below w.heap.size w w') := by
        refine mk4 a b c d ?_
        refine look4 hS11 (a, b, c, d) ?_
        rw [impl_IsTwicePattern.J13_s]
        refine bif_intro (fun h6 => ?_) (fun h6 => ?_)
        · rw [impl_IsTwicePattern.R10_s]
          have hnm : (a, b, c, d) ∉ S := by simpa using h6
          refine no w11 (hb10.trans (hd11.below _)) fun hh => hnm ((hSx a b c d).2 ?_)
          obtain ⟨e, e1, e2, e3⟩ := hh.2.2 a b c d hO
          obtain ⟨o1, o2, o3, o4, o5, o6, o7, o8⟩ := hO
          exact ⟨e, o1, e1, e2, o3, o4, o5, o6, o7, o8, e3⟩
        · have hm : (a, b, c, d) ∈ S := by simpa using h6
          refine ⟨k + 1, by rw [w64_succ hk0 (by omega)], ⟨by omega, by omega, hd10.trans hd11, fun a' b' c' d' ⟨j, hj, hje⟩ => ?_⟩, by omega⟩
          by_cases ej : j = k.toNat
          · subst ej
            rw [List.getElem?_eq_getElem hlt, hl] at hje
            simp at hje
            obtain ⟨rfl, rfl, rfl, rfl⟩ := hje
            exact hm
          · exact hall a' b' c' d' ⟨j, by omega, hje⟩
      have l0 : ∀ K : Int → Prop, K a → load1 (.int .i64) a0 w11 K := fun K hk => load_int g0 hk
      have l2 : ∀ K : Int → Prop, K b → load1 (.int .i64) a2 w11 K := fun K hk => load_int g2 hk
      have l3 : ∀ K : Int → Prop, K c → load1 (.int .i64) a3 w11 K := fun K hk => load_int g3 hk
      have l4 : ∀ K : Int → Prop, K d → load1 (.int .i64) a4 w11 K := fun K hk => load_int g4 hk
      repeat' first
        | (with_reducible exact fin)
        | (with_reducible apply And.intro)
        | (with_reducible refine l0 _ ?_)
        | (with_reducible refine l2 _ ?_)
        | (with_reducible refine l3 _ ?_)
        | (with_reducible refine l4 _ ?_)
    · rw [impl_IsTwicePattern.A10_2_s]
      refine ⟨?_, hb10⟩
      rw [IsTwicePatternV, decide_eq_true]
      refine ⟨hP, hno2341, fun a b c d hO => ?_⟩
      obtain ⟨j, hj, hje⟩ := List.getElem_of_mem (mem_occ4.2 ⟨a, b, c, d, rfl, hO⟩)
      obtain ⟨e, hO5⟩ := (hSx a b c d).1 (hall a b c d ⟨j, by omega, by rw [List.getElem?_eq_getElem hj, hje]⟩)
      obtain ⟨o1, o2, o3, o4, o5, o6, o7, o8, o9, o10⟩ := hO5
      exact ⟨e, o2, o3, o10⟩
end Go.Proofs.Ytdchjhhpbdekeaa
