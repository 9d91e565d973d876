/- What each function does, step by step, written by a program (Gen.lean); each equation is checked by the kernel. -/
import Derived.Test.YtmhgjfahgemblaaHead
namespace Go.Proofs.Ytmhgjfahgemblaa
open Go
set_option linter.unusedVariables false
set_option maxRecDepth 100000
namespace spec_IsTwicePattern
@[reducible] def cfg : Cfg := ⟨60, [(10, [0, 3, 4, 5, 6, 7]), (5, [0, 3, 4])], [(3, [0, 3, 4, 5, 6, 7]), (2, [0, 3, 4, 6]), (1, [0, 3, 4]), (0, [])], [], [2], [12], [62, 10, 22, 58, 24, 44, 18, 70, 43, 85, 25, 71, 59, 37, 63], [82, 113, 102, 38, 103, 26, 60]⟩
def q14 (pr : Prims) (R : Ending → World → Prop) : Exit → Env → World → Prop := fun ex e w => normQ ex (fun e w => contE pr cfg (sub (codeOf Try.f11) [1, 1, 1, 1]) (fun e w => wpC pr PP cfg (DD pr) (sub (codeOf Try.f11) [1, 1, 1, 1]) (retQ Try.f11.results.toList R) e w) e w) (retQ Try.f11.results.toList R) e w
def q15 (pr : Prims) (R : Ending → World → Prop) : Exit → Env → World → Prop := fun ex e w => blockQ ex 0 (q14 pr R) e w
def q16 (pr : Prims) (k : Env → World → Prop) (Q : Exit → Env → World → Prop) : Exit → Env → World → Prop := fun ex e w => normQ ex (fun e w => contE pr cfg (sub (codeOf Try.f11) [1, 1, 1, 0, 1, 0, 0, 1, 1]) (fun e w => wpC pr PP cfg (DD pr) (sub (codeOf Try.f11) [1, 1, 1, 0, 1, 0, 0, 1, 1]) (fun ex e w => normQ ex (fun e' w' => k (Env.restr e' (lookN cfg.loops (keyOf (sub (codeOf Try.f11) [1, 1, 1, 0, 1, 0, 0])))) w') Q e w) e w) e w) (fun ex e w => normQ ex (fun e' w' => k (Env.restr e' (lookN cfg.loops (keyOf (sub (codeOf Try.f11) [1, 1, 1, 0, 1, 0, 0])))) w') Q e w) e w
def q17 (pr : Prims) (k : Env → World → Prop) (Q : Exit → Env → World → Prop) : Exit → Env → World → Prop := fun ex e w => blockQ ex 1 (q16 pr k Q) e w
def q20 (pr : Prims) (k : Env → World → Prop) (Q : Exit → Env → World → Prop) : Exit → Env → World → Prop := fun ex e w => normQ ex (fun e w => contE pr cfg (sub (codeOf Try.f11) [1, 1, 1, 0, 1, 0, 0, 1, 0, 0, 1, 1, 1]) (fun e w => wpC pr PP cfg (DD pr) (sub (codeOf Try.f11) [1, 1, 1, 0, 1, 0, 0, 1, 0, 0, 1, 1, 1]) (q17 pr k Q) e w) e w) (q17 pr k Q) e w
def q23 (pr : Prims) (k : Env → World → Prop) (Q : Exit → Env → World → Prop) : Exit → Env → World → Prop := fun ex e w => blockQ ex 2 (q20 pr k Q) e w
def emb5 (p_0 : Sl) (list_3 : Sl) (k_4 : Int) : Env := [(0, Sl.v p_0), (3, Sl.v list_3), (4, vI k_4)]
def emb10 (p_0 : Sl) (list_3 : Sl) (k_4 : Int) (x_5 : Sl) (found_6 : Bool) (i_7 : Int) : Env := [(0, Sl.v p_0), (3, Sl.v list_3), (4, vI k_4), (5, Sl.v x_5), (6, .bool found_6), (7, vI i_7)]
def x2 (p_0 : Sl) (list_3 : Sl) (k_4 : Int) (found_6 : Bool) : Env := [(0, Sl.v p_0), (3, Sl.v list_3), (4, vI k_4), (6, .bool found_6)]
def x0 : Env := []
def S10 (pr : Prims) (Q : Exit → Env → World → Prop) : (Env → World → Prop) → Env → World → Prop := fun k e w => wpC pr PP cfg (DD pr) (sub (codeOf Try.f11) [1, 1, 1, 0, 1, 0, 0, 1, 0, 0, 1, 1, 0, 1, 0, 0]) (fun ex e w => normQ ex (fun e' w' => k (Env.restr e' (lookN cfg.loops (keyOf (sub (codeOf Try.f11) [1, 1, 1, 0, 1, 0, 0, 1, 0, 0, 1, 1, 0, 1, 0, 0])))) w') Q e w) e w
def S5 (pr : Prims) (Q : Exit → Env → World → Prop) : (Env → World → Prop) → Env → World → Prop := fun k e w => wpC pr PP cfg (DD pr) (sub (codeOf Try.f11) [1, 1, 1, 0, 1, 0, 0]) (fun ex e w => normQ ex (fun e' w' => k (Env.restr e' (lookN cfg.loops (keyOf (sub (codeOf Try.f11) [1, 1, 1, 0, 1, 0, 0])))) w') Q e w) e w
def B10 (pr : Prims) (p_0 : Sl) (list_3 : Sl) (k_4 : Int) (x_5 : Sl) (found_6 : Bool) (i_7 : Int) (w : World) (k : Env → World → Prop) (Q : Exit → Env → World → Prop) : Prop :=
  S10 pr Q k (emb10 p_0 list_3 k_4 x_5 found_6 i_7) w
def L10 (pr : Prims) (p_0 : Sl) (list_3 : Sl) (k_4 : Int) (x_5 : Sl) (found_6 : Bool) (i_7 : Int) (w : World) (Q : Exit → Env → World → Prop) : Prop :=
  pr.loop (S10 pr Q) (emb10 p_0 list_3 k_4 x_5 found_6 i_7) w
def B5 (pr : Prims) (p_0 : Sl) (list_3 : Sl) (k_4 : Int) (w : World) (k : Env → World → Prop) (Q : Exit → Env → World → Prop) : Prop :=
  S5 pr Q k (emb5 p_0 list_3 k_4) w
def L5 (pr : Prims) (p_0 : Sl) (list_3 : Sl) (k_4 : Int) (w : World) (Q : Exit → Env → World → Prop) : Prop :=
  pr.loop (S5 pr Q) (emb5 p_0 list_3 k_4) w
def E (pr : Prims) (p_0 : Sl) (w : World) (R : Ending → World → Prop) : Prop :=
  wpC pr PP cfg (DD pr) (codeOf Try.f11) (retQ Try.f11.results.toList R) (argE 0 [Sl.v p_0]) w
theorem B10_eq (pr : Prims) (p_0 : Sl) (list_3 : Sl) (k_4 : Int) (x_5 : Sl) (found_6 : Bool) (i_7 : Int) (w : World) (k : Env → World → Prop) (Q : Exit → Env → World → Prop) : B10 pr p_0 list_3 k_4 x_5 found_6 i_7 w k Q = (
  pr.idxK 1 x_5 1 fun (a24 : Addr) =>
  pr.load1 (.int .i64) a24 w fun (ξ25 : Int) =>
  bif decide (i_7 < ξ25) then (
  bif found_6 then (
  pr.drewAll w fun ω26 =>
  k (emb10 p_0 list_3 k_4 x_5 true (w64 (i_7 + 1))) ω26)
  else (
  pr.idxK 1 p_0 (w64 (i_7 - 1)) fun (a27 : Addr) =>
  pr.load1 (.int .i64) a27 w fun (ξ28 : Int) =>
  pr.idxK 1 x_5 2 fun (a29 : Addr) =>
  pr.load1 (.int .i64) a29 w fun (ξ30 : Int) =>
  pr.idxK 1 p_0 (w64 (ξ30 - 1)) fun (a31 : Addr) =>
  pr.load1 (.int .i64) a31 w fun (ξ32 : Int) =>
  pr.drewAll w fun ω33 =>
  k (emb10 p_0 list_3 k_4 x_5 (decide (ξ28 > ξ32)) (w64 (i_7 + 1))) ω33))
  else (
  Q (.exit 2) (x2 p_0 list_3 k_4 found_6) w)) := by kernel_rfl
theorem B10_s (p_0 : Sl) (list_3 : Sl) (k_4 : Int) (x_5 : Sl) (found_6 : Bool) (i_7 : Int) (w : World) (k : Env → World → Prop) (Q : Exit → Env → World → Prop) : B10 std p_0 list_3 k_4 x_5 found_6 i_7 w k Q = (
  idxK 1 x_5 1 fun (a24 : Addr) =>
  load1 (.int .i64) a24 w fun (ξ25 : Int) =>
  bif decide (i_7 < ξ25) then (
  bif found_6 then (
  drewAll w fun ω26 =>
  k (emb10 p_0 list_3 k_4 x_5 true (w64 (i_7 + 1))) ω26)
  else (
  idxK 1 p_0 (w64 (i_7 - 1)) fun (a27 : Addr) =>
  load1 (.int .i64) a27 w fun (ξ28 : Int) =>
  idxK 1 x_5 2 fun (a29 : Addr) =>
  load1 (.int .i64) a29 w fun (ξ30 : Int) =>
  idxK 1 p_0 (w64 (ξ30 - 1)) fun (a31 : Addr) =>
  load1 (.int .i64) a31 w fun (ξ32 : Int) =>
  drewAll w fun ω33 =>
  k (emb10 p_0 list_3 k_4 x_5 (decide (ξ28 > ξ32)) (w64 (i_7 + 1))) ω33))
  else (
  Q (.exit 2) (x2 p_0 list_3 k_4 found_6) w)) := B10_eq std p_0 list_3 k_4 x_5 found_6 i_7 w k Q
theorem L10_rule (p_0 : Sl) (list_3 : Sl) (k_4 : Int) (x_5 : Sl) (found_6 : Bool) (i_7 : Int) (w : World) (Q : Exit → Env → World → Prop) (I : Bool → Int → World → Prop) (μ : Bool → Int → World → Nat) (h0 : I found_6 i_7 w)
    (h : ∀ (found_6 : Bool) (i_7 : Int) (w' : World), I found_6 i_7 w' → B10 std p_0 list_3 k_4 x_5 found_6 i_7 w' (fun e2 w2 => ∃ found_6_n i_7_n, e2 = emb10 p_0 list_3 k_4 x_5 found_6_n i_7_n ∧ I found_6_n i_7_n w2 ∧ μ found_6_n i_7_n w2 < μ found_6 i_7 w') Q) :
    L10 std p_0 list_3 k_4 x_5 found_6 i_7 w Q := by
  unfold L10
  refine LoopE.intro (σ := Bool × Int) (step := S10 std Q) (fun s => emb10 p_0 list_3 k_4 x_5 s.1 s.2) (fun s w => I s.1 s.2 w) (fun s w => μ s.1 s.2 w) (found_6, i_7) rfl h0 ?_
  intro s w' hI
  have h1 := h s.1 s.2 w' hI
  unfold B10 at h1
  simp only [Prod.exists]
  exact h1
theorem A10_2_eq (pr : Prims) (p_0 : Sl) (list_3 : Sl) (k_4 : Int) (found_6 : Bool) (w : World) (k : Env → World → Prop) (Q : Exit → Env → World → Prop) : (q23 pr k Q) (.exit 2) (x2 p_0 list_3 k_4 found_6) w = (
  bif !found_6 then (
  Q .ret [(2, .bool false)] w)
  else (
  k (emb5 p_0 list_3 (w64 (k_4 + 1))) w)) := by kernel_rfl
theorem A10_2_s (p_0 : Sl) (list_3 : Sl) (k_4 : Int) (found_6 : Bool) (w : World) (k : Env → World → Prop) (Q : Exit → Env → World → Prop) : (q23 std k Q) (.exit 2) (x2 p_0 list_3 k_4 found_6) w = (
  bif !found_6 then (
  Q .ret [(2, .bool false)] w)
  else (
  k (emb5 p_0 list_3 (w64 (k_4 + 1))) w)) := A10_2_eq std p_0 list_3 k_4 found_6 w k Q
theorem B5_eq (pr : Prims) (p_0 : Sl) (list_3 : Sl) (k_4 : Int) (w : World) (k : Env → World → Prop) (Q : Exit → Env → World → Prop) : B5 pr p_0 list_3 k_4 w k Q = (
  bif decide (k_4 < (list_3.n : Int)) then (
  pr.idxK 1 list_3 k_4 fun (a18 : Addr) =>
  pr.load1 .sl a18 w fun (ξ19 : Sl) =>
  pr.idxK 1 ξ19 0 fun (a21 : Addr) =>
  pr.load1 (.int .i64) a21 w fun (ξ22 : Int) =>
  L10 pr p_0 list_3 k_4 ξ19 false (w64 (ξ22 + 1)) w (q23 pr k Q))
  else (
  Q (.exit 0) (x0) w)) := by kernel_rfl
theorem B5_s (p_0 : Sl) (list_3 : Sl) (k_4 : Int) (w : World) (k : Env → World → Prop) (Q : Exit → Env → World → Prop) : B5 std p_0 list_3 k_4 w k Q = (
  bif decide (k_4 < (list_3.n : Int)) then (
  idxK 1 list_3 k_4 fun (a18 : Addr) =>
  load1 .sl a18 w fun (ξ19 : Sl) =>
  idxK 1 ξ19 0 fun (a21 : Addr) =>
  load1 (.int .i64) a21 w fun (ξ22 : Int) =>
  L10 std p_0 list_3 k_4 ξ19 false (w64 (ξ22 + 1)) w (q23 std k Q))
  else (
  Q (.exit 0) (x0) w)) := B5_eq std p_0 list_3 k_4 w k Q
theorem L5_rule (p_0 : Sl) (list_3 : Sl) (k_4 : Int) (w : World) (Q : Exit → Env → World → Prop) (I : Int → World → Prop) (μ : Int → World → Nat) (h0 : I k_4 w)
    (h : ∀ (k_4 : Int) (w' : World), I k_4 w' → B5 std p_0 list_3 k_4 w' (fun e2 w2 => ∃ k_4_n, e2 = emb5 p_0 list_3 k_4_n ∧ I k_4_n w2 ∧ μ k_4_n w2 < μ k_4 w') Q) :
    L5 std p_0 list_3 k_4 w Q := by
  unfold L5
  refine LoopE.intro (σ := Int) (step := S5 std Q) (fun s => emb5 p_0 list_3 s) (fun s w => I s w) (fun s w => μ s w) k_4 rfl h0 ?_
  intro s w' hI
  have h1 := h s w' hI
  unfold B5 at h1
  exact h1
theorem A5_0_eq (pr : Prims) (w : World) (R : Ending → World → Prop) : (q15 pr R) (.exit 0) (x0) w = (
  R (.returned (.bool true)) w) := by kernel_rfl
theorem A5_0_s (w : World) (R : Ending → World → Prop) : (q15 std R) (.exit 0) (x0) w = (
  R (.returned (.bool true)) w) := A5_0_eq std w R
theorem R5_eq (pr : Prims) (v2 : Value) (w : World) (R : Ending → World → Prop) : (q15 pr R) .ret [(2, v2)] w = (
  R (.returned (v2)) w) := by kernel_rfl
theorem R5_s (v2 : Value) (w : World) (R : Ending → World → Prop) : (q15 std R) .ret [(2, v2)] w = (
  R (.returned (v2)) w) := R5_eq std v2 w R
theorem E_eq (pr : Prims) (p_0 : Sl) (w : World) (R : Ending → World → Prop) : E pr p_0 w R = (
  pr.call1 .bool PP F.spec_IsPerm #[Sl.v p_0] w fun (ρ0 : Bool) ω1 =>
  bif !ρ0 then (
  R (.returned (.bool false)) ω1)
  else (
  pr.sem1 .sl PP (Instr.buildSlice T_Sint 4 #[(0, vI 2), (1, vI 3), (2, vI 4), (3, vI 1)]) ω1 fun (ρ2 : Sl) ω3 =>
  pr.call1 .bool PP F.spec_l7Has #[Sl.v p_0, Sl.v ρ2] ω3 fun (ρ4 : Bool) ω5 =>
  bif ρ4 then (
  R (.returned (.bool false)) ω5)
  else (
  pr.sem1 .sl PP (Instr.buildSlice T_Sint 4 #[(0, vI 3), (1, vI 2), (2, vI 4), (3, vI 1)]) ω5 fun (ρ6 : Sl) ω7 =>
  pr.sem1 .sl PP (Instr.buildSlice T_Sint 0 #[]) ω7 fun (ρ8 : Sl) ω9 =>
  pr.sem1 .sl PP (Instr.buildSlice T_SSint 0 #[]) ω9 fun (ρ10 : Sl) ω11 =>
  pr.call1 .sl PP F.spec_l7Find #[Sl.v p_0, Sl.v ρ6, Sl.v ρ8, Sl.v ρ10] ω11 fun (ρ12 : Sl) ω13 =>
  L5 pr p_0 ρ12 0 ω13 (q15 pr R)))) := by kernel_rfl
theorem E_s (p_0 : Sl) (w : World) (R : Ending → World → Prop) : E std p_0 w R = (
  call1 .bool PP F.spec_IsPerm #[Sl.v p_0] w fun (ρ0 : Bool) ω1 =>
  bif !ρ0 then (
  R (.returned (.bool false)) ω1)
  else (
  sem1 .sl PP (Instr.buildSlice T_Sint 4 #[(0, vI 2), (1, vI 3), (2, vI 4), (3, vI 1)]) ω1 fun (ρ2 : Sl) ω3 =>
  call1 .bool PP F.spec_l7Has #[Sl.v p_0, Sl.v ρ2] ω3 fun (ρ4 : Bool) ω5 =>
  bif ρ4 then (
  R (.returned (.bool false)) ω5)
  else (
  sem1 .sl PP (Instr.buildSlice T_Sint 4 #[(0, vI 3), (1, vI 2), (2, vI 4), (3, vI 1)]) ω5 fun (ρ6 : Sl) ω7 =>
  sem1 .sl PP (Instr.buildSlice T_Sint 0 #[]) ω7 fun (ρ8 : Sl) ω9 =>
  sem1 .sl PP (Instr.buildSlice T_SSint 0 #[]) ω9 fun (ρ10 : Sl) ω11 =>
  call1 .sl PP F.spec_l7Find #[Sl.v p_0, Sl.v ρ6, Sl.v ρ8, Sl.v ρ10] ω11 fun (ρ12 : Sl) ω13 =>
  L5 std p_0 ρ12 0 ω13 (q15 std R)))) := E_eq std p_0 w R
theorem drawsOk : drawsOk PP cfg okD (codeOf Try.f11) = true := by kernel_rfl
theorem calls (p_0 : Sl) {w : World} {R : Ending → World → Prop} (h : E std p_0 w R) : Calls PP F.spec_IsTwicePattern #[Sl.v p_0] w R :=
  calls_of noCount mixed drawOk Try.func11 rfl (c := cfg) (args := [Sl.v p_0]) rfl (Nat.le_of_ble_eq_true (by kernel_rfl)) drawsOk h
end spec_IsTwicePattern

namespace impl_IsTwicePattern
@[reducible] def cfg : Cfg := ⟨65, [(5, [0, 3, 19, 20, 21]), (10, [3, 42, 43, 44])], [(1, [0, 3, 19, 20, 21]), (0, [0, 3]), (3, [3, 42, 43, 44]), (2, [])], [(13, [3, 42, 43, 44, 63])], [2], [], [62, 10, 22, 58, 24, 44, 18, 70, 43, 85, 25, 71, 59, 37, 63], [82, 113, 102, 38, 103, 26, 60]⟩
def q8 (pr : Prims) (R : Ending → World → Prop) : Exit → Env → World → Prop := fun ex e w => normQ ex (fun e w => contE pr cfg (sub (codeOf Try.f12) [1, 1, 1, 1]) (fun e w => wpC pr PP cfg (DD pr) (sub (codeOf Try.f12) [1, 1, 1, 1]) (retQ Try.f12.results.toList R) e w) e w) (retQ Try.f12.results.toList R) e w
def q13 (pr : Prims) (R : Ending → World → Prop) : Exit → Env → World → Prop := fun ex e w => blockQ ex 0 (q8 pr R) e w
def q133 (pr : Prims) (R : Ending → World → Prop) : Exit → Env → World → Prop := fun ex e w => normQ ex (fun e w => contE pr cfg (sub (codeOf Try.f12) [1, 1, 1, 1, 1]) (fun e w => wpC pr PP cfg (DD pr) (sub (codeOf Try.f12) [1, 1, 1, 1, 1]) (retQ Try.f12.results.toList R) e w) e w) (retQ Try.f12.results.toList R) e w
def q138 (pr : Prims) (R : Ending → World → Prop) : Exit → Env → World → Prop := fun ex e w => blockQ ex 2 (q133 pr R) e w
def q139 (pr : Prims) (k : Env → World → Prop) (Q : Exit → Env → World → Prop) : Exit → Env → World → Prop := fun ex e w => normQ ex (fun e w => contE pr cfg (sub (codeOf Try.f12) [1, 1, 1, 1, 0, 1, 0, 0, 1, 1, 1]) (fun e w => wpC pr PP cfg (DD pr) (sub (codeOf Try.f12) [1, 1, 1, 1, 0, 1, 0, 0, 1, 1, 1]) (fun ex e w => normQ ex (fun e' w' => k (Env.restr e' (lookN cfg.loops (keyOf (sub (codeOf Try.f12) [1, 1, 1, 1, 0, 1, 0, 0])))) w') Q e w) e w) e w) (fun ex e w => normQ ex (fun e' w' => k (Env.restr e' (lookN cfg.loops (keyOf (sub (codeOf Try.f12) [1, 1, 1, 1, 0, 1, 0, 0])))) w') Q e w) e w
def q140 (pr : Prims) (k : Env → World → Prop) (Q : Exit → Env → World → Prop) : Exit → Env → World → Prop := fun ex e w => blockQ ex 3 (q139 pr k Q) e w
def q143 (pr : Prims) (k : Env → World → Prop) (Q : Exit → Env → World → Prop) : Exit → Env → World → Prop := fun ex e w => normQ ex (fun e w => contE pr cfg (sub (codeOf Try.f12) [1, 1, 1, 1, 0, 1, 0, 0, 1, 1, 0, 0, 1, 1]) (fun e w => wpC pr PP cfg (DD pr) (sub (codeOf Try.f12) [1, 1, 1, 1, 0, 1, 0, 0, 1, 1, 0, 0, 1, 1]) (q140 pr k Q) e w) e w) (q140 pr k Q) e w
def emb5 (p_0 : Sl) (within_3 : (Option Nat)) (t19 : Sl) (t20 : Int) (t21 : Int) : Env := [(0, Sl.v p_0), (3, .map within_3), (19, Sl.v t19), (20, vI t20), (21, vI t21)]
def x0 (p_0 : Sl) (within_3 : (Option Nat)) : Env := [(0, Sl.v p_0), (3, .map within_3)]
def emb10 (within_3 : (Option Nat)) (t42 : Sl) (t43 : Int) (t44 : Int) : Env := [(3, .map within_3), (42, Sl.v t42), (43, vI t43), (44, vI t44)]
def j13 (within_3 : (Option Nat)) (t42 : Sl) (t43 : Int) (t44 : Int) (t63 : Bool) : Env := [(3, .map within_3), (42, Sl.v t42), (43, vI t43), (44, vI t44), (63, .bool t63)]
def x2 : Env := []
def S5 (pr : Prims) (Q : Exit → Env → World → Prop) : (Env → World → Prop) → Env → World → Prop := fun k e w => wpC pr PP cfg (DD pr) (sub (codeOf Try.f12) [1, 1, 1, 0, 1, 0, 0]) (fun ex e w => normQ ex (fun e' w' => k (Env.restr e' (lookN cfg.loops (keyOf (sub (codeOf Try.f12) [1, 1, 1, 0, 1, 0, 0])))) w') Q e w) e w
def S10 (pr : Prims) (Q : Exit → Env → World → Prop) : (Env → World → Prop) → Env → World → Prop := fun k e w => wpC pr PP cfg (DD pr) (sub (codeOf Try.f12) [1, 1, 1, 1, 0, 1, 0, 0]) (fun ex e w => normQ ex (fun e' w' => k (Env.restr e' (lookN cfg.loops (keyOf (sub (codeOf Try.f12) [1, 1, 1, 1, 0, 1, 0, 0])))) w') Q e w) e w
def B5 (pr : Prims) (p_0 : Sl) (within_3 : (Option Nat)) (t19 : Sl) (t20 : Int) (t21 : Int) (w : World) (k : Env → World → Prop) (Q : Exit → Env → World → Prop) : Prop :=
  S5 pr Q k (emb5 p_0 within_3 t19 t20 t21) w
def L5 (pr : Prims) (p_0 : Sl) (within_3 : (Option Nat)) (t19 : Sl) (t20 : Int) (t21 : Int) (w : World) (Q : Exit → Env → World → Prop) : Prop :=
  pr.loop (S5 pr Q) (emb5 p_0 within_3 t19 t20 t21) w
def J13 (pr : Prims) (within_3 : (Option Nat)) (t42 : Sl) (t43 : Int) (t44 : Int) (t63 : Bool) (w : World) (k : Env → World → Prop) (Q : Exit → Env → World → Prop) : Prop :=
  pr.seg (fun e w => wpC pr PP cfg (DD pr) (sub (codeOf Try.f12) [1, 1, 1, 1, 0, 1, 0, 0, 1, 1, 0, 0, 1, 1]) (q140 pr k Q) e w) (j13 within_3 t42 t43 t44 t63) w
def B10 (pr : Prims) (within_3 : (Option Nat)) (t42 : Sl) (t43 : Int) (t44 : Int) (w : World) (k : Env → World → Prop) (Q : Exit → Env → World → Prop) : Prop :=
  S10 pr Q k (emb10 within_3 t42 t43 t44) w
def L10 (pr : Prims) (within_3 : (Option Nat)) (t42 : Sl) (t43 : Int) (t44 : Int) (w : World) (Q : Exit → Env → World → Prop) : Prop :=
  pr.loop (S10 pr Q) (emb10 within_3 t42 t43 t44) w
def E (pr : Prims) (p_0 : Sl) (w : World) (R : Ending → World → Prop) : Prop :=
  wpC pr PP cfg (DD pr) (codeOf Try.f12) (retQ Try.f12.results.toList R) (argE 0 [Sl.v p_0]) w
theorem B5_eq (pr : Prims) (p_0 : Sl) (within_3 : (Option Nat)) (t19 : Sl) (t20 : Int) (t21 : Int) (w : World) (k : Env → World → Prop) (Q : Exit → Env → World → Prop) : B5 pr p_0 within_3 t19 t20 t21 w k Q = (
  bif decide (t21 < t20) then (
  pr.idxK 1 t19 t21 fun (a14 : Addr) =>
  pr.load1 .sl a14 w fun (ξ15 : Sl) =>
  pr.drewAll w fun ω16 =>
  pr.idxK 1 ξ15 0 fun (a17 : Addr) =>
  pr.idxK 1 ξ15 2 fun (a18 : Addr) =>
  pr.idxK 1 ξ15 3 fun (a19 : Addr) =>
  pr.idxK 1 ξ15 4 fun (a20 : Addr) =>
  (pr.load1 (.int .i64) a17 ω16 fun (ξ21 : Int) =>
  (pr.load1 (.int .i64) a18 ω16 fun (ξ22 : Int) =>
  (pr.load1 (.int .i64) a19 ω16 fun (ξ23 : Int) =>
  pr.load1 (.int .i64) a20 ω16 fun (ξ24 : Int) =>
  pr.buildK PP T__4_int [(0, vI ξ21), (1, vI ξ22), (2, vI ξ23), (3, vI ξ24)] fun (v25 : Value) =>
  pr.sem0 PP (Instr.mapUpdate T_M_4_int_bool (.map within_3) v25 (.bool true)) ω16 fun ω26 =>
  k (emb5 p_0 within_3 t19 t20 (w64 (t21 + 1))) ω26) ∧
  (pr.load1 (.int .i64) a20 ω16 fun (ξ27 : Int) =>
  pr.load1 (.int .i64) a19 ω16 fun (ξ28 : Int) =>
  pr.buildK PP T__4_int [(0, vI ξ21), (1, vI ξ22), (2, vI ξ28), (3, vI ξ27)] fun (v29 : Value) =>
  pr.sem0 PP (Instr.mapUpdate T_M_4_int_bool (.map within_3) v29 (.bool true)) ω16 fun ω30 =>
  k (emb5 p_0 within_3 t19 t20 (w64 (t21 + 1))) ω30)) ∧
  (pr.load1 (.int .i64) a19 ω16 fun (ξ31 : Int) =>
  (pr.load1 (.int .i64) a18 ω16 fun (ξ32 : Int) =>
  pr.load1 (.int .i64) a20 ω16 fun (ξ33 : Int) =>
  pr.buildK PP T__4_int [(0, vI ξ21), (1, vI ξ32), (2, vI ξ31), (3, vI ξ33)] fun (v34 : Value) =>
  pr.sem0 PP (Instr.mapUpdate T_M_4_int_bool (.map within_3) v34 (.bool true)) ω16 fun ω35 =>
  k (emb5 p_0 within_3 t19 t20 (w64 (t21 + 1))) ω35) ∧
  (pr.load1 (.int .i64) a20 ω16 fun (ξ36 : Int) =>
  pr.load1 (.int .i64) a18 ω16 fun (ξ37 : Int) =>
  pr.buildK PP T__4_int [(0, vI ξ21), (1, vI ξ37), (2, vI ξ31), (3, vI ξ36)] fun (v38 : Value) =>
  pr.sem0 PP (Instr.mapUpdate T_M_4_int_bool (.map within_3) v38 (.bool true)) ω16 fun ω39 =>
  k (emb5 p_0 within_3 t19 t20 (w64 (t21 + 1))) ω39)) ∧
  (pr.load1 (.int .i64) a20 ω16 fun (ξ40 : Int) =>
  (pr.load1 (.int .i64) a18 ω16 fun (ξ41 : Int) =>
  pr.load1 (.int .i64) a19 ω16 fun (ξ42 : Int) =>
  pr.buildK PP T__4_int [(0, vI ξ21), (1, vI ξ41), (2, vI ξ42), (3, vI ξ40)] fun (v43 : Value) =>
  pr.sem0 PP (Instr.mapUpdate T_M_4_int_bool (.map within_3) v43 (.bool true)) ω16 fun ω44 =>
  k (emb5 p_0 within_3 t19 t20 (w64 (t21 + 1))) ω44) ∧
  (pr.load1 (.int .i64) a19 ω16 fun (ξ45 : Int) =>
  pr.load1 (.int .i64) a18 ω16 fun (ξ46 : Int) =>
  pr.buildK PP T__4_int [(0, vI ξ21), (1, vI ξ46), (2, vI ξ45), (3, vI ξ40)] fun (v47 : Value) =>
  pr.sem0 PP (Instr.mapUpdate T_M_4_int_bool (.map within_3) v47 (.bool true)) ω16 fun ω48 =>
  k (emb5 p_0 within_3 t19 t20 (w64 (t21 + 1))) ω48))) ∧
  (pr.load1 (.int .i64) a18 ω16 fun (ξ49 : Int) =>
  (pr.load1 (.int .i64) a17 ω16 fun (ξ50 : Int) =>
  (pr.load1 (.int .i64) a19 ω16 fun (ξ51 : Int) =>
  pr.load1 (.int .i64) a20 ω16 fun (ξ52 : Int) =>
  pr.buildK PP T__4_int [(0, vI ξ50), (1, vI ξ49), (2, vI ξ51), (3, vI ξ52)] fun (v53 : Value) =>
  pr.sem0 PP (Instr.mapUpdate T_M_4_int_bool (.map within_3) v53 (.bool true)) ω16 fun ω54 =>
  k (emb5 p_0 within_3 t19 t20 (w64 (t21 + 1))) ω54) ∧
  (pr.load1 (.int .i64) a20 ω16 fun (ξ55 : Int) =>
  pr.load1 (.int .i64) a19 ω16 fun (ξ56 : Int) =>
  pr.buildK PP T__4_int [(0, vI ξ50), (1, vI ξ49), (2, vI ξ56), (3, vI ξ55)] fun (v57 : Value) =>
  pr.sem0 PP (Instr.mapUpdate T_M_4_int_bool (.map within_3) v57 (.bool true)) ω16 fun ω58 =>
  k (emb5 p_0 within_3 t19 t20 (w64 (t21 + 1))) ω58)) ∧
  (pr.load1 (.int .i64) a19 ω16 fun (ξ59 : Int) =>
  (pr.load1 (.int .i64) a17 ω16 fun (ξ60 : Int) =>
  pr.load1 (.int .i64) a20 ω16 fun (ξ61 : Int) =>
  pr.buildK PP T__4_int [(0, vI ξ60), (1, vI ξ49), (2, vI ξ59), (3, vI ξ61)] fun (v62 : Value) =>
  pr.sem0 PP (Instr.mapUpdate T_M_4_int_bool (.map within_3) v62 (.bool true)) ω16 fun ω63 =>
  k (emb5 p_0 within_3 t19 t20 (w64 (t21 + 1))) ω63) ∧
  (pr.load1 (.int .i64) a20 ω16 fun (ξ64 : Int) =>
  pr.load1 (.int .i64) a17 ω16 fun (ξ65 : Int) =>
  pr.buildK PP T__4_int [(0, vI ξ65), (1, vI ξ49), (2, vI ξ59), (3, vI ξ64)] fun (v66 : Value) =>
  pr.sem0 PP (Instr.mapUpdate T_M_4_int_bool (.map within_3) v66 (.bool true)) ω16 fun ω67 =>
  k (emb5 p_0 within_3 t19 t20 (w64 (t21 + 1))) ω67)) ∧
  (pr.load1 (.int .i64) a20 ω16 fun (ξ68 : Int) =>
  (pr.load1 (.int .i64) a17 ω16 fun (ξ69 : Int) =>
  pr.load1 (.int .i64) a19 ω16 fun (ξ70 : Int) =>
  pr.buildK PP T__4_int [(0, vI ξ69), (1, vI ξ49), (2, vI ξ70), (3, vI ξ68)] fun (v71 : Value) =>
  pr.sem0 PP (Instr.mapUpdate T_M_4_int_bool (.map within_3) v71 (.bool true)) ω16 fun ω72 =>
  k (emb5 p_0 within_3 t19 t20 (w64 (t21 + 1))) ω72) ∧
  (pr.load1 (.int .i64) a19 ω16 fun (ξ73 : Int) =>
  pr.load1 (.int .i64) a17 ω16 fun (ξ74 : Int) =>
  pr.buildK PP T__4_int [(0, vI ξ74), (1, vI ξ49), (2, vI ξ73), (3, vI ξ68)] fun (v75 : Value) =>
  pr.sem0 PP (Instr.mapUpdate T_M_4_int_bool (.map within_3) v75 (.bool true)) ω16 fun ω76 =>
  k (emb5 p_0 within_3 t19 t20 (w64 (t21 + 1))) ω76))) ∧
  (pr.load1 (.int .i64) a19 ω16 fun (ξ77 : Int) =>
  (pr.load1 (.int .i64) a17 ω16 fun (ξ78 : Int) =>
  (pr.load1 (.int .i64) a18 ω16 fun (ξ79 : Int) =>
  pr.load1 (.int .i64) a20 ω16 fun (ξ80 : Int) =>
  pr.buildK PP T__4_int [(0, vI ξ78), (1, vI ξ79), (2, vI ξ77), (3, vI ξ80)] fun (v81 : Value) =>
  pr.sem0 PP (Instr.mapUpdate T_M_4_int_bool (.map within_3) v81 (.bool true)) ω16 fun ω82 =>
  k (emb5 p_0 within_3 t19 t20 (w64 (t21 + 1))) ω82) ∧
  (pr.load1 (.int .i64) a20 ω16 fun (ξ83 : Int) =>
  pr.load1 (.int .i64) a18 ω16 fun (ξ84 : Int) =>
  pr.buildK PP T__4_int [(0, vI ξ78), (1, vI ξ84), (2, vI ξ77), (3, vI ξ83)] fun (v85 : Value) =>
  pr.sem0 PP (Instr.mapUpdate T_M_4_int_bool (.map within_3) v85 (.bool true)) ω16 fun ω86 =>
  k (emb5 p_0 within_3 t19 t20 (w64 (t21 + 1))) ω86)) ∧
  (pr.load1 (.int .i64) a18 ω16 fun (ξ87 : Int) =>
  (pr.load1 (.int .i64) a17 ω16 fun (ξ88 : Int) =>
  pr.load1 (.int .i64) a20 ω16 fun (ξ89 : Int) =>
  pr.buildK PP T__4_int [(0, vI ξ88), (1, vI ξ87), (2, vI ξ77), (3, vI ξ89)] fun (v90 : Value) =>
  pr.sem0 PP (Instr.mapUpdate T_M_4_int_bool (.map within_3) v90 (.bool true)) ω16 fun ω91 =>
  k (emb5 p_0 within_3 t19 t20 (w64 (t21 + 1))) ω91) ∧
  (pr.load1 (.int .i64) a20 ω16 fun (ξ92 : Int) =>
  pr.load1 (.int .i64) a17 ω16 fun (ξ93 : Int) =>
  pr.buildK PP T__4_int [(0, vI ξ93), (1, vI ξ87), (2, vI ξ77), (3, vI ξ92)] fun (v94 : Value) =>
  pr.sem0 PP (Instr.mapUpdate T_M_4_int_bool (.map within_3) v94 (.bool true)) ω16 fun ω95 =>
  k (emb5 p_0 within_3 t19 t20 (w64 (t21 + 1))) ω95)) ∧
  (pr.load1 (.int .i64) a20 ω16 fun (ξ96 : Int) =>
  (pr.load1 (.int .i64) a17 ω16 fun (ξ97 : Int) =>
  pr.load1 (.int .i64) a18 ω16 fun (ξ98 : Int) =>
  pr.buildK PP T__4_int [(0, vI ξ97), (1, vI ξ98), (2, vI ξ77), (3, vI ξ96)] fun (v99 : Value) =>
  pr.sem0 PP (Instr.mapUpdate T_M_4_int_bool (.map within_3) v99 (.bool true)) ω16 fun ω100 =>
  k (emb5 p_0 within_3 t19 t20 (w64 (t21 + 1))) ω100) ∧
  (pr.load1 (.int .i64) a18 ω16 fun (ξ101 : Int) =>
  pr.load1 (.int .i64) a17 ω16 fun (ξ102 : Int) =>
  pr.buildK PP T__4_int [(0, vI ξ102), (1, vI ξ101), (2, vI ξ77), (3, vI ξ96)] fun (v103 : Value) =>
  pr.sem0 PP (Instr.mapUpdate T_M_4_int_bool (.map within_3) v103 (.bool true)) ω16 fun ω104 =>
  k (emb5 p_0 within_3 t19 t20 (w64 (t21 + 1))) ω104))) ∧
  (pr.load1 (.int .i64) a20 ω16 fun (ξ105 : Int) =>
  (pr.load1 (.int .i64) a17 ω16 fun (ξ106 : Int) =>
  (pr.load1 (.int .i64) a18 ω16 fun (ξ107 : Int) =>
  pr.load1 (.int .i64) a19 ω16 fun (ξ108 : Int) =>
  pr.buildK PP T__4_int [(0, vI ξ106), (1, vI ξ107), (2, vI ξ108), (3, vI ξ105)] fun (v109 : Value) =>
  pr.sem0 PP (Instr.mapUpdate T_M_4_int_bool (.map within_3) v109 (.bool true)) ω16 fun ω110 =>
  k (emb5 p_0 within_3 t19 t20 (w64 (t21 + 1))) ω110) ∧
  (pr.load1 (.int .i64) a19 ω16 fun (ξ111 : Int) =>
  pr.load1 (.int .i64) a18 ω16 fun (ξ112 : Int) =>
  pr.buildK PP T__4_int [(0, vI ξ106), (1, vI ξ112), (2, vI ξ111), (3, vI ξ105)] fun (v113 : Value) =>
  pr.sem0 PP (Instr.mapUpdate T_M_4_int_bool (.map within_3) v113 (.bool true)) ω16 fun ω114 =>
  k (emb5 p_0 within_3 t19 t20 (w64 (t21 + 1))) ω114)) ∧
  (pr.load1 (.int .i64) a18 ω16 fun (ξ115 : Int) =>
  (pr.load1 (.int .i64) a17 ω16 fun (ξ116 : Int) =>
  pr.load1 (.int .i64) a19 ω16 fun (ξ117 : Int) =>
  pr.buildK PP T__4_int [(0, vI ξ116), (1, vI ξ115), (2, vI ξ117), (3, vI ξ105)] fun (v118 : Value) =>
  pr.sem0 PP (Instr.mapUpdate T_M_4_int_bool (.map within_3) v118 (.bool true)) ω16 fun ω119 =>
  k (emb5 p_0 within_3 t19 t20 (w64 (t21 + 1))) ω119) ∧
  (pr.load1 (.int .i64) a19 ω16 fun (ξ120 : Int) =>
  pr.load1 (.int .i64) a17 ω16 fun (ξ121 : Int) =>
  pr.buildK PP T__4_int [(0, vI ξ121), (1, vI ξ115), (2, vI ξ120), (3, vI ξ105)] fun (v122 : Value) =>
  pr.sem0 PP (Instr.mapUpdate T_M_4_int_bool (.map within_3) v122 (.bool true)) ω16 fun ω123 =>
  k (emb5 p_0 within_3 t19 t20 (w64 (t21 + 1))) ω123)) ∧
  (pr.load1 (.int .i64) a19 ω16 fun (ξ124 : Int) =>
  (pr.load1 (.int .i64) a17 ω16 fun (ξ125 : Int) =>
  pr.load1 (.int .i64) a18 ω16 fun (ξ126 : Int) =>
  pr.buildK PP T__4_int [(0, vI ξ125), (1, vI ξ126), (2, vI ξ124), (3, vI ξ105)] fun (v127 : Value) =>
  pr.sem0 PP (Instr.mapUpdate T_M_4_int_bool (.map within_3) v127 (.bool true)) ω16 fun ω128 =>
  k (emb5 p_0 within_3 t19 t20 (w64 (t21 + 1))) ω128) ∧
  (pr.load1 (.int .i64) a18 ω16 fun (ξ129 : Int) =>
  pr.load1 (.int .i64) a17 ω16 fun (ξ130 : Int) =>
  pr.buildK PP T__4_int [(0, vI ξ130), (1, vI ξ129), (2, vI ξ124), (3, vI ξ105)] fun (v131 : Value) =>
  pr.sem0 PP (Instr.mapUpdate T_M_4_int_bool (.map within_3) v131 (.bool true)) ω16 fun ω132 =>
  k (emb5 p_0 within_3 t19 t20 (w64 (t21 + 1))) ω132))))
  else (
  Q (.exit 0) (x0 p_0 within_3) w)) := by kernel_rfl
theorem B5_s (p_0 : Sl) (within_3 : (Option Nat)) (t19 : Sl) (t20 : Int) (t21 : Int) (w : World) (k : Env → World → Prop) (Q : Exit → Env → World → Prop) : B5 std p_0 within_3 t19 t20 t21 w k Q = (
  bif decide (t21 < t20) then (
  idxK 1 t19 t21 fun (a14 : Addr) =>
  load1 .sl a14 w fun (ξ15 : Sl) =>
  drewAll w fun ω16 =>
  idxK 1 ξ15 0 fun (a17 : Addr) =>
  idxK 1 ξ15 2 fun (a18 : Addr) =>
  idxK 1 ξ15 3 fun (a19 : Addr) =>
  idxK 1 ξ15 4 fun (a20 : Addr) =>
  (load1 (.int .i64) a17 ω16 fun (ξ21 : Int) =>
  (load1 (.int .i64) a18 ω16 fun (ξ22 : Int) =>
  (load1 (.int .i64) a19 ω16 fun (ξ23 : Int) =>
  load1 (.int .i64) a20 ω16 fun (ξ24 : Int) =>
  buildK PP T__4_int [(0, vI ξ21), (1, vI ξ22), (2, vI ξ23), (3, vI ξ24)] fun (v25 : Value) =>
  sem0 PP (Instr.mapUpdate T_M_4_int_bool (.map within_3) v25 (.bool true)) ω16 fun ω26 =>
  k (emb5 p_0 within_3 t19 t20 (w64 (t21 + 1))) ω26) ∧
  (load1 (.int .i64) a20 ω16 fun (ξ27 : Int) =>
  load1 (.int .i64) a19 ω16 fun (ξ28 : Int) =>
  buildK PP T__4_int [(0, vI ξ21), (1, vI ξ22), (2, vI ξ28), (3, vI ξ27)] fun (v29 : Value) =>
  sem0 PP (Instr.mapUpdate T_M_4_int_bool (.map within_3) v29 (.bool true)) ω16 fun ω30 =>
  k (emb5 p_0 within_3 t19 t20 (w64 (t21 + 1))) ω30)) ∧
  (load1 (.int .i64) a19 ω16 fun (ξ31 : Int) =>
  (load1 (.int .i64) a18 ω16 fun (ξ32 : Int) =>
  load1 (.int .i64) a20 ω16 fun (ξ33 : Int) =>
  buildK PP T__4_int [(0, vI ξ21), (1, vI ξ32), (2, vI ξ31), (3, vI ξ33)] fun (v34 : Value) =>
  sem0 PP (Instr.mapUpdate T_M_4_int_bool (.map within_3) v34 (.bool true)) ω16 fun ω35 =>
  k (emb5 p_0 within_3 t19 t20 (w64 (t21 + 1))) ω35) ∧
  (load1 (.int .i64) a20 ω16 fun (ξ36 : Int) =>
  load1 (.int .i64) a18 ω16 fun (ξ37 : Int) =>
  buildK PP T__4_int [(0, vI ξ21), (1, vI ξ37), (2, vI ξ31), (3, vI ξ36)] fun (v38 : Value) =>
  sem0 PP (Instr.mapUpdate T_M_4_int_bool (.map within_3) v38 (.bool true)) ω16 fun ω39 =>
  k (emb5 p_0 within_3 t19 t20 (w64 (t21 + 1))) ω39)) ∧
  (load1 (.int .i64) a20 ω16 fun (ξ40 : Int) =>
  (load1 (.int .i64) a18 ω16 fun (ξ41 : Int) =>
  load1 (.int .i64) a19 ω16 fun (ξ42 : Int) =>
  buildK PP T__4_int [(0, vI ξ21), (1, vI ξ41), (2, vI ξ42), (3, vI ξ40)] fun (v43 : Value) =>
  sem0 PP (Instr.mapUpdate T_M_4_int_bool (.map within_3) v43 (.bool true)) ω16 fun ω44 =>
  k (emb5 p_0 within_3 t19 t20 (w64 (t21 + 1))) ω44) ∧
  (load1 (.int .i64) a19 ω16 fun (ξ45 : Int) =>
  load1 (.int .i64) a18 ω16 fun (ξ46 : Int) =>
  buildK PP T__4_int [(0, vI ξ21), (1, vI ξ46), (2, vI ξ45), (3, vI ξ40)] fun (v47 : Value) =>
  sem0 PP (Instr.mapUpdate T_M_4_int_bool (.map within_3) v47 (.bool true)) ω16 fun ω48 =>
  k (emb5 p_0 within_3 t19 t20 (w64 (t21 + 1))) ω48))) ∧
  (load1 (.int .i64) a18 ω16 fun (ξ49 : Int) =>
  (load1 (.int .i64) a17 ω16 fun (ξ50 : Int) =>
  (load1 (.int .i64) a19 ω16 fun (ξ51 : Int) =>
  load1 (.int .i64) a20 ω16 fun (ξ52 : Int) =>
  buildK PP T__4_int [(0, vI ξ50), (1, vI ξ49), (2, vI ξ51), (3, vI ξ52)] fun (v53 : Value) =>
  sem0 PP (Instr.mapUpdate T_M_4_int_bool (.map within_3) v53 (.bool true)) ω16 fun ω54 =>
  k (emb5 p_0 within_3 t19 t20 (w64 (t21 + 1))) ω54) ∧
  (load1 (.int .i64) a20 ω16 fun (ξ55 : Int) =>
  load1 (.int .i64) a19 ω16 fun (ξ56 : Int) =>
  buildK PP T__4_int [(0, vI ξ50), (1, vI ξ49), (2, vI ξ56), (3, vI ξ55)] fun (v57 : Value) =>
  sem0 PP (Instr.mapUpdate T_M_4_int_bool (.map within_3) v57 (.bool true)) ω16 fun ω58 =>
  k (emb5 p_0 within_3 t19 t20 (w64 (t21 + 1))) ω58)) ∧
  (load1 (.int .i64) a19 ω16 fun (ξ59 : Int) =>
  (load1 (.int .i64) a17 ω16 fun (ξ60 : Int) =>
  load1 (.int .i64) a20 ω16 fun (ξ61 : Int) =>
  buildK PP T__4_int [(0, vI ξ60), (1, vI ξ49), (2, vI ξ59), (3, vI ξ61)] fun (v62 : Value) =>
  sem0 PP (Instr.mapUpdate T_M_4_int_bool (.map within_3) v62 (.bool true)) ω16 fun ω63 =>
  k (emb5 p_0 within_3 t19 t20 (w64 (t21 + 1))) ω63) ∧
  (load1 (.int .i64) a20 ω16 fun (ξ64 : Int) =>
  load1 (.int .i64) a17 ω16 fun (ξ65 : Int) =>
  buildK PP T__4_int [(0, vI ξ65), (1, vI ξ49), (2, vI ξ59), (3, vI ξ64)] fun (v66 : Value) =>
  sem0 PP (Instr.mapUpdate T_M_4_int_bool (.map within_3) v66 (.bool true)) ω16 fun ω67 =>
  k (emb5 p_0 within_3 t19 t20 (w64 (t21 + 1))) ω67)) ∧
  (load1 (.int .i64) a20 ω16 fun (ξ68 : Int) =>
  (load1 (.int .i64) a17 ω16 fun (ξ69 : Int) =>
  load1 (.int .i64) a19 ω16 fun (ξ70 : Int) =>
  buildK PP T__4_int [(0, vI ξ69), (1, vI ξ49), (2, vI ξ70), (3, vI ξ68)] fun (v71 : Value) =>
  sem0 PP (Instr.mapUpdate T_M_4_int_bool (.map within_3) v71 (.bool true)) ω16 fun ω72 =>
  k (emb5 p_0 within_3 t19 t20 (w64 (t21 + 1))) ω72) ∧
  (load1 (.int .i64) a19 ω16 fun (ξ73 : Int) =>
  load1 (.int .i64) a17 ω16 fun (ξ74 : Int) =>
  buildK PP T__4_int [(0, vI ξ74), (1, vI ξ49), (2, vI ξ73), (3, vI ξ68)] fun (v75 : Value) =>
  sem0 PP (Instr.mapUpdate T_M_4_int_bool (.map within_3) v75 (.bool true)) ω16 fun ω76 =>
  k (emb5 p_0 within_3 t19 t20 (w64 (t21 + 1))) ω76))) ∧
  (load1 (.int .i64) a19 ω16 fun (ξ77 : Int) =>
  (load1 (.int .i64) a17 ω16 fun (ξ78 : Int) =>
  (load1 (.int .i64) a18 ω16 fun (ξ79 : Int) =>
  load1 (.int .i64) a20 ω16 fun (ξ80 : Int) =>
  buildK PP T__4_int [(0, vI ξ78), (1, vI ξ79), (2, vI ξ77), (3, vI ξ80)] fun (v81 : Value) =>
  sem0 PP (Instr.mapUpdate T_M_4_int_bool (.map within_3) v81 (.bool true)) ω16 fun ω82 =>
  k (emb5 p_0 within_3 t19 t20 (w64 (t21 + 1))) ω82) ∧
  (load1 (.int .i64) a20 ω16 fun (ξ83 : Int) =>
  load1 (.int .i64) a18 ω16 fun (ξ84 : Int) =>
  buildK PP T__4_int [(0, vI ξ78), (1, vI ξ84), (2, vI ξ77), (3, vI ξ83)] fun (v85 : Value) =>
  sem0 PP (Instr.mapUpdate T_M_4_int_bool (.map within_3) v85 (.bool true)) ω16 fun ω86 =>
  k (emb5 p_0 within_3 t19 t20 (w64 (t21 + 1))) ω86)) ∧
  (load1 (.int .i64) a18 ω16 fun (ξ87 : Int) =>
  (load1 (.int .i64) a17 ω16 fun (ξ88 : Int) =>
  load1 (.int .i64) a20 ω16 fun (ξ89 : Int) =>
  buildK PP T__4_int [(0, vI ξ88), (1, vI ξ87), (2, vI ξ77), (3, vI ξ89)] fun (v90 : Value) =>
  sem0 PP (Instr.mapUpdate T_M_4_int_bool (.map within_3) v90 (.bool true)) ω16 fun ω91 =>
  k (emb5 p_0 within_3 t19 t20 (w64 (t21 + 1))) ω91) ∧
  (load1 (.int .i64) a20 ω16 fun (ξ92 : Int) =>
  load1 (.int .i64) a17 ω16 fun (ξ93 : Int) =>
  buildK PP T__4_int [(0, vI ξ93), (1, vI ξ87), (2, vI ξ77), (3, vI ξ92)] fun (v94 : Value) =>
  sem0 PP (Instr.mapUpdate T_M_4_int_bool (.map within_3) v94 (.bool true)) ω16 fun ω95 =>
  k (emb5 p_0 within_3 t19 t20 (w64 (t21 + 1))) ω95)) ∧
  (load1 (.int .i64) a20 ω16 fun (ξ96 : Int) =>
  (load1 (.int .i64) a17 ω16 fun (ξ97 : Int) =>
  load1 (.int .i64) a18 ω16 fun (ξ98 : Int) =>
  buildK PP T__4_int [(0, vI ξ97), (1, vI ξ98), (2, vI ξ77), (3, vI ξ96)] fun (v99 : Value) =>
  sem0 PP (Instr.mapUpdate T_M_4_int_bool (.map within_3) v99 (.bool true)) ω16 fun ω100 =>
  k (emb5 p_0 within_3 t19 t20 (w64 (t21 + 1))) ω100) ∧
  (load1 (.int .i64) a18 ω16 fun (ξ101 : Int) =>
  load1 (.int .i64) a17 ω16 fun (ξ102 : Int) =>
  buildK PP T__4_int [(0, vI ξ102), (1, vI ξ101), (2, vI ξ77), (3, vI ξ96)] fun (v103 : Value) =>
  sem0 PP (Instr.mapUpdate T_M_4_int_bool (.map within_3) v103 (.bool true)) ω16 fun ω104 =>
  k (emb5 p_0 within_3 t19 t20 (w64 (t21 + 1))) ω104))) ∧
  (load1 (.int .i64) a20 ω16 fun (ξ105 : Int) =>
  (load1 (.int .i64) a17 ω16 fun (ξ106 : Int) =>
  (load1 (.int .i64) a18 ω16 fun (ξ107 : Int) =>
  load1 (.int .i64) a19 ω16 fun (ξ108 : Int) =>
  buildK PP T__4_int [(0, vI ξ106), (1, vI ξ107), (2, vI ξ108), (3, vI ξ105)] fun (v109 : Value) =>
  sem0 PP (Instr.mapUpdate T_M_4_int_bool (.map within_3) v109 (.bool true)) ω16 fun ω110 =>
  k (emb5 p_0 within_3 t19 t20 (w64 (t21 + 1))) ω110) ∧
  (load1 (.int .i64) a19 ω16 fun (ξ111 : Int) =>
  load1 (.int .i64) a18 ω16 fun (ξ112 : Int) =>
  buildK PP T__4_int [(0, vI ξ106), (1, vI ξ112), (2, vI ξ111), (3, vI ξ105)] fun (v113 : Value) =>
  sem0 PP (Instr.mapUpdate T_M_4_int_bool (.map within_3) v113 (.bool true)) ω16 fun ω114 =>
  k (emb5 p_0 within_3 t19 t20 (w64 (t21 + 1))) ω114)) ∧
  (load1 (.int .i64) a18 ω16 fun (ξ115 : Int) =>
  (load1 (.int .i64) a17 ω16 fun (ξ116 : Int) =>
  load1 (.int .i64) a19 ω16 fun (ξ117 : Int) =>
  buildK PP T__4_int [(0, vI ξ116), (1, vI ξ115), (2, vI ξ117), (3, vI ξ105)] fun (v118 : Value) =>
  sem0 PP (Instr.mapUpdate T_M_4_int_bool (.map within_3) v118 (.bool true)) ω16 fun ω119 =>
  k (emb5 p_0 within_3 t19 t20 (w64 (t21 + 1))) ω119) ∧
  (load1 (.int .i64) a19 ω16 fun (ξ120 : Int) =>
  load1 (.int .i64) a17 ω16 fun (ξ121 : Int) =>
  buildK PP T__4_int [(0, vI ξ121), (1, vI ξ115), (2, vI ξ120), (3, vI ξ105)] fun (v122 : Value) =>
  sem0 PP (Instr.mapUpdate T_M_4_int_bool (.map within_3) v122 (.bool true)) ω16 fun ω123 =>
  k (emb5 p_0 within_3 t19 t20 (w64 (t21 + 1))) ω123)) ∧
  (load1 (.int .i64) a19 ω16 fun (ξ124 : Int) =>
  (load1 (.int .i64) a17 ω16 fun (ξ125 : Int) =>
  load1 (.int .i64) a18 ω16 fun (ξ126 : Int) =>
  buildK PP T__4_int [(0, vI ξ125), (1, vI ξ126), (2, vI ξ124), (3, vI ξ105)] fun (v127 : Value) =>
  sem0 PP (Instr.mapUpdate T_M_4_int_bool (.map within_3) v127 (.bool true)) ω16 fun ω128 =>
  k (emb5 p_0 within_3 t19 t20 (w64 (t21 + 1))) ω128) ∧
  (load1 (.int .i64) a18 ω16 fun (ξ129 : Int) =>
  load1 (.int .i64) a17 ω16 fun (ξ130 : Int) =>
  buildK PP T__4_int [(0, vI ξ130), (1, vI ξ129), (2, vI ξ124), (3, vI ξ105)] fun (v131 : Value) =>
  sem0 PP (Instr.mapUpdate T_M_4_int_bool (.map within_3) v131 (.bool true)) ω16 fun ω132 =>
  k (emb5 p_0 within_3 t19 t20 (w64 (t21 + 1))) ω132))))
  else (
  Q (.exit 0) (x0 p_0 within_3) w)) := B5_eq std p_0 within_3 t19 t20 t21 w k Q
theorem L5_rule (p_0 : Sl) (within_3 : (Option Nat)) (t19 : Sl) (t20 : Int) (t21 : Int) (w : World) (Q : Exit → Env → World → Prop) (I : Int → World → Prop) (μ : Int → World → Nat) (h0 : I t21 w)
    (h : ∀ (t21 : Int) (w' : World), I t21 w' → B5 std p_0 within_3 t19 t20 t21 w' (fun e2 w2 => ∃ t21_n, e2 = emb5 p_0 within_3 t19 t20 t21_n ∧ I t21_n w2 ∧ μ t21_n w2 < μ t21 w') Q) :
    L5 std p_0 within_3 t19 t20 t21 w Q := by
  unfold L5
  refine LoopE.intro (σ := Int) (step := S5 std Q) (fun s => emb5 p_0 within_3 t19 t20 s) (fun s w => I s w) (fun s w => μ s w) t21 rfl h0 ?_
  intro s w' hI
  have h1 := h s w' hI
  unfold B5 at h1
  exact h1
theorem J13_gen (pr : Prims) (within_3 : (Option Nat)) (t42 : Sl) (t43 : Int) (t44 : Int) (t63 : Bool) (w : World) (k : Env → World → Prop) (Q : Exit → Env → World → Prop) : wpC pr PP cfg (DD pr) (sub (codeOf Try.f12) [1, 1, 1, 1, 0, 1, 0, 0, 1, 1, 0, 0, 1, 1]) (q140 pr k Q) (j13 within_3 t42 t43 t44 t63) w = (
  bif t63 then (
  Q .ret [(2, .bool false)] w)
  else (
  k (emb10 within_3 t42 t43 (w64 (t44 + 1))) w)) := by kernel_rfl
theorem J13_s (within_3 : (Option Nat)) (t42 : Sl) (t43 : Int) (t44 : Int) (t63 : Bool) (w : World) (k : Env → World → Prop) (Q : Exit → Env → World → Prop) : J13 std within_3 t42 t43 t44 t63 w k Q = (
  bif t63 then (
  Q .ret [(2, .bool false)] w)
  else (
  k (emb10 within_3 t42 t43 (w64 (t44 + 1))) w)) := J13_gen std within_3 t42 t43 t44 t63 w k Q
theorem B10_eq (pr : Prims) (within_3 : (Option Nat)) (t42 : Sl) (t43 : Int) (t44 : Int) (w : World) (k : Env → World → Prop) (Q : Exit → Env → World → Prop) : B10 pr within_3 t42 t43 t44 w k Q = (
  bif decide (t44 < t43) then (
  pr.idxK 1 t42 t44 fun (a141 : Addr) =>
  pr.load1 .sl a141 w fun (ξ142 : Sl) =>
  pr.drewAll w fun ω144 =>
  pr.idxK 1 ξ142 0 fun (a145 : Addr) =>
  pr.idxK 1 ξ142 1 fun (a146 : Addr) =>
  pr.idxK 1 ξ142 2 fun (a147 : Addr) =>
  pr.idxK 1 ξ142 3 fun (a148 : Addr) =>
  (pr.load1 (.int .i64) a145 ω144 fun (ξ149 : Int) =>
  (pr.load1 (.int .i64) a146 ω144 fun (ξ150 : Int) =>
  (pr.load1 (.int .i64) a147 ω144 fun (ξ151 : Int) =>
  pr.load1 (.int .i64) a148 ω144 fun (ξ152 : Int) =>
  pr.buildK PP T__4_int [(0, vI ξ149), (1, vI ξ150), (2, vI ξ151), (3, vI ξ152)] fun (v153 : Value) =>
  pr.sem1 .bool PP (Instr.lookup T_M_4_int_bool (.map within_3) v153 false) ω144 fun (ρ154 : Bool) ω155 =>
  J13 pr within_3 t42 t43 t44 (!ρ154) ω155 k Q) ∧
  (pr.load1 (.int .i64) a148 ω144 fun (ξ156 : Int) =>
  pr.load1 (.int .i64) a147 ω144 fun (ξ157 : Int) =>
  pr.buildK PP T__4_int [(0, vI ξ149), (1, vI ξ150), (2, vI ξ157), (3, vI ξ156)] fun (v158 : Value) =>
  pr.sem1 .bool PP (Instr.lookup T_M_4_int_bool (.map within_3) v158 false) ω144 fun (ρ159 : Bool) ω160 =>
  J13 pr within_3 t42 t43 t44 (!ρ159) ω160 k Q)) ∧
  (pr.load1 (.int .i64) a147 ω144 fun (ξ161 : Int) =>
  (pr.load1 (.int .i64) a146 ω144 fun (ξ162 : Int) =>
  pr.load1 (.int .i64) a148 ω144 fun (ξ163 : Int) =>
  pr.buildK PP T__4_int [(0, vI ξ149), (1, vI ξ162), (2, vI ξ161), (3, vI ξ163)] fun (v164 : Value) =>
  pr.sem1 .bool PP (Instr.lookup T_M_4_int_bool (.map within_3) v164 false) ω144 fun (ρ165 : Bool) ω166 =>
  J13 pr within_3 t42 t43 t44 (!ρ165) ω166 k Q) ∧
  (pr.load1 (.int .i64) a148 ω144 fun (ξ167 : Int) =>
  pr.load1 (.int .i64) a146 ω144 fun (ξ168 : Int) =>
  pr.buildK PP T__4_int [(0, vI ξ149), (1, vI ξ168), (2, vI ξ161), (3, vI ξ167)] fun (v169 : Value) =>
  pr.sem1 .bool PP (Instr.lookup T_M_4_int_bool (.map within_3) v169 false) ω144 fun (ρ170 : Bool) ω171 =>
  J13 pr within_3 t42 t43 t44 (!ρ170) ω171 k Q)) ∧
  (pr.load1 (.int .i64) a148 ω144 fun (ξ172 : Int) =>
  (pr.load1 (.int .i64) a146 ω144 fun (ξ173 : Int) =>
  pr.load1 (.int .i64) a147 ω144 fun (ξ174 : Int) =>
  pr.buildK PP T__4_int [(0, vI ξ149), (1, vI ξ173), (2, vI ξ174), (3, vI ξ172)] fun (v175 : Value) =>
  pr.sem1 .bool PP (Instr.lookup T_M_4_int_bool (.map within_3) v175 false) ω144 fun (ρ176 : Bool) ω177 =>
  J13 pr within_3 t42 t43 t44 (!ρ176) ω177 k Q) ∧
  (pr.load1 (.int .i64) a147 ω144 fun (ξ178 : Int) =>
  pr.load1 (.int .i64) a146 ω144 fun (ξ179 : Int) =>
  pr.buildK PP T__4_int [(0, vI ξ149), (1, vI ξ179), (2, vI ξ178), (3, vI ξ172)] fun (v180 : Value) =>
  pr.sem1 .bool PP (Instr.lookup T_M_4_int_bool (.map within_3) v180 false) ω144 fun (ρ181 : Bool) ω182 =>
  J13 pr within_3 t42 t43 t44 (!ρ181) ω182 k Q))) ∧
  (pr.load1 (.int .i64) a146 ω144 fun (ξ183 : Int) =>
  (pr.load1 (.int .i64) a145 ω144 fun (ξ184 : Int) =>
  (pr.load1 (.int .i64) a147 ω144 fun (ξ185 : Int) =>
  pr.load1 (.int .i64) a148 ω144 fun (ξ186 : Int) =>
  pr.buildK PP T__4_int [(0, vI ξ184), (1, vI ξ183), (2, vI ξ185), (3, vI ξ186)] fun (v187 : Value) =>
  pr.sem1 .bool PP (Instr.lookup T_M_4_int_bool (.map within_3) v187 false) ω144 fun (ρ188 : Bool) ω189 =>
  J13 pr within_3 t42 t43 t44 (!ρ188) ω189 k Q) ∧
  (pr.load1 (.int .i64) a148 ω144 fun (ξ190 : Int) =>
  pr.load1 (.int .i64) a147 ω144 fun (ξ191 : Int) =>
  pr.buildK PP T__4_int [(0, vI ξ184), (1, vI ξ183), (2, vI ξ191), (3, vI ξ190)] fun (v192 : Value) =>
  pr.sem1 .bool PP (Instr.lookup T_M_4_int_bool (.map within_3) v192 false) ω144 fun (ρ193 : Bool) ω194 =>
  J13 pr within_3 t42 t43 t44 (!ρ193) ω194 k Q)) ∧
  (pr.load1 (.int .i64) a147 ω144 fun (ξ195 : Int) =>
  (pr.load1 (.int .i64) a145 ω144 fun (ξ196 : Int) =>
  pr.load1 (.int .i64) a148 ω144 fun (ξ197 : Int) =>
  pr.buildK PP T__4_int [(0, vI ξ196), (1, vI ξ183), (2, vI ξ195), (3, vI ξ197)] fun (v198 : Value) =>
  pr.sem1 .bool PP (Instr.lookup T_M_4_int_bool (.map within_3) v198 false) ω144 fun (ρ199 : Bool) ω200 =>
  J13 pr within_3 t42 t43 t44 (!ρ199) ω200 k Q) ∧
  (pr.load1 (.int .i64) a148 ω144 fun (ξ201 : Int) =>
  pr.load1 (.int .i64) a145 ω144 fun (ξ202 : Int) =>
  pr.buildK PP T__4_int [(0, vI ξ202), (1, vI ξ183), (2, vI ξ195), (3, vI ξ201)] fun (v203 : Value) =>
  pr.sem1 .bool PP (Instr.lookup T_M_4_int_bool (.map within_3) v203 false) ω144 fun (ρ204 : Bool) ω205 =>
  J13 pr within_3 t42 t43 t44 (!ρ204) ω205 k Q)) ∧
  (pr.load1 (.int .i64) a148 ω144 fun (ξ206 : Int) =>
  (pr.load1 (.int .i64) a145 ω144 fun (ξ207 : Int) =>
  pr.load1 (.int .i64) a147 ω144 fun (ξ208 : Int) =>
  pr.buildK PP T__4_int [(0, vI ξ207), (1, vI ξ183), (2, vI ξ208), (3, vI ξ206)] fun (v209 : Value) =>
  pr.sem1 .bool PP (Instr.lookup T_M_4_int_bool (.map within_3) v209 false) ω144 fun (ρ210 : Bool) ω211 =>
  J13 pr within_3 t42 t43 t44 (!ρ210) ω211 k Q) ∧
  (pr.load1 (.int .i64) a147 ω144 fun (ξ212 : Int) =>
  pr.load1 (.int .i64) a145 ω144 fun (ξ213 : Int) =>
  pr.buildK PP T__4_int [(0, vI ξ213), (1, vI ξ183), (2, vI ξ212), (3, vI ξ206)] fun (v214 : Value) =>
  pr.sem1 .bool PP (Instr.lookup T_M_4_int_bool (.map within_3) v214 false) ω144 fun (ρ215 : Bool) ω216 =>
  J13 pr within_3 t42 t43 t44 (!ρ215) ω216 k Q))) ∧
  (pr.load1 (.int .i64) a147 ω144 fun (ξ217 : Int) =>
  (pr.load1 (.int .i64) a145 ω144 fun (ξ218 : Int) =>
  (pr.load1 (.int .i64) a146 ω144 fun (ξ219 : Int) =>
  pr.load1 (.int .i64) a148 ω144 fun (ξ220 : Int) =>
  pr.buildK PP T__4_int [(0, vI ξ218), (1, vI ξ219), (2, vI ξ217), (3, vI ξ220)] fun (v221 : Value) =>
  pr.sem1 .bool PP (Instr.lookup T_M_4_int_bool (.map within_3) v221 false) ω144 fun (ρ222 : Bool) ω223 =>
  J13 pr within_3 t42 t43 t44 (!ρ222) ω223 k Q) ∧
  (pr.load1 (.int .i64) a148 ω144 fun (ξ224 : Int) =>
  pr.load1 (.int .i64) a146 ω144 fun (ξ225 : Int) =>
  pr.buildK PP T__4_int [(0, vI ξ218), (1, vI ξ225), (2, vI ξ217), (3, vI ξ224)] fun (v226 : Value) =>
  pr.sem1 .bool PP (Instr.lookup T_M_4_int_bool (.map within_3) v226 false) ω144 fun (ρ227 : Bool) ω228 =>
  J13 pr within_3 t42 t43 t44 (!ρ227) ω228 k Q)) ∧
  (pr.load1 (.int .i64) a146 ω144 fun (ξ229 : Int) =>
  (pr.load1 (.int .i64) a145 ω144 fun (ξ230 : Int) =>
  pr.load1 (.int .i64) a148 ω144 fun (ξ231 : Int) =>
  pr.buildK PP T__4_int [(0, vI ξ230), (1, vI ξ229), (2, vI ξ217), (3, vI ξ231)] fun (v232 : Value) =>
  pr.sem1 .bool PP (Instr.lookup T_M_4_int_bool (.map within_3) v232 false) ω144 fun (ρ233 : Bool) ω234 =>
  J13 pr within_3 t42 t43 t44 (!ρ233) ω234 k Q) ∧
  (pr.load1 (.int .i64) a148 ω144 fun (ξ235 : Int) =>
  pr.load1 (.int .i64) a145 ω144 fun (ξ236 : Int) =>
  pr.buildK PP T__4_int [(0, vI ξ236), (1, vI ξ229), (2, vI ξ217), (3, vI ξ235)] fun (v237 : Value) =>
  pr.sem1 .bool PP (Instr.lookup T_M_4_int_bool (.map within_3) v237 false) ω144 fun (ρ238 : Bool) ω239 =>
  J13 pr within_3 t42 t43 t44 (!ρ238) ω239 k Q)) ∧
  (pr.load1 (.int .i64) a148 ω144 fun (ξ240 : Int) =>
  (pr.load1 (.int .i64) a145 ω144 fun (ξ241 : Int) =>
  pr.load1 (.int .i64) a146 ω144 fun (ξ242 : Int) =>
  pr.buildK PP T__4_int [(0, vI ξ241), (1, vI ξ242), (2, vI ξ217), (3, vI ξ240)] fun (v243 : Value) =>
  pr.sem1 .bool PP (Instr.lookup T_M_4_int_bool (.map within_3) v243 false) ω144 fun (ρ244 : Bool) ω245 =>
  J13 pr within_3 t42 t43 t44 (!ρ244) ω245 k Q) ∧
  (pr.load1 (.int .i64) a146 ω144 fun (ξ246 : Int) =>
  pr.load1 (.int .i64) a145 ω144 fun (ξ247 : Int) =>
  pr.buildK PP T__4_int [(0, vI ξ247), (1, vI ξ246), (2, vI ξ217), (3, vI ξ240)] fun (v248 : Value) =>
  pr.sem1 .bool PP (Instr.lookup T_M_4_int_bool (.map within_3) v248 false) ω144 fun (ρ249 : Bool) ω250 =>
  J13 pr within_3 t42 t43 t44 (!ρ249) ω250 k Q))) ∧
  (pr.load1 (.int .i64) a148 ω144 fun (ξ251 : Int) =>
  (pr.load1 (.int .i64) a145 ω144 fun (ξ252 : Int) =>
  (pr.load1 (.int .i64) a146 ω144 fun (ξ253 : Int) =>
  pr.load1 (.int .i64) a147 ω144 fun (ξ254 : Int) =>
  pr.buildK PP T__4_int [(0, vI ξ252), (1, vI ξ253), (2, vI ξ254), (3, vI ξ251)] fun (v255 : Value) =>
  pr.sem1 .bool PP (Instr.lookup T_M_4_int_bool (.map within_3) v255 false) ω144 fun (ρ256 : Bool) ω257 =>
  J13 pr within_3 t42 t43 t44 (!ρ256) ω257 k Q) ∧
  (pr.load1 (.int .i64) a147 ω144 fun (ξ258 : Int) =>
  pr.load1 (.int .i64) a146 ω144 fun (ξ259 : Int) =>
  pr.buildK PP T__4_int [(0, vI ξ252), (1, vI ξ259), (2, vI ξ258), (3, vI ξ251)] fun (v260 : Value) =>
  pr.sem1 .bool PP (Instr.lookup T_M_4_int_bool (.map within_3) v260 false) ω144 fun (ρ261 : Bool) ω262 =>
  J13 pr within_3 t42 t43 t44 (!ρ261) ω262 k Q)) ∧
  (pr.load1 (.int .i64) a146 ω144 fun (ξ263 : Int) =>
  (pr.load1 (.int .i64) a145 ω144 fun (ξ264 : Int) =>
  pr.load1 (.int .i64) a147 ω144 fun (ξ265 : Int) =>
  pr.buildK PP T__4_int [(0, vI ξ264), (1, vI ξ263), (2, vI ξ265), (3, vI ξ251)] fun (v266 : Value) =>
  pr.sem1 .bool PP (Instr.lookup T_M_4_int_bool (.map within_3) v266 false) ω144 fun (ρ267 : Bool) ω268 =>
  J13 pr within_3 t42 t43 t44 (!ρ267) ω268 k Q) ∧
  (pr.load1 (.int .i64) a147 ω144 fun (ξ269 : Int) =>
  pr.load1 (.int .i64) a145 ω144 fun (ξ270 : Int) =>
  pr.buildK PP T__4_int [(0, vI ξ270), (1, vI ξ263), (2, vI ξ269), (3, vI ξ251)] fun (v271 : Value) =>
  pr.sem1 .bool PP (Instr.lookup T_M_4_int_bool (.map within_3) v271 false) ω144 fun (ρ272 : Bool) ω273 =>
  J13 pr within_3 t42 t43 t44 (!ρ272) ω273 k Q)) ∧
  (pr.load1 (.int .i64) a147 ω144 fun (ξ274 : Int) =>
  (pr.load1 (.int .i64) a145 ω144 fun (ξ275 : Int) =>
  pr.load1 (.int .i64) a146 ω144 fun (ξ276 : Int) =>
  pr.buildK PP T__4_int [(0, vI ξ275), (1, vI ξ276), (2, vI ξ274), (3, vI ξ251)] fun (v277 : Value) =>
  pr.sem1 .bool PP (Instr.lookup T_M_4_int_bool (.map within_3) v277 false) ω144 fun (ρ278 : Bool) ω279 =>
  J13 pr within_3 t42 t43 t44 (!ρ278) ω279 k Q) ∧
  (pr.load1 (.int .i64) a146 ω144 fun (ξ280 : Int) =>
  pr.load1 (.int .i64) a145 ω144 fun (ξ281 : Int) =>
  pr.buildK PP T__4_int [(0, vI ξ281), (1, vI ξ280), (2, vI ξ274), (3, vI ξ251)] fun (v282 : Value) =>
  pr.sem1 .bool PP (Instr.lookup T_M_4_int_bool (.map within_3) v282 false) ω144 fun (ρ283 : Bool) ω284 =>
  J13 pr within_3 t42 t43 t44 (!ρ283) ω284 k Q))))
  else (
  Q (.exit 2) (x2) w)) := by kernel_rfl
theorem B10_s (within_3 : (Option Nat)) (t42 : Sl) (t43 : Int) (t44 : Int) (w : World) (k : Env → World → Prop) (Q : Exit → Env → World → Prop) : B10 std within_3 t42 t43 t44 w k Q = (
  bif decide (t44 < t43) then (
  idxK 1 t42 t44 fun (a141 : Addr) =>
  load1 .sl a141 w fun (ξ142 : Sl) =>
  drewAll w fun ω144 =>
  idxK 1 ξ142 0 fun (a145 : Addr) =>
  idxK 1 ξ142 1 fun (a146 : Addr) =>
  idxK 1 ξ142 2 fun (a147 : Addr) =>
  idxK 1 ξ142 3 fun (a148 : Addr) =>
  (load1 (.int .i64) a145 ω144 fun (ξ149 : Int) =>
  (load1 (.int .i64) a146 ω144 fun (ξ150 : Int) =>
  (load1 (.int .i64) a147 ω144 fun (ξ151 : Int) =>
  load1 (.int .i64) a148 ω144 fun (ξ152 : Int) =>
  buildK PP T__4_int [(0, vI ξ149), (1, vI ξ150), (2, vI ξ151), (3, vI ξ152)] fun (v153 : Value) =>
  sem1 .bool PP (Instr.lookup T_M_4_int_bool (.map within_3) v153 false) ω144 fun (ρ154 : Bool) ω155 =>
  J13 std within_3 t42 t43 t44 (!ρ154) ω155 k Q) ∧
  (load1 (.int .i64) a148 ω144 fun (ξ156 : Int) =>
  load1 (.int .i64) a147 ω144 fun (ξ157 : Int) =>
  buildK PP T__4_int [(0, vI ξ149), (1, vI ξ150), (2, vI ξ157), (3, vI ξ156)] fun (v158 : Value) =>
  sem1 .bool PP (Instr.lookup T_M_4_int_bool (.map within_3) v158 false) ω144 fun (ρ159 : Bool) ω160 =>
  J13 std within_3 t42 t43 t44 (!ρ159) ω160 k Q)) ∧
  (load1 (.int .i64) a147 ω144 fun (ξ161 : Int) =>
  (load1 (.int .i64) a146 ω144 fun (ξ162 : Int) =>
  load1 (.int .i64) a148 ω144 fun (ξ163 : Int) =>
  buildK PP T__4_int [(0, vI ξ149), (1, vI ξ162), (2, vI ξ161), (3, vI ξ163)] fun (v164 : Value) =>
  sem1 .bool PP (Instr.lookup T_M_4_int_bool (.map within_3) v164 false) ω144 fun (ρ165 : Bool) ω166 =>
  J13 std within_3 t42 t43 t44 (!ρ165) ω166 k Q) ∧
  (load1 (.int .i64) a148 ω144 fun (ξ167 : Int) =>
  load1 (.int .i64) a146 ω144 fun (ξ168 : Int) =>
  buildK PP T__4_int [(0, vI ξ149), (1, vI ξ168), (2, vI ξ161), (3, vI ξ167)] fun (v169 : Value) =>
  sem1 .bool PP (Instr.lookup T_M_4_int_bool (.map within_3) v169 false) ω144 fun (ρ170 : Bool) ω171 =>
  J13 std within_3 t42 t43 t44 (!ρ170) ω171 k Q)) ∧
  (load1 (.int .i64) a148 ω144 fun (ξ172 : Int) =>
  (load1 (.int .i64) a146 ω144 fun (ξ173 : Int) =>
  load1 (.int .i64) a147 ω144 fun (ξ174 : Int) =>
  buildK PP T__4_int [(0, vI ξ149), (1, vI ξ173), (2, vI ξ174), (3, vI ξ172)] fun (v175 : Value) =>
  sem1 .bool PP (Instr.lookup T_M_4_int_bool (.map within_3) v175 false) ω144 fun (ρ176 : Bool) ω177 =>
  J13 std within_3 t42 t43 t44 (!ρ176) ω177 k Q) ∧
  (load1 (.int .i64) a147 ω144 fun (ξ178 : Int) =>
  load1 (.int .i64) a146 ω144 fun (ξ179 : Int) =>
  buildK PP T__4_int [(0, vI ξ149), (1, vI ξ179), (2, vI ξ178), (3, vI ξ172)] fun (v180 : Value) =>
  sem1 .bool PP (Instr.lookup T_M_4_int_bool (.map within_3) v180 false) ω144 fun (ρ181 : Bool) ω182 =>
  J13 std within_3 t42 t43 t44 (!ρ181) ω182 k Q))) ∧
  (load1 (.int .i64) a146 ω144 fun (ξ183 : Int) =>
  (load1 (.int .i64) a145 ω144 fun (ξ184 : Int) =>
  (load1 (.int .i64) a147 ω144 fun (ξ185 : Int) =>
  load1 (.int .i64) a148 ω144 fun (ξ186 : Int) =>
  buildK PP T__4_int [(0, vI ξ184), (1, vI ξ183), (2, vI ξ185), (3, vI ξ186)] fun (v187 : Value) =>
  sem1 .bool PP (Instr.lookup T_M_4_int_bool (.map within_3) v187 false) ω144 fun (ρ188 : Bool) ω189 =>
  J13 std within_3 t42 t43 t44 (!ρ188) ω189 k Q) ∧
  (load1 (.int .i64) a148 ω144 fun (ξ190 : Int) =>
  load1 (.int .i64) a147 ω144 fun (ξ191 : Int) =>
  buildK PP T__4_int [(0, vI ξ184), (1, vI ξ183), (2, vI ξ191), (3, vI ξ190)] fun (v192 : Value) =>
  sem1 .bool PP (Instr.lookup T_M_4_int_bool (.map within_3) v192 false) ω144 fun (ρ193 : Bool) ω194 =>
  J13 std within_3 t42 t43 t44 (!ρ193) ω194 k Q)) ∧
  (load1 (.int .i64) a147 ω144 fun (ξ195 : Int) =>
  (load1 (.int .i64) a145 ω144 fun (ξ196 : Int) =>
  load1 (.int .i64) a148 ω144 fun (ξ197 : Int) =>
  buildK PP T__4_int [(0, vI ξ196), (1, vI ξ183), (2, vI ξ195), (3, vI ξ197)] fun (v198 : Value) =>
  sem1 .bool PP (Instr.lookup T_M_4_int_bool (.map within_3) v198 false) ω144 fun (ρ199 : Bool) ω200 =>
  J13 std within_3 t42 t43 t44 (!ρ199) ω200 k Q) ∧
  (load1 (.int .i64) a148 ω144 fun (ξ201 : Int) =>
  load1 (.int .i64) a145 ω144 fun (ξ202 : Int) =>
  buildK PP T__4_int [(0, vI ξ202), (1, vI ξ183), (2, vI ξ195), (3, vI ξ201)] fun (v203 : Value) =>
  sem1 .bool PP (Instr.lookup T_M_4_int_bool (.map within_3) v203 false) ω144 fun (ρ204 : Bool) ω205 =>
  J13 std within_3 t42 t43 t44 (!ρ204) ω205 k Q)) ∧
  (load1 (.int .i64) a148 ω144 fun (ξ206 : Int) =>
  (load1 (.int .i64) a145 ω144 fun (ξ207 : Int) =>
  load1 (.int .i64) a147 ω144 fun (ξ208 : Int) =>
  buildK PP T__4_int [(0, vI ξ207), (1, vI ξ183), (2, vI ξ208), (3, vI ξ206)] fun (v209 : Value) =>
  sem1 .bool PP (Instr.lookup T_M_4_int_bool (.map within_3) v209 false) ω144 fun (ρ210 : Bool) ω211 =>
  J13 std within_3 t42 t43 t44 (!ρ210) ω211 k Q) ∧
  (load1 (.int .i64) a147 ω144 fun (ξ212 : Int) =>
  load1 (.int .i64) a145 ω144 fun (ξ213 : Int) =>
  buildK PP T__4_int [(0, vI ξ213), (1, vI ξ183), (2, vI ξ212), (3, vI ξ206)] fun (v214 : Value) =>
  sem1 .bool PP (Instr.lookup T_M_4_int_bool (.map within_3) v214 false) ω144 fun (ρ215 : Bool) ω216 =>
  J13 std within_3 t42 t43 t44 (!ρ215) ω216 k Q))) ∧
  (load1 (.int .i64) a147 ω144 fun (ξ217 : Int) =>
  (load1 (.int .i64) a145 ω144 fun (ξ218 : Int) =>
  (load1 (.int .i64) a146 ω144 fun (ξ219 : Int) =>
  load1 (.int .i64) a148 ω144 fun (ξ220 : Int) =>
  buildK PP T__4_int [(0, vI ξ218), (1, vI ξ219), (2, vI ξ217), (3, vI ξ220)] fun (v221 : Value) =>
  sem1 .bool PP (Instr.lookup T_M_4_int_bool (.map within_3) v221 false) ω144 fun (ρ222 : Bool) ω223 =>
  J13 std within_3 t42 t43 t44 (!ρ222) ω223 k Q) ∧
  (load1 (.int .i64) a148 ω144 fun (ξ224 : Int) =>
  load1 (.int .i64) a146 ω144 fun (ξ225 : Int) =>
  buildK PP T__4_int [(0, vI ξ218), (1, vI ξ225), (2, vI ξ217), (3, vI ξ224)] fun (v226 : Value) =>
  sem1 .bool PP (Instr.lookup T_M_4_int_bool (.map within_3) v226 false) ω144 fun (ρ227 : Bool) ω228 =>
  J13 std within_3 t42 t43 t44 (!ρ227) ω228 k Q)) ∧
  (load1 (.int .i64) a146 ω144 fun (ξ229 : Int) =>
  (load1 (.int .i64) a145 ω144 fun (ξ230 : Int) =>
  load1 (.int .i64) a148 ω144 fun (ξ231 : Int) =>
  buildK PP T__4_int [(0, vI ξ230), (1, vI ξ229), (2, vI ξ217), (3, vI ξ231)] fun (v232 : Value) =>
  sem1 .bool PP (Instr.lookup T_M_4_int_bool (.map within_3) v232 false) ω144 fun (ρ233 : Bool) ω234 =>
  J13 std within_3 t42 t43 t44 (!ρ233) ω234 k Q) ∧
  (load1 (.int .i64) a148 ω144 fun (ξ235 : Int) =>
  load1 (.int .i64) a145 ω144 fun (ξ236 : Int) =>
  buildK PP T__4_int [(0, vI ξ236), (1, vI ξ229), (2, vI ξ217), (3, vI ξ235)] fun (v237 : Value) =>
  sem1 .bool PP (Instr.lookup T_M_4_int_bool (.map within_3) v237 false) ω144 fun (ρ238 : Bool) ω239 =>
  J13 std within_3 t42 t43 t44 (!ρ238) ω239 k Q)) ∧
  (load1 (.int .i64) a148 ω144 fun (ξ240 : Int) =>
  (load1 (.int .i64) a145 ω144 fun (ξ241 : Int) =>
  load1 (.int .i64) a146 ω144 fun (ξ242 : Int) =>
  buildK PP T__4_int [(0, vI ξ241), (1, vI ξ242), (2, vI ξ217), (3, vI ξ240)] fun (v243 : Value) =>
  sem1 .bool PP (Instr.lookup T_M_4_int_bool (.map within_3) v243 false) ω144 fun (ρ244 : Bool) ω245 =>
  J13 std within_3 t42 t43 t44 (!ρ244) ω245 k Q) ∧
  (load1 (.int .i64) a146 ω144 fun (ξ246 : Int) =>
  load1 (.int .i64) a145 ω144 fun (ξ247 : Int) =>
  buildK PP T__4_int [(0, vI ξ247), (1, vI ξ246), (2, vI ξ217), (3, vI ξ240)] fun (v248 : Value) =>
  sem1 .bool PP (Instr.lookup T_M_4_int_bool (.map within_3) v248 false) ω144 fun (ρ249 : Bool) ω250 =>
  J13 std within_3 t42 t43 t44 (!ρ249) ω250 k Q))) ∧
  (load1 (.int .i64) a148 ω144 fun (ξ251 : Int) =>
  (load1 (.int .i64) a145 ω144 fun (ξ252 : Int) =>
  (load1 (.int .i64) a146 ω144 fun (ξ253 : Int) =>
  load1 (.int .i64) a147 ω144 fun (ξ254 : Int) =>
  buildK PP T__4_int [(0, vI ξ252), (1, vI ξ253), (2, vI ξ254), (3, vI ξ251)] fun (v255 : Value) =>
  sem1 .bool PP (Instr.lookup T_M_4_int_bool (.map within_3) v255 false) ω144 fun (ρ256 : Bool) ω257 =>
  J13 std within_3 t42 t43 t44 (!ρ256) ω257 k Q) ∧
  (load1 (.int .i64) a147 ω144 fun (ξ258 : Int) =>
  load1 (.int .i64) a146 ω144 fun (ξ259 : Int) =>
  buildK PP T__4_int [(0, vI ξ252), (1, vI ξ259), (2, vI ξ258), (3, vI ξ251)] fun (v260 : Value) =>
  sem1 .bool PP (Instr.lookup T_M_4_int_bool (.map within_3) v260 false) ω144 fun (ρ261 : Bool) ω262 =>
  J13 std within_3 t42 t43 t44 (!ρ261) ω262 k Q)) ∧
  (load1 (.int .i64) a146 ω144 fun (ξ263 : Int) =>
  (load1 (.int .i64) a145 ω144 fun (ξ264 : Int) =>
  load1 (.int .i64) a147 ω144 fun (ξ265 : Int) =>
  buildK PP T__4_int [(0, vI ξ264), (1, vI ξ263), (2, vI ξ265), (3, vI ξ251)] fun (v266 : Value) =>
  sem1 .bool PP (Instr.lookup T_M_4_int_bool (.map within_3) v266 false) ω144 fun (ρ267 : Bool) ω268 =>
  J13 std within_3 t42 t43 t44 (!ρ267) ω268 k Q) ∧
  (load1 (.int .i64) a147 ω144 fun (ξ269 : Int) =>
  load1 (.int .i64) a145 ω144 fun (ξ270 : Int) =>
  buildK PP T__4_int [(0, vI ξ270), (1, vI ξ263), (2, vI ξ269), (3, vI ξ251)] fun (v271 : Value) =>
  sem1 .bool PP (Instr.lookup T_M_4_int_bool (.map within_3) v271 false) ω144 fun (ρ272 : Bool) ω273 =>
  J13 std within_3 t42 t43 t44 (!ρ272) ω273 k Q)) ∧
  (load1 (.int .i64) a147 ω144 fun (ξ274 : Int) =>
  (load1 (.int .i64) a145 ω144 fun (ξ275 : Int) =>
  load1 (.int .i64) a146 ω144 fun (ξ276 : Int) =>
  buildK PP T__4_int [(0, vI ξ275), (1, vI ξ276), (2, vI ξ274), (3, vI ξ251)] fun (v277 : Value) =>
  sem1 .bool PP (Instr.lookup T_M_4_int_bool (.map within_3) v277 false) ω144 fun (ρ278 : Bool) ω279 =>
  J13 std within_3 t42 t43 t44 (!ρ278) ω279 k Q) ∧
  (load1 (.int .i64) a146 ω144 fun (ξ280 : Int) =>
  load1 (.int .i64) a145 ω144 fun (ξ281 : Int) =>
  buildK PP T__4_int [(0, vI ξ281), (1, vI ξ280), (2, vI ξ274), (3, vI ξ251)] fun (v282 : Value) =>
  sem1 .bool PP (Instr.lookup T_M_4_int_bool (.map within_3) v282 false) ω144 fun (ρ283 : Bool) ω284 =>
  J13 std within_3 t42 t43 t44 (!ρ283) ω284 k Q))))
  else (
  Q (.exit 2) (x2) w)) := B10_eq std within_3 t42 t43 t44 w k Q
theorem L10_rule (within_3 : (Option Nat)) (t42 : Sl) (t43 : Int) (t44 : Int) (w : World) (Q : Exit → Env → World → Prop) (I : Int → World → Prop) (μ : Int → World → Nat) (h0 : I t44 w)
    (h : ∀ (t44 : Int) (w' : World), I t44 w' → B10 std within_3 t42 t43 t44 w' (fun e2 w2 => ∃ t44_n, e2 = emb10 within_3 t42 t43 t44_n ∧ I t44_n w2 ∧ μ t44_n w2 < μ t44 w') Q) :
    L10 std within_3 t42 t43 t44 w Q := by
  unfold L10
  refine LoopE.intro (σ := Int) (step := S10 std Q) (fun s => emb10 within_3 t42 t43 s) (fun s w => I s w) (fun s w => μ s w) t44 rfl h0 ?_
  intro s w' hI
  have h1 := h s w' hI
  unfold B10 at h1
  exact h1
theorem A10_2_eq (pr : Prims) (w : World) (R : Ending → World → Prop) : (q138 pr R) (.exit 2) (x2) w = (
  R (.returned (.bool true)) w) := by kernel_rfl
theorem A10_2_s (w : World) (R : Ending → World → Prop) : (q138 std R) (.exit 2) (x2) w = (
  R (.returned (.bool true)) w) := A10_2_eq std w R
theorem R10_eq (pr : Prims) (v2 : Value) (w : World) (R : Ending → World → Prop) : (q138 pr R) .ret [(2, v2)] w = (
  R (.returned (v2)) w) := by kernel_rfl
theorem R10_s (v2 : Value) (w : World) (R : Ending → World → Prop) : (q138 std R) .ret [(2, v2)] w = (
  R (.returned (v2)) w) := R10_eq std v2 w R
theorem A5_0_eq (pr : Prims) (p_0 : Sl) (within_3 : (Option Nat)) (w : World) (R : Ending → World → Prop) : (q13 pr R) (.exit 0) (x0 p_0 within_3) w = (
  pr.sem1 .sl PP (Instr.buildSlice T_Sint 4 #[(0, vI 3), (1, vI 2), (2, vI 4), (3, vI 1)]) w fun (ρ134 : Sl) ω135 =>
  pr.call1 .sl PP F.impl_occurrences #[Sl.v p_0, Sl.v ρ134] ω135 fun (ρ136 : Sl) ω137 =>
  L10 pr within_3 ρ136 (ρ136.n : Int) 0 ω137 (q138 pr R)) := by kernel_rfl
theorem A5_0_s (p_0 : Sl) (within_3 : (Option Nat)) (w : World) (R : Ending → World → Prop) : (q13 std R) (.exit 0) (x0 p_0 within_3) w = (
  sem1 .sl PP (Instr.buildSlice T_Sint 4 #[(0, vI 3), (1, vI 2), (2, vI 4), (3, vI 1)]) w fun (ρ134 : Sl) ω135 =>
  call1 .sl PP F.impl_occurrences #[Sl.v p_0, Sl.v ρ134] ω135 fun (ρ136 : Sl) ω137 =>
  L10 std within_3 ρ136 (ρ136.n : Int) 0 ω137 (q138 std R)) := A5_0_eq std p_0 within_3 w R
theorem E_eq (pr : Prims) (p_0 : Sl) (w : World) (R : Ending → World → Prop) : E pr p_0 w R = (
  pr.call1 .bool PP F.impl_IsPerm #[Sl.v p_0] w fun (ρ0 : Bool) ω1 =>
  bif !ρ0 then (
  R (.returned (.bool false)) ω1)
  else (
  pr.sem1 .sl PP (Instr.buildSlice T_Sint 4 #[(0, vI 2), (1, vI 3), (2, vI 4), (3, vI 1)]) ω1 fun (ρ2 : Sl) ω3 =>
  pr.call1 .bool PP F.impl_has #[Sl.v p_0, Sl.v ρ2, Sl.v Sl.nil] ω3 fun (ρ4 : Bool) ω5 =>
  bif ρ4 then (
  R (.returned (.bool false)) ω5)
  else (
  pr.sem1 .map PP (Instr.makeMap T_M_4_int_bool none) ω5 fun (ρ6 : (Option Nat)) ω7 =>
  pr.sem1 .sl PP (Instr.buildSlice T_Sint 5 #[(0, vI 3), (1, vI 5), (2, vI 2), (3, vI 4), (4, vI 1)]) ω7 fun (ρ9 : Sl) ω10 =>
  pr.call1 .sl PP F.impl_occurrences #[Sl.v p_0, Sl.v ρ9] ω10 fun (ρ11 : Sl) ω12 =>
  L5 pr p_0 ρ6 ρ11 (ρ11.n : Int) 0 ω12 (q13 pr R)))) := by kernel_rfl
theorem E_s (p_0 : Sl) (w : World) (R : Ending → World → Prop) : E std p_0 w R = (
  call1 .bool PP F.impl_IsPerm #[Sl.v p_0] w fun (ρ0 : Bool) ω1 =>
  bif !ρ0 then (
  R (.returned (.bool false)) ω1)
  else (
  sem1 .sl PP (Instr.buildSlice T_Sint 4 #[(0, vI 2), (1, vI 3), (2, vI 4), (3, vI 1)]) ω1 fun (ρ2 : Sl) ω3 =>
  call1 .bool PP F.impl_has #[Sl.v p_0, Sl.v ρ2, Sl.v Sl.nil] ω3 fun (ρ4 : Bool) ω5 =>
  bif ρ4 then (
  R (.returned (.bool false)) ω5)
  else (
  sem1 .map PP (Instr.makeMap T_M_4_int_bool none) ω5 fun (ρ6 : (Option Nat)) ω7 =>
  sem1 .sl PP (Instr.buildSlice T_Sint 5 #[(0, vI 3), (1, vI 5), (2, vI 2), (3, vI 4), (4, vI 1)]) ω7 fun (ρ9 : Sl) ω10 =>
  call1 .sl PP F.impl_occurrences #[Sl.v p_0, Sl.v ρ9] ω10 fun (ρ11 : Sl) ω12 =>
  L5 std p_0 ρ6 ρ11 (ρ11.n : Int) 0 ω12 (q13 std R)))) := E_eq std p_0 w R
theorem drawsOk : drawsOk PP cfg okD (codeOf Try.f12) = true := by kernel_rfl
theorem calls (p_0 : Sl) {w : World} {R : Ending → World → Prop} (h : E std p_0 w R) : Calls PP F.impl_IsTwicePattern #[Sl.v p_0] w R :=
  calls_of noCount mixed drawOk Try.func12 rfl (c := cfg) (args := [Sl.v p_0]) rfl (Nat.le_of_ble_eq_true (by kernel_rfl)) drawsOk h
end impl_IsTwicePattern

namespace laws_FnExactIsTwicePattern
@[reducible] def cfg : Cfg := ⟨24, [], [], [], [2], [], [62, 10, 22, 58, 24, 44, 18, 70, 43, 85, 25, 71, 59, 37, 63], [82, 113, 102, 38, 103, 26, 60]⟩
def E (pr : Prims) (aP_0 : Sl) (w : World) (R : Ending → World → Prop) : Prop :=
  wpC pr PP cfg (DD pr) (codeOf Try.f4) (retQ Try.f4.results.toList R) (argE 0 [Sl.v aP_0]) w
theorem E_eq (pr : Prims) (aP_0 : Sl) (w : World) (R : Ending → World → Prop) : E pr aP_0 w R = (
  bif decide ((aP_0.n : Int) > 1048576) then (
  R (.returned (.bool true)) w)
  else (
  pr.call1 .sl PP F.laws_toIntS #[Sl.v aP_0] w fun (ρ0 : Sl) ω1 =>
  pr.call1 .bool PP F.spec_IsTwicePattern #[Sl.v ρ0] ω1 fun (ρ2 : Bool) ω3 =>
  pr.call1 .sl PP F.laws_toIntS #[Sl.v aP_0] ω3 fun (ρ4 : Sl) ω5 =>
  pr.call1 .bool PP F.impl_IsTwicePattern #[Sl.v ρ4] ω5 fun (ρ6 : Bool) ω7 =>
  bif !(ρ6 == ρ2) then (
  R (.returned (.bool false)) ω7)
  else (
  pr.call1 .sl PP F.laws_toIntS #[Sl.v aP_0] ω7 fun (ρ8 : Sl) ω9 =>
  pr.call1 .bool PP F.laws_eqIntS #[Sl.v ρ4, Sl.v ρ8] ω9 fun (ρ10 : Bool) ω11 =>
  bif !ρ10 then (
  R (.returned (.bool false)) ω11)
  else (
  R (.returned (.bool true)) ω11)))) := by kernel_rfl
theorem E_s (aP_0 : Sl) (w : World) (R : Ending → World → Prop) : E std aP_0 w R = (
  bif decide ((aP_0.n : Int) > 1048576) then (
  R (.returned (.bool true)) w)
  else (
  call1 .sl PP F.laws_toIntS #[Sl.v aP_0] w fun (ρ0 : Sl) ω1 =>
  call1 .bool PP F.spec_IsTwicePattern #[Sl.v ρ0] ω1 fun (ρ2 : Bool) ω3 =>
  call1 .sl PP F.laws_toIntS #[Sl.v aP_0] ω3 fun (ρ4 : Sl) ω5 =>
  call1 .bool PP F.impl_IsTwicePattern #[Sl.v ρ4] ω5 fun (ρ6 : Bool) ω7 =>
  bif !(ρ6 == ρ2) then (
  R (.returned (.bool false)) ω7)
  else (
  call1 .sl PP F.laws_toIntS #[Sl.v aP_0] ω7 fun (ρ8 : Sl) ω9 =>
  call1 .bool PP F.laws_eqIntS #[Sl.v ρ4, Sl.v ρ8] ω9 fun (ρ10 : Bool) ω11 =>
  bif !ρ10 then (
  R (.returned (.bool false)) ω11)
  else (
  R (.returned (.bool true)) ω11)))) := E_eq std aP_0 w R
theorem drawsOk : drawsOk PP cfg okD (codeOf Try.f4) = true := by kernel_rfl
theorem calls (aP_0 : Sl) {w : World} {R : Ending → World → Prop} (h : E std aP_0 w R) : Calls PP F.laws_FnExactIsTwicePattern #[Sl.v aP_0] w R :=
  calls_of noCount mixed drawOk Try.func4 rfl (c := cfg) (args := [Sl.v aP_0]) rfl (Nat.le_of_ble_eq_true (by kernel_rfl)) drawsOk h
end laws_FnExactIsTwicePattern

end Go.Proofs.Ytmhgjfahgemblaa
