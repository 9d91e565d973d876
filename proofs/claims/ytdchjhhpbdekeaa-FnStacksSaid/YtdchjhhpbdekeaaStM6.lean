/- The texts CodeRe, CodeLo, Lows, CodeSo, Shelf, Sort, Ins15, RestMath, CodeDe, Del, CodeFu, FuI, Rest, CodeKn, Choose, StMath, StTimes, Pat3, Nd, StLaw in one (gmerge.py). -/
import Derived.Sort.OwnSortedInts
import Derived.Test.YtdchjhhpbdekeaaStM5
/- What each function does, step by step, written by a program (Gen.lean); each equation is checked by the kernel. -/
namespace Go.Proofs.Ytdchjhhpbdekeaa
open Go
set_option linter.unusedVariables false
set_option maxRecDepth 100000
namespace spec_l17Rest
@[reducible] def cfg : Cfg := ⟨29, [(4, [0, 3, 4, 5])], [(1, [0, 3, 4, 5]), (0, [4])], [], [2], [], [101, 107, 112, 15, 21, 124, 76, 137, 28, 115, 91, 81, 130], [138, 140, 82, 6, 86, 85, 132]⟩
def q4 (pr : Prims) (R : Ending → World → Prop) : Exit → Env → World → Prop := fun ex e w => normQ ex (fun e w => contE pr cfg (sub (codeOf Try.f122) [1, 1, 1, 1]) (fun e w => wpC pr PP cfg (DD pr) (sub (codeOf Try.f122) [1, 1, 1, 1]) (retQ Try.f122.results.toList R) e w) e w) (retQ Try.f122.results.toList R) e w
def q5 (pr : Prims) (R : Ending → World → Prop) : Exit → Env → World → Prop := fun ex e w => blockQ ex 0 (q4 pr R) e w
def emb4 (p_0 : Sl) (lows_3 : Sl) (out_4 : Sl) (k_5 : Int) : Env := [(0, Sl.v p_0), (3, Sl.v lows_3), (4, Sl.v out_4), (5, vI k_5)]
def x0 (out_4 : Sl) : Env := [(4, Sl.v out_4)]
def S4 (pr : Prims) (Q : Exit → Env → World → Prop) : (Env → World → Prop) → Env → World → Prop := fun k e w => wpC pr PP cfg (DD pr) (sub (codeOf Try.f122) [1, 1, 1, 0, 1, 0, 0]) (fun ex e w => normQ ex (fun e' w' => k (Env.restr e' (lookN cfg.loops (keyOf (sub (codeOf Try.f122) [1, 1, 1, 0, 1, 0, 0])))) w') Q e w) e w
def B4 (pr : Prims) (p_0 : Sl) (lows_3 : Sl) (out_4 : Sl) (k_5 : Int) (w : World) (k : Env → World → Prop) (Q : Exit → Env → World → Prop) : Prop :=
  S4 pr Q k (emb4 p_0 lows_3 out_4 k_5) w
def L4 (pr : Prims) (p_0 : Sl) (lows_3 : Sl) (out_4 : Sl) (k_5 : Int) (w : World) (Q : Exit → Env → World → Prop) : Prop :=
  pr.loop (S4 pr Q) (emb4 p_0 lows_3 out_4 k_5) w
def E (pr : Prims) (p_0 : Sl) (w : World) (R : Ending → World → Prop) : Prop :=
  wpC pr PP cfg (DD pr) (codeOf Try.f122) (retQ Try.f122.results.toList R) (argE 0 [Sl.v p_0]) w
theorem B4_eq (pr : Prims) (p_0 : Sl) (lows_3 : Sl) (out_4 : Sl) (k_5 : Int) (w : World) (k : Env → World → Prop) (Q : Exit → Env → World → Prop) : B4 pr p_0 lows_3 out_4 k_5 w k Q = (
  bif decide (k_5 < (p_0.n : Int)) then (
  pr.call1 .bool PP F.spec_l2Has #[Sl.v lows_3, vI (w64 (k_5 + 1))] w fun (ρ6 : Bool) ω7 =>
  bif !ρ6 then (
  pr.idxK 1 p_0 k_5 fun (a8 : Addr) =>
  pr.load1 (.int .i64) a8 ω7 fun (ξ9 : Int) =>
  pr.sem1 .sl PP (Instr.buildSlice T_Sint 1 #[(0, vI ξ9)]) ω7 fun (ρ10 : Sl) ω11 =>
  pr.sem1 .sl PP (Builtin.append_ #[T_Sint, T_Sint] T_Sint #[Sl.v out_4, Sl.v ρ10]) ω11 fun (ρ12 : Sl) ω13 =>
  k (emb4 p_0 lows_3 ρ12 (w64 (k_5 + 1))) ω13)
  else (
  k (emb4 p_0 lows_3 out_4 (w64 (k_5 + 1))) ω7))
  else (
  Q (.exit 0) (x0 out_4) w)) := by kernel_rfl
theorem B4_s (p_0 : Sl) (lows_3 : Sl) (out_4 : Sl) (k_5 : Int) (w : World) (k : Env → World → Prop) (Q : Exit → Env → World → Prop) : B4 std p_0 lows_3 out_4 k_5 w k Q = (
  bif decide (k_5 < (p_0.n : Int)) then (
  call1 .bool PP F.spec_l2Has #[Sl.v lows_3, vI (w64 (k_5 + 1))] w fun (ρ6 : Bool) ω7 =>
  bif !ρ6 then (
  idxK 1 p_0 k_5 fun (a8 : Addr) =>
  load1 (.int .i64) a8 ω7 fun (ξ9 : Int) =>
  sem1 .sl PP (Instr.buildSlice T_Sint 1 #[(0, vI ξ9)]) ω7 fun (ρ10 : Sl) ω11 =>
  sem1 .sl PP (Builtin.append_ #[T_Sint, T_Sint] T_Sint #[Sl.v out_4, Sl.v ρ10]) ω11 fun (ρ12 : Sl) ω13 =>
  k (emb4 p_0 lows_3 ρ12 (w64 (k_5 + 1))) ω13)
  else (
  k (emb4 p_0 lows_3 out_4 (w64 (k_5 + 1))) ω7))
  else (
  Q (.exit 0) (x0 out_4) w)) := B4_eq std p_0 lows_3 out_4 k_5 w k Q
theorem L4_rule (p_0 : Sl) (lows_3 : Sl) (out_4 : Sl) (k_5 : Int) (w : World) (Q : Exit → Env → World → Prop) (I : Sl → Int → World → Prop) (μ : Sl → Int → World → Nat) (h0 : I out_4 k_5 w)
    (h : ∀ (out_4 : Sl) (k_5 : Int) (w' : World), I out_4 k_5 w' → B4 std p_0 lows_3 out_4 k_5 w' (fun e2 w2 => ∃ out_4_n k_5_n, e2 = emb4 p_0 lows_3 out_4_n k_5_n ∧ I out_4_n k_5_n w2 ∧ μ out_4_n k_5_n w2 < μ out_4 k_5 w') Q) :
    L4 std p_0 lows_3 out_4 k_5 w Q := by
  unfold L4
  refine LoopE.intro (σ := Sl × Int) (step := S4 std Q) (fun s => emb4 p_0 lows_3 s.1 s.2) (fun s w => I s.1 s.2 w) (fun s w => μ s.1 s.2 w) (out_4, k_5) rfl h0 ?_
  intro s w' hI
  have h1 := h s.1 s.2 w' hI
  unfold B4 at h1
  simp only [Prod.exists]
  exact h1
theorem A4_0_eq (pr : Prims) (out_4 : Sl) (w : World) (R : Ending → World → Prop) : (q5 pr R) (.exit 0) (x0 out_4) w = (
  pr.call1 .sl PP F.spec_l15Sort #[Sl.v out_4] w fun (ρ14 : Sl) ω15 =>
  R (.returned (Sl.v ρ14)) ω15) := by kernel_rfl
theorem A4_0_s (out_4 : Sl) (w : World) (R : Ending → World → Prop) : (q5 std R) (.exit 0) (x0 out_4) w = (
  call1 .sl PP F.spec_l15Sort #[Sl.v out_4] w fun (ρ14 : Sl) ω15 =>
  R (.returned (Sl.v ρ14)) ω15) := A4_0_eq std out_4 w R
theorem E_eq (pr : Prims) (p_0 : Sl) (w : World) (R : Ending → World → Prop) : E pr p_0 w R = (
  pr.call1 .sl PP F.spec_LowsOf #[Sl.v p_0] w fun (ρ0 : Sl) ω1 =>
  pr.sem1 .sl PP (Instr.buildSlice T_Sint 0 #[]) ω1 fun (ρ2 : Sl) ω3 =>
  L4 pr p_0 ρ0 ρ2 0 ω3 (q5 pr R)) := by kernel_rfl
theorem E_s (p_0 : Sl) (w : World) (R : Ending → World → Prop) : E std p_0 w R = (
  call1 .sl PP F.spec_LowsOf #[Sl.v p_0] w fun (ρ0 : Sl) ω1 =>
  sem1 .sl PP (Instr.buildSlice T_Sint 0 #[]) ω1 fun (ρ2 : Sl) ω3 =>
  L4 std p_0 ρ0 ρ2 0 ω3 (q5 std R)) := E_eq std p_0 w R
theorem drawsOk : drawsOk PP cfg okD (codeOf Try.f122) = true := by kernel_rfl
theorem calls (p_0 : Sl) {w : World} {R : Ending → World → Prop} (h : E std p_0 w R) : Calls PP F.spec_l17Rest #[Sl.v p_0] w R :=
  calls_of noCount mixed drawOk Try.func122 rfl (c := cfg) (args := [Sl.v p_0]) rfl (Nat.le_of_ble_eq_true (by kernel_rfl)) drawsOk h
end spec_l17Rest

namespace spec_NearestRest
@[reducible] def cfg : Cfg := ⟨63, [(14, [0, 4, 5, 6, 7, 8, 9]), (8, [0, 4, 5, 6, 7, 8])], [(3, [0, 4, 5, 6, 7, 8, 9]), (2, [0, 4, 5, 6, 7, 8, 9]), (1, [0, 4, 5, 6, 7, 8]), (0, [6])], [], [2, 3], [], [101, 107, 112, 15, 21, 124, 76, 137, 28, 115, 91, 81, 130], [138, 140, 82, 6, 86, 85, 132]⟩
def q10 (pr : Prims) (R : Ending → World → Prop) : Exit → Env → World → Prop := fun ex e w => normQ ex (fun e w => contE pr cfg (sub (codeOf Try.f69) [1, 1, 1, 1, 1, 1, 1]) (fun e w => wpC pr PP cfg (DD pr) (sub (codeOf Try.f69) [1, 1, 1, 1, 1, 1, 1]) (retQ Try.f69.results.toList R) e w) e w) (retQ Try.f69.results.toList R) e w
def q11 (pr : Prims) (R : Ending → World → Prop) : Exit → Env → World → Prop := fun ex e w => blockQ ex 0 (q10 pr R) e w
def q12 (pr : Prims) (k : Env → World → Prop) (Q : Exit → Env → World → Prop) : Exit → Env → World → Prop := fun ex e w => normQ ex (fun e w => contE pr cfg (sub (codeOf Try.f69) [1, 1, 1, 1, 1, 1, 0, 1, 0, 0, 1, 1]) (fun e w => wpC pr PP cfg (DD pr) (sub (codeOf Try.f69) [1, 1, 1, 1, 1, 1, 0, 1, 0, 0, 1, 1]) (fun ex e w => normQ ex (fun e' w' => k (Env.restr e' (lookN cfg.loops (keyOf (sub (codeOf Try.f69) [1, 1, 1, 1, 1, 1, 0, 1, 0, 0])))) w') Q e w) e w) e w) (fun ex e w => normQ ex (fun e' w' => k (Env.restr e' (lookN cfg.loops (keyOf (sub (codeOf Try.f69) [1, 1, 1, 1, 1, 1, 0, 1, 0, 0])))) w') Q e w) e w
def q13 (pr : Prims) (k : Env → World → Prop) (Q : Exit → Env → World → Prop) : Exit → Env → World → Prop := fun ex e w => blockQ ex 1 (q12 pr k Q) e w
def q22 (pr : Prims) (k : Env → World → Prop) (Q : Exit → Env → World → Prop) : Exit → Env → World → Prop := fun ex e w => normQ ex (fun e w => contE pr cfg (sub (codeOf Try.f69) [1, 1, 1, 1, 1, 1, 0, 1, 0, 0, 1, 0, 0, 1, 1, 1]) (fun e w => wpC pr PP cfg (DD pr) (sub (codeOf Try.f69) [1, 1, 1, 1, 1, 1, 0, 1, 0, 0, 1, 0, 0, 1, 1, 1]) (q13 pr k Q) e w) e w) (q13 pr k Q) e w
def q23 (pr : Prims) (k : Env → World → Prop) (Q : Exit → Env → World → Prop) : Exit → Env → World → Prop := fun ex e w => blockQ ex 2 (q22 pr k Q) e w
def emb8 (p_0 : Sl) (lows_4 : Sl) (rest_5 : Sl) (out_6 : Sl) (low_7 : Int) (k_8 : Int) : Env := [(0, Sl.v p_0), (4, Sl.v lows_4), (5, Sl.v rest_5), (6, Sl.v out_6), (7, vI low_7), (8, vI k_8)]
def emb14 (p_0 : Sl) (lows_4 : Sl) (rest_5 : Sl) (out_6 : Sl) (low_7 : Int) (k_8 : Int) (at_9 : Int) : Env := [(0, Sl.v p_0), (4, Sl.v lows_4), (5, Sl.v rest_5), (6, Sl.v out_6), (7, vI low_7), (8, vI k_8), (9, vI at_9)]
def x2 (p_0 : Sl) (lows_4 : Sl) (rest_5 : Sl) (out_6 : Sl) (low_7 : Int) (k_8 : Int) (at_9 : Int) : Env := [(0, Sl.v p_0), (4, Sl.v lows_4), (5, Sl.v rest_5), (6, Sl.v out_6), (7, vI low_7), (8, vI k_8), (9, vI at_9)]
def x0 (out_6 : Sl) : Env := [(6, Sl.v out_6)]
def S14 (pr : Prims) (Q : Exit → Env → World → Prop) : (Env → World → Prop) → Env → World → Prop := fun k e w => wpC pr PP cfg (DD pr) (sub (codeOf Try.f69) [1, 1, 1, 1, 1, 1, 0, 1, 0, 0, 1, 0, 0, 1, 1, 0, 0, 0]) (fun ex e w => normQ ex (fun e' w' => k (Env.restr e' (lookN cfg.loops (keyOf (sub (codeOf Try.f69) [1, 1, 1, 1, 1, 1, 0, 1, 0, 0, 1, 0, 0, 1, 1, 0, 0, 0])))) w') Q e w) e w
def S8 (pr : Prims) (Q : Exit → Env → World → Prop) : (Env → World → Prop) → Env → World → Prop := fun k e w => wpC pr PP cfg (DD pr) (sub (codeOf Try.f69) [1, 1, 1, 1, 1, 1, 0, 1, 0, 0]) (fun ex e w => normQ ex (fun e' w' => k (Env.restr e' (lookN cfg.loops (keyOf (sub (codeOf Try.f69) [1, 1, 1, 1, 1, 1, 0, 1, 0, 0])))) w') Q e w) e w
def B14 (pr : Prims) (p_0 : Sl) (lows_4 : Sl) (rest_5 : Sl) (out_6 : Sl) (low_7 : Int) (k_8 : Int) (at_9 : Int) (w : World) (k : Env → World → Prop) (Q : Exit → Env → World → Prop) : Prop :=
  S14 pr Q k (emb14 p_0 lows_4 rest_5 out_6 low_7 k_8 at_9) w
def L14 (pr : Prims) (p_0 : Sl) (lows_4 : Sl) (rest_5 : Sl) (out_6 : Sl) (low_7 : Int) (k_8 : Int) (at_9 : Int) (w : World) (Q : Exit → Env → World → Prop) : Prop :=
  pr.loop (S14 pr Q) (emb14 p_0 lows_4 rest_5 out_6 low_7 k_8 at_9) w
def B8 (pr : Prims) (p_0 : Sl) (lows_4 : Sl) (rest_5 : Sl) (out_6 : Sl) (low_7 : Int) (k_8 : Int) (w : World) (k : Env → World → Prop) (Q : Exit → Env → World → Prop) : Prop :=
  S8 pr Q k (emb8 p_0 lows_4 rest_5 out_6 low_7 k_8) w
def L8 (pr : Prims) (p_0 : Sl) (lows_4 : Sl) (rest_5 : Sl) (out_6 : Sl) (low_7 : Int) (k_8 : Int) (w : World) (Q : Exit → Env → World → Prop) : Prop :=
  pr.loop (S8 pr Q) (emb8 p_0 lows_4 rest_5 out_6 low_7 k_8) w
def E (pr : Prims) (p_0 : Sl) (w : World) (R : Ending → World → Prop) : Prop :=
  wpC pr PP cfg (DD pr) (codeOf Try.f69) (retQ Try.f69.results.toList R) (argE 0 [Sl.v p_0]) w
theorem B14_eq (pr : Prims) (p_0 : Sl) (lows_4 : Sl) (rest_5 : Sl) (out_6 : Sl) (low_7 : Int) (k_8 : Int) (at_9 : Int) (w : World) (k : Env → World → Prop) (Q : Exit → Env → World → Prop) : B14 pr p_0 lows_4 rest_5 out_6 low_7 k_8 at_9 w k Q = (
  pr.idxK 1 rest_5 at_9 fun (a24 : Addr) =>
  pr.load1 (.int .i64) a24 w fun (ξ25 : Int) =>
  bif decide (ξ25 < low_7) then (
  k (emb14 p_0 lows_4 rest_5 out_6 low_7 k_8 (w64 (at_9 + 1))) w)
  else (
  Q (.exit 2) (x2 p_0 lows_4 rest_5 out_6 low_7 k_8 at_9) w)) := by kernel_rfl
theorem B14_s (p_0 : Sl) (lows_4 : Sl) (rest_5 : Sl) (out_6 : Sl) (low_7 : Int) (k_8 : Int) (at_9 : Int) (w : World) (k : Env → World → Prop) (Q : Exit → Env → World → Prop) : B14 std p_0 lows_4 rest_5 out_6 low_7 k_8 at_9 w k Q = (
  idxK 1 rest_5 at_9 fun (a24 : Addr) =>
  load1 (.int .i64) a24 w fun (ξ25 : Int) =>
  bif decide (ξ25 < low_7) then (
  k (emb14 p_0 lows_4 rest_5 out_6 low_7 k_8 (w64 (at_9 + 1))) w)
  else (
  Q (.exit 2) (x2 p_0 lows_4 rest_5 out_6 low_7 k_8 at_9) w)) := B14_eq std p_0 lows_4 rest_5 out_6 low_7 k_8 at_9 w k Q
theorem L14_rule (p_0 : Sl) (lows_4 : Sl) (rest_5 : Sl) (out_6 : Sl) (low_7 : Int) (k_8 : Int) (at_9 : Int) (w : World) (Q : Exit → Env → World → Prop) (I : Int → World → Prop) (μ : Int → World → Nat) (h0 : I at_9 w)
    (h : ∀ (at_9 : Int) (w' : World), I at_9 w' → B14 std p_0 lows_4 rest_5 out_6 low_7 k_8 at_9 w' (fun e2 w2 => ∃ at_9_n, e2 = emb14 p_0 lows_4 rest_5 out_6 low_7 k_8 at_9_n ∧ I at_9_n w2 ∧ μ at_9_n w2 < μ at_9 w') Q) :
    L14 std p_0 lows_4 rest_5 out_6 low_7 k_8 at_9 w Q := by
  unfold L14
  refine LoopE.intro (σ := Int) (step := S14 std Q) (fun s => emb14 p_0 lows_4 rest_5 out_6 low_7 k_8 s) (fun s w => I s w) (fun s w => μ s w) at_9 rfl h0 ?_
  intro s w' hI
  have h1 := h s w' hI
  unfold B14 at h1
  exact h1
theorem A14_2_eq (pr : Prims) (p_0 : Sl) (lows_4 : Sl) (rest_5 : Sl) (out_6 : Sl) (low_7 : Int) (k_8 : Int) (at_9 : Int) (w : World) (k : Env → World → Prop) (Q : Exit → Env → World → Prop) : (q23 pr k Q) (.exit 2) (x2 p_0 lows_4 rest_5 out_6 low_7 k_8 at_9) w = (
  pr.idxK 1 rest_5 at_9 fun (a26 : Addr) =>
  pr.load1 (.int .i64) a26 w fun (ξ27 : Int) =>
  pr.sem1 .sl PP (Instr.buildSlice T_Sint 1 #[(0, vI ξ27)]) w fun (ρ28 : Sl) ω29 =>
  pr.sem1 .sl PP (Builtin.append_ #[T_Sint, T_Sint] T_Sint #[Sl.v out_6, Sl.v ρ28]) ω29 fun (ρ30 : Sl) ω31 =>
  pr.drewAll ω31 fun ω32 =>
  pr.cutK 1 rest_5 none (some at_9) fun (s33 : Sl) =>
  pr.cutK 1 rest_5 (some (w64 (at_9 + 1))) none fun (s34 : Sl) =>
  pr.sem1 .sl PP (Instr.buildSlice T_Sint 0 #[]) ω32 fun (ρ35 : Sl) ω36 =>
  pr.sem1 .sl PP (Builtin.append_ #[T_Sint, T_Sint] T_Sint #[Sl.v ρ35, Sl.v s33]) ω36 fun (ρ37 : Sl) ω38 =>
  pr.sem1 .sl PP (Builtin.append_ #[T_Sint, T_Sint] T_Sint #[Sl.v ρ37, Sl.v s34]) ω38 fun (ρ39 : Sl) ω40 =>
  k (emb8 p_0 lows_4 ρ39 ρ30 low_7 (w64 (k_8 + 1))) ω40) := by kernel_rfl
theorem A14_2_s (p_0 : Sl) (lows_4 : Sl) (rest_5 : Sl) (out_6 : Sl) (low_7 : Int) (k_8 : Int) (at_9 : Int) (w : World) (k : Env → World → Prop) (Q : Exit → Env → World → Prop) : (q23 std k Q) (.exit 2) (x2 p_0 lows_4 rest_5 out_6 low_7 k_8 at_9) w = (
  idxK 1 rest_5 at_9 fun (a26 : Addr) =>
  load1 (.int .i64) a26 w fun (ξ27 : Int) =>
  sem1 .sl PP (Instr.buildSlice T_Sint 1 #[(0, vI ξ27)]) w fun (ρ28 : Sl) ω29 =>
  sem1 .sl PP (Builtin.append_ #[T_Sint, T_Sint] T_Sint #[Sl.v out_6, Sl.v ρ28]) ω29 fun (ρ30 : Sl) ω31 =>
  drewAll ω31 fun ω32 =>
  cutK 1 rest_5 none (some at_9) fun (s33 : Sl) =>
  cutK 1 rest_5 (some (w64 (at_9 + 1))) none fun (s34 : Sl) =>
  sem1 .sl PP (Instr.buildSlice T_Sint 0 #[]) ω32 fun (ρ35 : Sl) ω36 =>
  sem1 .sl PP (Builtin.append_ #[T_Sint, T_Sint] T_Sint #[Sl.v ρ35, Sl.v s33]) ω36 fun (ρ37 : Sl) ω38 =>
  sem1 .sl PP (Builtin.append_ #[T_Sint, T_Sint] T_Sint #[Sl.v ρ37, Sl.v s34]) ω38 fun (ρ39 : Sl) ω40 =>
  k (emb8 p_0 lows_4 ρ39 ρ30 low_7 (w64 (k_8 + 1))) ω40) := A14_2_eq std p_0 lows_4 rest_5 out_6 low_7 k_8 at_9 w k Q
theorem B8_eq (pr : Prims) (p_0 : Sl) (lows_4 : Sl) (rest_5 : Sl) (out_6 : Sl) (low_7 : Int) (k_8 : Int) (w : World) (k : Env → World → Prop) (Q : Exit → Env → World → Prop) : B8 pr p_0 lows_4 rest_5 out_6 low_7 k_8 w k Q = (
  bif decide (k_8 < (p_0.n : Int)) then (
  pr.call1 .bool PP F.spec_l2Has #[Sl.v lows_4, vI (w64 (k_8 + 1))] w fun (ρ14 : Bool) ω15 =>
  bif ρ14 then (
  pr.idxK 1 p_0 k_8 fun (a16 : Addr) =>
  pr.load1 (.int .i64) a16 ω15 fun (ξ17 : Int) =>
  pr.sem1 .sl PP (Instr.buildSlice T_Sint 1 #[(0, vI ξ17)]) ω15 fun (ρ18 : Sl) ω19 =>
  pr.sem1 .sl PP (Builtin.append_ #[T_Sint, T_Sint] T_Sint #[Sl.v out_6, Sl.v ρ18]) ω19 fun (ρ20 : Sl) ω21 =>
  k (emb8 p_0 lows_4 rest_5 ρ20 ξ17 (w64 (k_8 + 1))) ω21)
  else (
  L14 pr p_0 lows_4 rest_5 out_6 low_7 k_8 0 ω15 (q23 pr k Q)))
  else (
  Q (.exit 0) (x0 out_6) w)) := by kernel_rfl
theorem B8_s (p_0 : Sl) (lows_4 : Sl) (rest_5 : Sl) (out_6 : Sl) (low_7 : Int) (k_8 : Int) (w : World) (k : Env → World → Prop) (Q : Exit → Env → World → Prop) : B8 std p_0 lows_4 rest_5 out_6 low_7 k_8 w k Q = (
  bif decide (k_8 < (p_0.n : Int)) then (
  call1 .bool PP F.spec_l2Has #[Sl.v lows_4, vI (w64 (k_8 + 1))] w fun (ρ14 : Bool) ω15 =>
  bif ρ14 then (
  idxK 1 p_0 k_8 fun (a16 : Addr) =>
  load1 (.int .i64) a16 ω15 fun (ξ17 : Int) =>
  sem1 .sl PP (Instr.buildSlice T_Sint 1 #[(0, vI ξ17)]) ω15 fun (ρ18 : Sl) ω19 =>
  sem1 .sl PP (Builtin.append_ #[T_Sint, T_Sint] T_Sint #[Sl.v out_6, Sl.v ρ18]) ω19 fun (ρ20 : Sl) ω21 =>
  k (emb8 p_0 lows_4 rest_5 ρ20 ξ17 (w64 (k_8 + 1))) ω21)
  else (
  L14 std p_0 lows_4 rest_5 out_6 low_7 k_8 0 ω15 (q23 std k Q)))
  else (
  Q (.exit 0) (x0 out_6) w)) := B8_eq std p_0 lows_4 rest_5 out_6 low_7 k_8 w k Q
theorem L8_rule (p_0 : Sl) (lows_4 : Sl) (rest_5 : Sl) (out_6 : Sl) (low_7 : Int) (k_8 : Int) (w : World) (Q : Exit → Env → World → Prop) (I : Sl → Sl → Int → Int → World → Prop) (μ : Sl → Sl → Int → Int → World → Nat) (h0 : I rest_5 out_6 low_7 k_8 w)
    (h : ∀ (rest_5 : Sl) (out_6 : Sl) (low_7 : Int) (k_8 : Int) (w' : World), I rest_5 out_6 low_7 k_8 w' → B8 std p_0 lows_4 rest_5 out_6 low_7 k_8 w' (fun e2 w2 => ∃ rest_5_n out_6_n low_7_n k_8_n, e2 = emb8 p_0 lows_4 rest_5_n out_6_n low_7_n k_8_n ∧ I rest_5_n out_6_n low_7_n k_8_n w2 ∧ μ rest_5_n out_6_n low_7_n k_8_n w2 < μ rest_5 out_6 low_7 k_8 w') Q) :
    L8 std p_0 lows_4 rest_5 out_6 low_7 k_8 w Q := by
  unfold L8
  refine LoopE.intro (σ := Sl × Sl × Int × Int) (step := S8 std Q) (fun s => emb8 p_0 lows_4 s.1 s.2.1 s.2.2.1 s.2.2.2) (fun s w => I s.1 s.2.1 s.2.2.1 s.2.2.2 w) (fun s w => μ s.1 s.2.1 s.2.2.1 s.2.2.2 w) (rest_5, out_6, low_7, k_8) rfl h0 ?_
  intro s w' hI
  have h1 := h s.1 s.2.1 s.2.2.1 s.2.2.2 w' hI
  unfold B8 at h1
  simp only [Prod.exists]
  exact h1
theorem A8_0_eq (pr : Prims) (out_6 : Sl) (w : World) (R : Ending → World → Prop) : (q11 pr R) (.exit 0) (x0 out_6) w = (
  R (.returned (.tuple #[Sl.v out_6, .bool true])) w) := by kernel_rfl
theorem A8_0_s (out_6 : Sl) (w : World) (R : Ending → World → Prop) : (q11 std R) (.exit 0) (x0 out_6) w = (
  R (.returned (.tuple #[Sl.v out_6, .bool true])) w) := A8_0_eq std out_6 w R
theorem E_eq (pr : Prims) (p_0 : Sl) (w : World) (R : Ending → World → Prop) : E pr p_0 w R = (
  pr.call1 .bool PP F.spec_IsPerm #[Sl.v p_0] w fun (ρ0 : Bool) ω1 =>
  bif !ρ0 then (
  pr.sem1 .sl PP (Instr.buildSlice T_Sint 0 #[]) ω1 fun (ρ2 : Sl) ω3 =>
  R (.returned (.tuple #[Sl.v ρ2, .bool false])) ω3)
  else (
  pr.call1 .sl PP F.spec_LowsOf #[Sl.v p_0] ω1 fun (ρ4 : Sl) ω5 =>
  pr.call1 .sl PP F.spec_l17Rest #[Sl.v p_0] ω5 fun (ρ6 : Sl) ω7 =>
  pr.sem1 .sl PP (Instr.buildSlice T_Sint 0 #[]) ω7 fun (ρ8 : Sl) ω9 =>
  L8 pr p_0 ρ4 ρ6 ρ8 0 0 ω9 (q11 pr R))) := by kernel_rfl
theorem E_s (p_0 : Sl) (w : World) (R : Ending → World → Prop) : E std p_0 w R = (
  call1 .bool PP F.spec_IsPerm #[Sl.v p_0] w fun (ρ0 : Bool) ω1 =>
  bif !ρ0 then (
  sem1 .sl PP (Instr.buildSlice T_Sint 0 #[]) ω1 fun (ρ2 : Sl) ω3 =>
  R (.returned (.tuple #[Sl.v ρ2, .bool false])) ω3)
  else (
  call1 .sl PP F.spec_LowsOf #[Sl.v p_0] ω1 fun (ρ4 : Sl) ω5 =>
  call1 .sl PP F.spec_l17Rest #[Sl.v p_0] ω5 fun (ρ6 : Sl) ω7 =>
  sem1 .sl PP (Instr.buildSlice T_Sint 0 #[]) ω7 fun (ρ8 : Sl) ω9 =>
  L8 std p_0 ρ4 ρ6 ρ8 0 0 ω9 (q11 std R))) := E_eq std p_0 w R
theorem drawsOk : drawsOk PP cfg okD (codeOf Try.f69) = true := by kernel_rfl
theorem calls (p_0 : Sl) {w : World} {R : Ending → World → Prop} (h : E std p_0 w R) : Calls PP F.spec_NearestRest #[Sl.v p_0] w R :=
  calls_of noCount mixed drawOk Try.func69 rfl (c := cfg) (args := [Sl.v p_0]) rfl (Nat.le_of_ble_eq_true (by kernel_rfl)) drawsOk h
end spec_NearestRest

end Go.Proofs.Ytdchjhhpbdekeaa

/- What each function does, step by step, written by a program (Gen.lean); each equation is checked by the kernel. -/
namespace Go.Proofs.Ytdchjhhpbdekeaa
open Go
set_option linter.unusedVariables false
set_option maxRecDepth 100000
namespace spec_LowsOf
@[reducible] def cfg : Cfg := ⟨36, [(4, [0, 3, 4, 5])], [(1, [0, 3, 4, 5]), (0, [3])], [], [2], [], [101, 107, 112, 15, 21, 124, 76, 137, 28, 115, 91, 81, 130], [138, 140, 82, 6, 86, 85, 132]⟩
def q2 (pr : Prims) (R : Ending → World → Prop) : Exit → Env → World → Prop := fun ex e w => normQ ex (fun e w => contE pr cfg (sub (codeOf Try.f121) [1, 1, 1, 1]) (fun e w => wpC pr PP cfg (DD pr) (sub (codeOf Try.f121) [1, 1, 1, 1]) (retQ Try.f121.results.toList R) e w) e w) (retQ Try.f121.results.toList R) e w
def q3 (pr : Prims) (R : Ending → World → Prop) : Exit → Env → World → Prop := fun ex e w => blockQ ex 0 (q2 pr R) e w
def emb4 (p_0 : Sl) (out_3 : Sl) (least_4 : Int) (k_5 : Int) : Env := [(0, Sl.v p_0), (3, Sl.v out_3), (4, vI least_4), (5, vI k_5)]
def x0 (out_3 : Sl) : Env := [(3, Sl.v out_3)]
def S4 (pr : Prims) (Q : Exit → Env → World → Prop) : (Env → World → Prop) → Env → World → Prop := fun k e w => wpC pr PP cfg (DD pr) (sub (codeOf Try.f121) [1, 1, 1, 0, 1, 0, 0]) (fun ex e w => normQ ex (fun e' w' => k (Env.restr e' (lookN cfg.loops (keyOf (sub (codeOf Try.f121) [1, 1, 1, 0, 1, 0, 0])))) w') Q e w) e w
def B4 (pr : Prims) (p_0 : Sl) (out_3 : Sl) (least_4 : Int) (k_5 : Int) (w : World) (k : Env → World → Prop) (Q : Exit → Env → World → Prop) : Prop :=
  S4 pr Q k (emb4 p_0 out_3 least_4 k_5) w
def L4 (pr : Prims) (p_0 : Sl) (out_3 : Sl) (least_4 : Int) (k_5 : Int) (w : World) (Q : Exit → Env → World → Prop) : Prop :=
  pr.loop (S4 pr Q) (emb4 p_0 out_3 least_4 k_5) w
def E (pr : Prims) (p_0 : Sl) (w : World) (R : Ending → World → Prop) : Prop :=
  wpC pr PP cfg (DD pr) (codeOf Try.f121) (retQ Try.f121.results.toList R) (argE 0 [Sl.v p_0]) w
theorem B4_eq (pr : Prims) (p_0 : Sl) (out_3 : Sl) (least_4 : Int) (k_5 : Int) (w : World) (k : Env → World → Prop) (Q : Exit → Env → World → Prop) : B4 pr p_0 out_3 least_4 k_5 w k Q = (
  bif decide (k_5 < (p_0.n : Int)) then (
  pr.call1 .bool PP F.spec_IsPerm #[Sl.v p_0] w fun (ρ4 : Bool) ω5 =>
  bif ρ4 then (
  pr.idxK 1 p_0 k_5 fun (a6 : Addr) =>
  pr.load1 (.int .i64) a6 ω5 fun (ξ7 : Int) =>
  bif decide (ξ7 < least_4) then (
  pr.idxK 1 p_0 k_5 fun (a8 : Addr) =>
  pr.load1 (.int .i64) a8 ω5 fun (ξ9 : Int) =>
  pr.sem1 .sl PP (Instr.buildSlice T_Sint 1 #[(0, vI (w64 (k_5 + 1)))]) ω5 fun (ρ10 : Sl) ω11 =>
  pr.sem1 .sl PP (Builtin.append_ #[T_Sint, T_Sint] T_Sint #[Sl.v out_3, Sl.v ρ10]) ω11 fun (ρ12 : Sl) ω13 =>
  k (emb4 p_0 ρ12 ξ9 (w64 (k_5 + 1))) ω13)
  else (
  k (emb4 p_0 out_3 least_4 (w64 (k_5 + 1))) ω5))
  else (
  Q (.exit 0) (x0 out_3) ω5))
  else (
  Q (.exit 0) (x0 out_3) w)) := by kernel_rfl
theorem B4_s (p_0 : Sl) (out_3 : Sl) (least_4 : Int) (k_5 : Int) (w : World) (k : Env → World → Prop) (Q : Exit → Env → World → Prop) : B4 std p_0 out_3 least_4 k_5 w k Q = (
  bif decide (k_5 < (p_0.n : Int)) then (
  call1 .bool PP F.spec_IsPerm #[Sl.v p_0] w fun (ρ4 : Bool) ω5 =>
  bif ρ4 then (
  idxK 1 p_0 k_5 fun (a6 : Addr) =>
  load1 (.int .i64) a6 ω5 fun (ξ7 : Int) =>
  bif decide (ξ7 < least_4) then (
  idxK 1 p_0 k_5 fun (a8 : Addr) =>
  load1 (.int .i64) a8 ω5 fun (ξ9 : Int) =>
  sem1 .sl PP (Instr.buildSlice T_Sint 1 #[(0, vI (w64 (k_5 + 1)))]) ω5 fun (ρ10 : Sl) ω11 =>
  sem1 .sl PP (Builtin.append_ #[T_Sint, T_Sint] T_Sint #[Sl.v out_3, Sl.v ρ10]) ω11 fun (ρ12 : Sl) ω13 =>
  k (emb4 p_0 ρ12 ξ9 (w64 (k_5 + 1))) ω13)
  else (
  k (emb4 p_0 out_3 least_4 (w64 (k_5 + 1))) ω5))
  else (
  Q (.exit 0) (x0 out_3) ω5))
  else (
  Q (.exit 0) (x0 out_3) w)) := B4_eq std p_0 out_3 least_4 k_5 w k Q
theorem L4_rule (p_0 : Sl) (out_3 : Sl) (least_4 : Int) (k_5 : Int) (w : World) (Q : Exit → Env → World → Prop) (I : Sl → Int → Int → World → Prop) (μ : Sl → Int → Int → World → Nat) (h0 : I out_3 least_4 k_5 w)
    (h : ∀ (out_3 : Sl) (least_4 : Int) (k_5 : Int) (w' : World), I out_3 least_4 k_5 w' → B4 std p_0 out_3 least_4 k_5 w' (fun e2 w2 => ∃ out_3_n least_4_n k_5_n, e2 = emb4 p_0 out_3_n least_4_n k_5_n ∧ I out_3_n least_4_n k_5_n w2 ∧ μ out_3_n least_4_n k_5_n w2 < μ out_3 least_4 k_5 w') Q) :
    L4 std p_0 out_3 least_4 k_5 w Q := by
  unfold L4
  refine LoopE.intro (σ := Sl × Int × Int) (step := S4 std Q) (fun s => emb4 p_0 s.1 s.2.1 s.2.2) (fun s w => I s.1 s.2.1 s.2.2 w) (fun s w => μ s.1 s.2.1 s.2.2 w) (out_3, least_4, k_5) rfl h0 ?_
  intro s w' hI
  have h1 := h s.1 s.2.1 s.2.2 w' hI
  unfold B4 at h1
  simp only [Prod.exists]
  exact h1
theorem A4_0_eq (pr : Prims) (out_3 : Sl) (w : World) (R : Ending → World → Prop) : (q3 pr R) (.exit 0) (x0 out_3) w = (
  R (.returned (Sl.v out_3)) w) := by kernel_rfl
theorem A4_0_s (out_3 : Sl) (w : World) (R : Ending → World → Prop) : (q3 std R) (.exit 0) (x0 out_3) w = (
  R (.returned (Sl.v out_3)) w) := A4_0_eq std out_3 w R
theorem E_eq (pr : Prims) (p_0 : Sl) (w : World) (R : Ending → World → Prop) : E pr p_0 w R = (
  pr.sem1 .sl PP (Instr.buildSlice T_Sint 0 #[]) w fun (ρ0 : Sl) ω1 =>
  L4 pr p_0 ρ0 (w64 ((p_0.n : Int) + 1)) 0 ω1 (q3 pr R)) := by kernel_rfl
theorem E_s (p_0 : Sl) (w : World) (R : Ending → World → Prop) : E std p_0 w R = (
  sem1 .sl PP (Instr.buildSlice T_Sint 0 #[]) w fun (ρ0 : Sl) ω1 =>
  L4 std p_0 ρ0 (w64 ((p_0.n : Int) + 1)) 0 ω1 (q3 std R)) := E_eq std p_0 w R
theorem drawsOk : drawsOk PP cfg okD (codeOf Try.f121) = true := by kernel_rfl
theorem calls (p_0 : Sl) {w : World} {R : Ending → World → Prop} (h : E std p_0 w R) : Calls PP F.spec_LowsOf #[Sl.v p_0] w R :=
  calls_of noCount mixed drawOk Try.func121 rfl (c := cfg) (args := [Sl.v p_0]) rfl (Nat.le_of_ble_eq_true (by kernel_rfl)) drawsOk h
end spec_LowsOf

end Go.Proofs.Ytdchjhhpbdekeaa

/- The places of the lows: both texts. -/
namespace Go.Proofs.Ytdchjhhpbdekeaa
open Go Go.RowKit
set_option maxRecDepth 100000

/-- Is no earlier number less? -/
def isLow (L : List Int) (i : Nat) : Bool := (List.range i).all fun j => !decide (L.getD j 0 < L.getD i 0)
theorem isLow_iff {L : List Int} {i : Nat} : isLow L i = true ↔ ∀ j, j < i → ¬ L.getD j 0 < L.getD i 0 := by simp [isLow]
def lowsT (L : List Int) : Nat → List Int
  | 0 => []
  | k + 1 => if isLow L k then lowsT L k ++ [(k : Int) + 1] else lowsT L k
theorem lowsT_length (L : List Int) : ∀ k, (lowsT L k).length ≤ k
  | 0 => by simp [lowsT]
  | k + 1 => by
    have := lowsT_length L k
    rw [lowsT]
    split
    · simp; omega
    · omega
theorem mem_lowsT {L : List Int} : ∀ {k : Nat} {x : Int}, x ∈ lowsT L k ↔ 1 ≤ x ∧ x ≤ k ∧ isLow L (x - 1).toNat = true
  | 0, x => by simp [lowsT]; omega
  | k + 1, x => by
    rw [lowsT]
    have ih := mem_lowsT (L := L) (k := k) (x := x)
    split
    · rename_i h
      rw [List.mem_append, ih]
      simp only [List.mem_singleton]
      constructor
      · rintro (⟨h1, h2, h3⟩ | rfl)
        · exact ⟨h1, by omega, h3⟩
        · exact ⟨by omega, by omega, by rw [show ((k : Int) + 1 - 1).toNat = k by omega]; exact h⟩
      · rintro ⟨h1, h2, h3⟩
        by_cases e : x = (k : Int) + 1
        · exact .inr e
        · exact .inl ⟨h1, by omega, h3⟩
    · rename_i h
      rw [ih]
      constructor
      · rintro ⟨h1, h2, h3⟩; exact ⟨h1, by omega, h3⟩
      · rintro ⟨h1, h2, h3⟩
        refine ⟨h1, ?_, h3⟩
        by_cases e : x = (k : Int) + 1
        · subst e
          rw [show ((k : Int) + 1 - 1).toNat = k by omega] at h3
          exact absurd h3 h
        · omega
open Classical in
noncomputable def LowsV (L : List Int) : List Int := if IsP L then lowsT L L.length else []
/-- The least of the first k. -/
def leastT (L : List Int) : Nat → Int
  | 0 => (L.length : Int) + 1
  | k + 1 => if L.getD k 0 < leastT L k then L.getD k 0 else leastT L k
theorem leastT_le (L : List Int) : ∀ k j, j < k → leastT L k ≤ L.getD j 0
  | k + 1, j, hj => by
    rw [leastT]
    by_cases e : j = k
    · subst e; split <;> omega
    · have := leastT_le L k j (by omega)
      split <;> omega
theorem leastT_mem (L : List Int) : ∀ k, leastT L k = (L.length : Int) + 1 ∨ ∃ j, j < k ∧ leastT L k = L.getD j 0
  | 0 => .inl rfl
  | k + 1 => by
    rw [leastT]
    split
    · exact .inr ⟨k, by omega, rfl⟩
    · rcases leastT_mem L k with h | ⟨j, h1, h2⟩
      · exact .inl h
      · exact .inr ⟨j, by omega, h2⟩
theorem low_least {L : List Int} (h : IsP L) {k : Nat} (hk : k < L.length) : L.getD k 0 < leastT L k ↔ isLow L k = true := by
  rw [isLow_iff]
  constructor
  · intro h1 j hj h2
    have := leastT_le L k j hj
    omega
  · intro h1
    rcases leastT_mem L k with h2 | ⟨j, h2, h3⟩
    · have := (h.2 k hk).2.1; omega
    · have := h1 j h2
      have := (h.2 k hk).2.2 j h2
      omega

open Classical in
theorem c_specLowsOf {w : World} {a : Sl} {L : List Int} (ha : RowI w a L) (hL : L.length < 2^38) :
    Calls PP F.spec_LowsOf #[a.v] w fun e w' => ∃ s : Sl, e = .returned s.v ∧ OwnI w' w.heap.size s (LowsV L) ∧ Below w.heap.size w w' := by
  have han : a.n = L.length := by have := ha.n; simpa using this
  refine spec_LowsOf.calls a ?_
  rw [spec_LowsOf.E_s, han]
  refine lit0 oneInt (B := w.heap.size) (Nat.le_refl _) ?_
  intro o0 w1 ho0 hg1 _
  rw [w64_succ (n := (L.length : Int)) (by omega) (by omega)]
  refine spec_LowsOf.L4_rule _ _ _ _ _ _ (I := fun o le k w' => 0 ≤ k ∧ k ≤ L.length ∧ le = leastT L k.toNat ∧ (0 < k → IsP L) ∧ OwnI w' w.heap.size o (lowsT L k.toNat) ∧ Below w.heap.size w w') (μ := fun _ _ k _ => (L.length - k).toNat)
    ⟨by omega, by omega, rfl, fun h => by omega, ho0, below_of_grow hg1⟩ ?_
  rintro o le k w' ⟨h0, hk, hle, hip, ho, hb⟩
  rw [spec_LowsOf.B4_s, han]
  have hll := lowsT_length L k.toNat
  refine bif_dec (fun h3 => ?_) (fun h3 => ?_)
  · have hlt : k.toNat < L.length := by omega
    refine Quiet.call1 (s := .bool) (c_specIsPerm (ha.grow hb) hL) ?_
    intro w2 hd
    have hb2 := hb.trans (hd.below _)
    have ho2 := ho.heap hd.heap'
    refine bif_dec (fun h4 => ?_) (fun h4 => ?_)
    · refine RowI.get (ha.grow hb2) h0 (by omega) ?_
      have hsc : (k + 1).toNat = k.toNat + 1 := by omega
      have hiff := low_least h4 hlt
      refine bif_dec (fun h5 => ?_) (fun h5 => ?_)
      · refine RowI.get (ha.grow hb2) h0 (by omega) ?_
        rw [hle] at h5
        rw [w64_succ (n := k) h0 (by omega)]
        refine append_int ho2 hb2.size (by omega) ?_
        intro o' w3 ho3 hg3 _
        refine ⟨o', _, k + 1, rfl, ⟨by omega, by omega, by rw [hsc, leastT, if_pos h5], fun _ => h4, ?_, hb2.grown hg3 hb2.size (fun g hg => (ho2.lt g hg).1)⟩, by omega⟩
        rw [hsc, lowsT, if_pos (hiff.1 h5), show ((k.toNat : Nat) : Int) + 1 = k + 1 by omega]
        exact ho3
      · rw [hle] at h5
        refine ⟨o, le, k + 1, by rw [w64_succ h0 (by omega)], ⟨by omega, by omega, by rw [hsc, leastT, if_neg h5, hle], fun _ => h4, ?_, hb2⟩, by omega⟩
        rw [hsc, lowsT, if_neg (fun h => h5 (hiff.2 h))]
        exact ho2
    · rw [spec_LowsOf.A4_0_s]
      have hk0 : k = 0 := by
        apply Classical.byContradiction
        intro hne
        exact h4 (hip (by omega))
      subst hk0
      exact ⟨o, rfl, by rw [LowsV, if_neg h4]; exact ho2, hb2⟩
  · rw [spec_LowsOf.A4_0_s]
    have hkl : k.toNat = L.length := by omega
    rw [hkl] at ho
    refine ⟨o, rfl, ?_, hb⟩
    unfold LowsV
    split
    · exact ho
    · rename_i hn
      have : L.length = 0 := by
        apply Classical.byContradiction
        intro hne
        exact hn (hip (by omega))
      rw [this] at ho
      exact ho
end Go.Proofs.Ytdchjhhpbdekeaa

/- What each function does, step by step, written by a program (Gen.lean); each equation is checked by the kernel. -/
namespace Go.Proofs.Ytdchjhhpbdekeaa
open Go
set_option linter.unusedVariables false
set_option maxRecDepth 100000
namespace spec_l15Sort
@[reducible] def cfg : Cfg := ⟨49, [(6, [0, 3, 4, 5]), (3, [0, 3, 4])], [(3, [0, 3, 4, 5]), (2, [0, 3, 4, 5]), (1, [0, 3, 4]), (0, [3])], [], [2], [6], [101, 107, 112, 15, 21, 124, 76, 137, 28, 115, 91, 81, 130], [138, 140, 82, 6, 86, 85, 132]⟩
def q2 (pr : Prims) (R : Ending → World → Prop) : Exit → Env → World → Prop := fun ex e w => normQ ex (fun e w => contE pr cfg (sub (codeOf Try.f136) [1, 1, 1]) (fun e w => wpC pr PP cfg (DD pr) (sub (codeOf Try.f136) [1, 1, 1]) (retQ Try.f136.results.toList R) e w) e w) (retQ Try.f136.results.toList R) e w
def q3 (pr : Prims) (R : Ending → World → Prop) : Exit → Env → World → Prop := fun ex e w => blockQ ex 0 (q2 pr R) e w
def q4 (pr : Prims) (k : Env → World → Prop) (Q : Exit → Env → World → Prop) : Exit → Env → World → Prop := fun ex e w => normQ ex (fun e w => contE pr cfg (sub (codeOf Try.f136) [1, 1, 0, 1, 0, 0, 1, 1]) (fun e w => wpC pr PP cfg (DD pr) (sub (codeOf Try.f136) [1, 1, 0, 1, 0, 0, 1, 1]) (fun ex e w => normQ ex (fun e' w' => k (Env.restr e' (lookN cfg.loops (keyOf (sub (codeOf Try.f136) [1, 1, 0, 1, 0, 0])))) w') Q e w) e w) e w) (fun ex e w => normQ ex (fun e' w' => k (Env.restr e' (lookN cfg.loops (keyOf (sub (codeOf Try.f136) [1, 1, 0, 1, 0, 0])))) w') Q e w) e w
def q5 (pr : Prims) (k : Env → World → Prop) (Q : Exit → Env → World → Prop) : Exit → Env → World → Prop := fun ex e w => blockQ ex 1 (q4 pr k Q) e w
def q6 (pr : Prims) (k : Env → World → Prop) (Q : Exit → Env → World → Prop) : Exit → Env → World → Prop := fun ex e w => normQ ex (fun e w => contE pr cfg (sub (codeOf Try.f136) [1, 1, 0, 1, 0, 0, 1, 0, 0, 1, 1]) (fun e w => wpC pr PP cfg (DD pr) (sub (codeOf Try.f136) [1, 1, 0, 1, 0, 0, 1, 0, 0, 1, 1]) (q5 pr k Q) e w) e w) (q5 pr k Q) e w
def q7 (pr : Prims) (k : Env → World → Prop) (Q : Exit → Env → World → Prop) : Exit → Env → World → Prop := fun ex e w => blockQ ex 2 (q6 pr k Q) e w
def emb3 (list_0 : Sl) (out_3 : Sl) (k_4 : Int) : Env := [(0, Sl.v list_0), (3, Sl.v out_3), (4, vI k_4)]
def emb6 (list_0 : Sl) (out_3 : Sl) (k_4 : Int) (at_5 : Int) : Env := [(0, Sl.v list_0), (3, Sl.v out_3), (4, vI k_4), (5, vI at_5)]
def x2 (list_0 : Sl) (out_3 : Sl) (k_4 : Int) (at_5 : Int) : Env := [(0, Sl.v list_0), (3, Sl.v out_3), (4, vI k_4), (5, vI at_5)]
def x0 (out_3 : Sl) : Env := [(3, Sl.v out_3)]
def S6 (pr : Prims) (Q : Exit → Env → World → Prop) : (Env → World → Prop) → Env → World → Prop := fun k e w => wpC pr PP cfg (DD pr) (sub (codeOf Try.f136) [1, 1, 0, 1, 0, 0, 1, 0, 0, 1, 0, 0, 0]) (fun ex e w => normQ ex (fun e' w' => k (Env.restr e' (lookN cfg.loops (keyOf (sub (codeOf Try.f136) [1, 1, 0, 1, 0, 0, 1, 0, 0, 1, 0, 0, 0])))) w') Q e w) e w
def S3 (pr : Prims) (Q : Exit → Env → World → Prop) : (Env → World → Prop) → Env → World → Prop := fun k e w => wpC pr PP cfg (DD pr) (sub (codeOf Try.f136) [1, 1, 0, 1, 0, 0]) (fun ex e w => normQ ex (fun e' w' => k (Env.restr e' (lookN cfg.loops (keyOf (sub (codeOf Try.f136) [1, 1, 0, 1, 0, 0])))) w') Q e w) e w
def B6 (pr : Prims) (list_0 : Sl) (out_3 : Sl) (k_4 : Int) (at_5 : Int) (w : World) (k : Env → World → Prop) (Q : Exit → Env → World → Prop) : Prop :=
  S6 pr Q k (emb6 list_0 out_3 k_4 at_5) w
def L6 (pr : Prims) (list_0 : Sl) (out_3 : Sl) (k_4 : Int) (at_5 : Int) (w : World) (Q : Exit → Env → World → Prop) : Prop :=
  pr.loop (S6 pr Q) (emb6 list_0 out_3 k_4 at_5) w
def B3 (pr : Prims) (list_0 : Sl) (out_3 : Sl) (k_4 : Int) (w : World) (k : Env → World → Prop) (Q : Exit → Env → World → Prop) : Prop :=
  S3 pr Q k (emb3 list_0 out_3 k_4) w
def L3 (pr : Prims) (list_0 : Sl) (out_3 : Sl) (k_4 : Int) (w : World) (Q : Exit → Env → World → Prop) : Prop :=
  pr.loop (S3 pr Q) (emb3 list_0 out_3 k_4) w
def E (pr : Prims) (list_0 : Sl) (w : World) (R : Ending → World → Prop) : Prop :=
  wpC pr PP cfg (DD pr) (codeOf Try.f136) (retQ Try.f136.results.toList R) (argE 0 [Sl.v list_0]) w
theorem B6_eq (pr : Prims) (list_0 : Sl) (out_3 : Sl) (k_4 : Int) (at_5 : Int) (w : World) (k : Env → World → Prop) (Q : Exit → Env → World → Prop) : B6 pr list_0 out_3 k_4 at_5 w k Q = (
  bif decide (at_5 > 0) then (
  pr.idxK 1 list_0 k_4 fun (a8 : Addr) =>
  pr.load1 (.int .i64) a8 w fun (ξ9 : Int) =>
  pr.idxK 1 out_3 (w64 (at_5 - 1)) fun (a10 : Addr) =>
  pr.load1 (.int .i64) a10 w fun (ξ11 : Int) =>
  pr.drewAll w fun ω12 =>
  bif decide (ξ9 < ξ11) then (
  k (emb6 list_0 out_3 k_4 (w64 (at_5 - 1))) ω12)
  else (
  Q (.exit 2) (x2 list_0 out_3 k_4 at_5) ω12))
  else (
  pr.drewAll w fun ω13 =>
  Q (.exit 2) (x2 list_0 out_3 k_4 at_5) ω13)) := by kernel_rfl
theorem B6_s (list_0 : Sl) (out_3 : Sl) (k_4 : Int) (at_5 : Int) (w : World) (k : Env → World → Prop) (Q : Exit → Env → World → Prop) : B6 std list_0 out_3 k_4 at_5 w k Q = (
  bif decide (at_5 > 0) then (
  idxK 1 list_0 k_4 fun (a8 : Addr) =>
  load1 (.int .i64) a8 w fun (ξ9 : Int) =>
  idxK 1 out_3 (w64 (at_5 - 1)) fun (a10 : Addr) =>
  load1 (.int .i64) a10 w fun (ξ11 : Int) =>
  drewAll w fun ω12 =>
  bif decide (ξ9 < ξ11) then (
  k (emb6 list_0 out_3 k_4 (w64 (at_5 - 1))) ω12)
  else (
  Q (.exit 2) (x2 list_0 out_3 k_4 at_5) ω12))
  else (
  drewAll w fun ω13 =>
  Q (.exit 2) (x2 list_0 out_3 k_4 at_5) ω13)) := B6_eq std list_0 out_3 k_4 at_5 w k Q
theorem L6_rule (list_0 : Sl) (out_3 : Sl) (k_4 : Int) (at_5 : Int) (w : World) (Q : Exit → Env → World → Prop) (I : Int → World → Prop) (μ : Int → World → Nat) (h0 : I at_5 w)
    (h : ∀ (at_5 : Int) (w' : World), I at_5 w' → B6 std list_0 out_3 k_4 at_5 w' (fun e2 w2 => ∃ at_5_n, e2 = emb6 list_0 out_3 k_4 at_5_n ∧ I at_5_n w2 ∧ μ at_5_n w2 < μ at_5 w') Q) :
    L6 std list_0 out_3 k_4 at_5 w Q := by
  unfold L6
  refine LoopE.intro (σ := Int) (step := S6 std Q) (fun s => emb6 list_0 out_3 k_4 s) (fun s w => I s w) (fun s w => μ s w) at_5 rfl h0 ?_
  intro s w' hI
  have h1 := h s w' hI
  unfold B6 at h1
  exact h1
theorem A6_2_eq (pr : Prims) (list_0 : Sl) (out_3 : Sl) (k_4 : Int) (at_5 : Int) (w : World) (k : Env → World → Prop) (Q : Exit → Env → World → Prop) : (q7 pr k Q) (.exit 2) (x2 list_0 out_3 k_4 at_5) w = (
  pr.sem1 .sl PP (Instr.buildSlice T_Sint 0 #[]) w fun (ρ14 : Sl) ω15 =>
  pr.cutK 1 out_3 (some at_5) none fun (s16 : Sl) =>
  pr.sem1 .sl PP (Builtin.append_ #[T_Sint, T_Sint] T_Sint #[Sl.v ρ14, Sl.v s16]) ω15 fun (ρ17 : Sl) ω18 =>
  pr.drewAll ω18 fun ω19 =>
  pr.cutK 1 out_3 none (some at_5) fun (s20 : Sl) =>
  pr.idxK 1 list_0 k_4 fun (a21 : Addr) =>
  pr.load1 (.int .i64) a21 ω19 fun (ξ22 : Int) =>
  pr.sem1 .sl PP (Instr.buildSlice T_Sint 1 #[(0, vI ξ22)]) ω19 fun (ρ23 : Sl) ω24 =>
  pr.sem1 .sl PP (Builtin.append_ #[T_Sint, T_Sint] T_Sint #[Sl.v s20, Sl.v ρ23]) ω24 fun (ρ25 : Sl) ω26 =>
  pr.sem1 .sl PP (Builtin.append_ #[T_Sint, T_Sint] T_Sint #[Sl.v ρ25, Sl.v ρ17]) ω26 fun (ρ27 : Sl) ω28 =>
  k (emb3 list_0 ρ27 (w64 (k_4 + 1))) ω28) := by kernel_rfl
theorem A6_2_s (list_0 : Sl) (out_3 : Sl) (k_4 : Int) (at_5 : Int) (w : World) (k : Env → World → Prop) (Q : Exit → Env → World → Prop) : (q7 std k Q) (.exit 2) (x2 list_0 out_3 k_4 at_5) w = (
  sem1 .sl PP (Instr.buildSlice T_Sint 0 #[]) w fun (ρ14 : Sl) ω15 =>
  cutK 1 out_3 (some at_5) none fun (s16 : Sl) =>
  sem1 .sl PP (Builtin.append_ #[T_Sint, T_Sint] T_Sint #[Sl.v ρ14, Sl.v s16]) ω15 fun (ρ17 : Sl) ω18 =>
  drewAll ω18 fun ω19 =>
  cutK 1 out_3 none (some at_5) fun (s20 : Sl) =>
  idxK 1 list_0 k_4 fun (a21 : Addr) =>
  load1 (.int .i64) a21 ω19 fun (ξ22 : Int) =>
  sem1 .sl PP (Instr.buildSlice T_Sint 1 #[(0, vI ξ22)]) ω19 fun (ρ23 : Sl) ω24 =>
  sem1 .sl PP (Builtin.append_ #[T_Sint, T_Sint] T_Sint #[Sl.v s20, Sl.v ρ23]) ω24 fun (ρ25 : Sl) ω26 =>
  sem1 .sl PP (Builtin.append_ #[T_Sint, T_Sint] T_Sint #[Sl.v ρ25, Sl.v ρ17]) ω26 fun (ρ27 : Sl) ω28 =>
  k (emb3 list_0 ρ27 (w64 (k_4 + 1))) ω28) := A6_2_eq std list_0 out_3 k_4 at_5 w k Q
theorem B3_eq (pr : Prims) (list_0 : Sl) (out_3 : Sl) (k_4 : Int) (w : World) (k : Env → World → Prop) (Q : Exit → Env → World → Prop) : B3 pr list_0 out_3 k_4 w k Q = (
  bif decide (k_4 < (list_0.n : Int)) then (
  L6 pr list_0 out_3 k_4 (out_3.n : Int) w (q7 pr k Q))
  else (
  Q (.exit 0) (x0 out_3) w)) := by kernel_rfl
theorem B3_s (list_0 : Sl) (out_3 : Sl) (k_4 : Int) (w : World) (k : Env → World → Prop) (Q : Exit → Env → World → Prop) : B3 std list_0 out_3 k_4 w k Q = (
  bif decide (k_4 < (list_0.n : Int)) then (
  L6 std list_0 out_3 k_4 (out_3.n : Int) w (q7 std k Q))
  else (
  Q (.exit 0) (x0 out_3) w)) := B3_eq std list_0 out_3 k_4 w k Q
theorem L3_rule (list_0 : Sl) (out_3 : Sl) (k_4 : Int) (w : World) (Q : Exit → Env → World → Prop) (I : Sl → Int → World → Prop) (μ : Sl → Int → World → Nat) (h0 : I out_3 k_4 w)
    (h : ∀ (out_3 : Sl) (k_4 : Int) (w' : World), I out_3 k_4 w' → B3 std list_0 out_3 k_4 w' (fun e2 w2 => ∃ out_3_n k_4_n, e2 = emb3 list_0 out_3_n k_4_n ∧ I out_3_n k_4_n w2 ∧ μ out_3_n k_4_n w2 < μ out_3 k_4 w') Q) :
    L3 std list_0 out_3 k_4 w Q := by
  unfold L3
  refine LoopE.intro (σ := Sl × Int) (step := S3 std Q) (fun s => emb3 list_0 s.1 s.2) (fun s w => I s.1 s.2 w) (fun s w => μ s.1 s.2 w) (out_3, k_4) rfl h0 ?_
  intro s w' hI
  have h1 := h s.1 s.2 w' hI
  unfold B3 at h1
  simp only [Prod.exists]
  exact h1
theorem A3_0_eq (pr : Prims) (out_3 : Sl) (w : World) (R : Ending → World → Prop) : (q3 pr R) (.exit 0) (x0 out_3) w = (
  R (.returned (Sl.v out_3)) w) := by kernel_rfl
theorem A3_0_s (out_3 : Sl) (w : World) (R : Ending → World → Prop) : (q3 std R) (.exit 0) (x0 out_3) w = (
  R (.returned (Sl.v out_3)) w) := A3_0_eq std out_3 w R
theorem E_eq (pr : Prims) (list_0 : Sl) (w : World) (R : Ending → World → Prop) : E pr list_0 w R = (
  pr.sem1 .sl PP (Instr.buildSlice T_Sint 0 #[]) w fun (ρ0 : Sl) ω1 =>
  L3 pr list_0 ρ0 0 ω1 (q3 pr R)) := by kernel_rfl
theorem E_s (list_0 : Sl) (w : World) (R : Ending → World → Prop) : E std list_0 w R = (
  sem1 .sl PP (Instr.buildSlice T_Sint 0 #[]) w fun (ρ0 : Sl) ω1 =>
  L3 std list_0 ρ0 0 ω1 (q3 std R)) := E_eq std list_0 w R
theorem drawsOk : drawsOk PP cfg okD (codeOf Try.f136) = true := by kernel_rfl
theorem calls (list_0 : Sl) {w : World} {R : Ending → World → Prop} (h : E std list_0 w R) : Calls PP F.spec_l15Sort #[Sl.v list_0] w R :=
  calls_of noCount mixed drawOk Try.func136 rfl (c := cfg) (args := [Sl.v list_0]) rfl (Nat.le_of_ble_eq_true (by kernel_rfl)) drawsOk h
end spec_l15Sort

end Go.Proofs.Ytdchjhhpbdekeaa

/- This seat sorts nothing with the library. -/

/- slices.Sort at []int: the shelf's contract in this proof's words. -/
namespace Go.Proofs.Ytdchjhhpbdekeaa
open Go Go.RowKit
set_option maxRecDepth 100000

def sortI (L : List Int) : List Int := L.mergeSort fun x y => decide (x ≤ y)
theorem sortI_length (L : List Int) : (sortI L).length = L.length := List.length_mergeSort L
theorem sortI_perm (L : List Int) : (sortI L).Perm L := List.mergeSort_perm L _
theorem sortI_sorted (L : List Int) : (sortI L).Pairwise (· ≤ ·) := by
  have := List.pairwise_mergeSort (le := fun x y : Int => decide (x ≤ y)) (fun a b c h1 h2 => by simp at h1 h2 ⊢; omega) (fun a b => by simp; omega) L
  exact this.imp fun h => by simpa using h
end Go.Proofs.Ytdchjhhpbdekeaa

/- The model text's insertion sort. -/
namespace Go.Proofs.Ytdchjhhpbdekeaa
open Go Go.RowKit
set_option maxRecDepth 100000

def insAt (O : List Int) (x : Int) (k : Nat) : List Int := O.take k ++ [x] ++ O.drop k
theorem insAt_perm (O : List Int) (x : Int) (k : Nat) : (insAt O x k).Perm (O ++ [x]) := by
  unfold insAt
  have h1 : (O.take k ++ [x] ++ O.drop k).Perm (O.take k ++ (O.drop k ++ [x])) := by
    rw [List.append_assoc]
    exact List.Perm.append_left _ List.perm_append_comm
  rw [← List.append_assoc, List.take_append_drop] at h1
  exact h1
theorem insAt_sorted {O : List Int} {x : Int} {k : Nat} (hk : k ≤ O.length) (hs : O.Pairwise (· ≤ ·)) (h1 : ∀ j, k ≤ j → j < O.length → x < O.getD j 0) (h2 : k = 0 ∨ O.getD (k - 1) 0 ≤ x) : (insAt O x k).Pairwise (· ≤ ·) := by
  have hg : ∀ i j, i ≤ j → j < O.length → O.getD i 0 ≤ O.getD j 0 := fun i j hij hj => by
    by_cases e : i = j
    · subst e; omega
    · have := List.pairwise_iff_getElem.1 hs i j (by omega) hj (by omega)
      rwa [getD_lt (by omega), getD_lt hj]
  have ht : ∀ a ∈ O.take k, a ≤ x := fun a ha => by
    obtain ⟨i, hi, rfl⟩ := List.getElem_of_mem ha
    rw [List.length_take] at hi
    rw [List.getElem_take]
    rcases h2 with h2 | h2
    · omega
    · have := hg i (k - 1) (by omega) (by omega)
      rw [getD_lt (by omega)] at this
      omega
  have hd : ∀ b ∈ O.drop k, x ≤ b := fun b hb => by
    obtain ⟨i, hi, rfl⟩ := List.getElem_of_mem hb
    rw [List.length_drop] at hi
    rw [List.getElem_drop]
    have := h1 (k + i) (by omega) (by omega)
    rw [getD_lt (by omega)] at this
    omega
  have hs' : (O.take k ++ O.drop k).Pairwise (· ≤ ·) := by rw [List.take_append_drop]; exact hs
  rw [List.pairwise_append] at hs'
  unfold insAt
  rw [List.append_assoc, List.pairwise_append]
  refine ⟨hs'.1, ?_, fun a ha b hb => ?_⟩
  · rw [List.singleton_append, List.pairwise_cons]
    exact ⟨hd, hs'.2.1⟩
  · rcases List.mem_append.1 hb with hb | hb
    · have : b = x := by simpa using hb
      rw [this]; exact ht a ha
    · exact hs'.2.2 a ha b hb
theorem sortI_eq {L O : List Int} (hp : O.Perm L) (hs : O.Pairwise (· ≤ ·)) : O = sortI L :=
  List.Perm.eq_of_pairwise (fun a b _ _ h1 h2 => Int.le_antisymm h1 h2) hs (sortI_sorted L) (hp.trans (sortI_perm L).symm)
theorem c_l15Sort {w : World} {a : Sl} {L : List Int} (ha : RowI w a L) (hL : L.length < 2^38) :
    Calls PP F.spec_l15Sort #[a.v] w fun e w' => ∃ s : Sl, e = .returned s.v ∧ OwnI w' w.heap.size s (sortI L) ∧ Below w.heap.size w w' := by
  have han : a.n = L.length := by have := ha.n; simpa using this
  refine spec_l15Sort.calls a ?_
  rw [spec_l15Sort.E_s]
  refine lit0 oneInt (B := w.heap.size) (Nat.le_refl _) ?_
  intro o w1 ho hg1 _
  have hb1 := below_of_grow hg1
  refine spec_l15Sort.L3_rule _ _ _ _ _ (I := fun o k w' => 0 ≤ k ∧ k ≤ L.length ∧ Below w.heap.size w w' ∧ ∃ O : List Int, OwnI w' w.heap.size o O ∧ O.Perm (L.take k.toNat) ∧ O.Pairwise (· ≤ ·)) (μ := fun _ k _ => (L.length - k).toNat)
    ⟨by omega, by omega, hb1, [], by simpa [OwnI] using ho, by simp, List.Pairwise.nil⟩ ?_
  rintro o k w2 ⟨hk0, hk, hb2, O, ho, hp, hs⟩
  have hOl : O.length = k.toNat := by rw [hp.length_eq, List.length_take]; omega
  have hon : o.n = O.length := by have := ho.n; simpa using this
  rw [spec_l15Sort.B3_s, han]
  refine bif_dec (fun h3 => ?_) (fun h3 => ?_)
  · have hlt : k.toNat < L.length := by omega
    rw [hon]
    have fin : ∀ (at_ : Int) (w3 : World), 0 ≤ at_ → at_ ≤ O.length → Drew w2 w3 → (∀ j, at_.toNat ≤ j → j < O.length → L[k.toNat] < O.getD j 0) → (at_ = 0 ∨ O.getD (at_.toNat - 1) 0 ≤ L[k.toNat]) →
        ∀ Q, spec_l15Sort.q7 std (fun e2 w2' => ∃ out_3_n k_4_n, e2 = spec_l15Sort.emb3 a out_3_n k_4_n ∧ (0 ≤ k_4_n ∧ k_4_n ≤ L.length ∧ Below w.heap.size w w2' ∧ ∃ O : List Int, OwnI w2' w.heap.size out_3_n O ∧ O.Perm (L.take k_4_n.toNat) ∧ O.Pairwise (· ≤ ·)) ∧ (L.length - k_4_n).toNat < (L.length - k).toNat) Q (.exit 2) (spec_l15Sort.x2 a o k at_) w3 := by
      intro at_ w3 h0 h1 hd hgt hle Q
      rw [spec_l15Sort.A6_2_s]
      have hb3 := hb2.trans (hd.below _)
      have ho3 := ho.heap hd.heap'
      refine lit0 oneInt (B := w3.heap.size) (Nat.le_refl _) ?_
      intro r w4 hr hg4 _
      have hb34 := below_of_grow hg4
      have hb4 := hb3.trans (hb34.mono hb3.size)
      have ho4 := Own.grow ho3 hb34
      refine Row.cut ho4.row (by simpa using h0) (by simp <;> omega) (by simp <;> omega) fun s16 hs16 => ?_
      have e2 : (List.take ((none : Option Int).getD (o.n : Int)).toNat (O.map vI)).drop ((some at_).getD 0).toNat = (O.drop at_.toNat).map vI := by
        rw [hon]; simp [List.map_drop, List.take_of_length_le]
      rw [e2] at hs16
      refine append_row oneInt hr (by have := hb34.size; omega) hs16 (fun v hv => by obtain ⟨x, _, rfl⟩ := List.mem_map.1 hv; exact One.int x) (by simp; omega) ?_
      intro r2 w5 hr2 hg5 _ _
      rw [List.nil_append] at hr2
      have hb35 := hb34.grown hg5 hb34.size (fun g hg => (hr.lt g hg).1)
      have hb5 := hb3.trans (hb35.mono hb3.size)
      have ho5 := Own.grow ho3 hb35
      refine drew_intro fun w6 hd6 => ?_
      have hb36 := hb35.trans ((hd6.below _).mono hb35.size)
      have hb6 := hb3.trans (hb36.mono hb3.size)
      have ho6 := Own.heap ho5 hd6.heap'
      have hr6 := Own.heap hr2 hd6.heap'
      refine Own.pop ho6 h0 (by rw [List.length_map]; omega) fun s20 hs20 hblk => ?_
      refine RowI.get (ha.grow hb6) hk0 (by omega) ?_
      rw [getD_lt hlt]
      rw [← List.map_take] at hs20
      have hs20 : OwnI w6 w.heap.size s20 (O.take at_.toNat) := hs20
      refine append_int hs20 hb6.size (by rw [List.length_take]; omega) ?_
      intro o7 w7 ho7 hg7 hn7
      have hb67 : Below w.heap.size w w7 := hb6.grown hg7 hb6.size (fun g hg => (hs20.lt g hg).1)
      have hlt3 : ∀ g, o.blk = some g → g < w3.heap.size := fun g hg => (ho3.lt g hg).2
      have hr7 : Own w7 w3.heap.size T_int r2 ((O.drop at_.toNat).map vI) := Own.keeps hr6 (keeps_grown hg7) (fun g hg hg2 => by
        rw [hblk] at hg2; have := hlt3 g hg2; have := (hr6.lt g hg).1; omega)
      refine append_row oneInt ho7 hb67.size hr7.row (fun v hv => by obtain ⟨x, _, rfl⟩ := List.mem_map.1 hv; exact One.int x) (by simp; omega) ?_
      intro o8 w8 ho8 hg8 _ _
      rw [← List.map_append] at ho8
      have ek : (k + 1).toNat = k.toNat + 1 := by omega
      refine ⟨o8, k + 1, by rw [w64_succ hk0 (by omega)], ⟨by omega, by omega, hb67.grown hg8 hb67.size (fun g hg => (ho7.lt g hg).1), insAt O L[k.toNat] at_.toNat, ho8, ?_, ?_⟩, by omega⟩
      · rw [ek, List.take_succ_eq_append_getElem hlt]
        exact (insAt_perm O _ _).trans (List.Perm.append_right _ hp)
      · exact insAt_sorted (by omega) hs hgt (by rcases hle with h | h; · left; omega
                                                 · right; exact h)
    refine spec_l15Sort.L6_rule _ _ _ _ _ _ (I := fun at_ w3 => 0 ≤ at_ ∧ at_ ≤ O.length ∧ Drew w2 w3 ∧ ∀ j, at_.toNat ≤ j → j < O.length → L[k.toNat] < O.getD j 0) (μ := fun at_ _ => at_.toNat)
      ⟨by omega, by omega, ⟨0, rfl⟩, fun j hj1 hj2 => by omega⟩ ?_
    rintro at_ w3 ⟨h0, h1, hd, hgt⟩
    rw [spec_l15Sort.B6_s]
    have hb3 := hb2.trans (hd.below _)
    have ho3 := ho.heap hd.heap'
    refine bif_dec (fun h4 => ?_) (fun h4 => ?_)
    · refine RowI.get (ha.grow hb3) hk0 (by omega) ?_
      rw [getD_lt hlt]
      have e1 : w64 (at_ - 1) = at_ - 1 := w64_id (by omega) (by omega)
      rw [e1]
      refine RowI.get (Own.row ho3) (by omega) (by omega) ?_
      refine drew_intro fun w4 hd4 => ?_
      have en : (at_ - 1).toNat = at_.toNat - 1 := by omega
      rw [en]
      refine bif_dec (fun h5 => ?_) (fun h5 => ?_)
      · refine ⟨at_ - 1, rfl, ⟨by omega, by omega, hd.trans hd4, fun j hj1 hj2 => ?_⟩, by omega⟩
        by_cases e : j = at_.toNat - 1
        · subst e; exact h5
        · exact hgt j (by omega) hj2
      · exact fin at_ w4 h0 h1 (hd.trans hd4) hgt (.inr (by omega)) _
    · refine drew_intro fun w4 hd4 => ?_
      exact fin at_ w4 h0 h1 (hd.trans hd4) hgt (.inl (by omega)) _
  · rw [spec_l15Sort.A3_0_s]
    rw [show k.toNat = L.length by omega, List.take_length] at hp
    rw [sortI_eq hp hs] at ho
    exact ⟨o, rfl, ho, hb2⟩
end Go.Proofs.Ytdchjhhpbdekeaa

/- The rests: what both texts compute, as lists. -/
namespace Go.Proofs.Ytdchjhhpbdekeaa
open Go
set_option maxRecDepth 100000

def nonL (L : List Int) : Nat → List Int
  | 0 => []
  | k + 1 => if isLow L k = true then nonL L k else nonL L k ++ [L.getD k 0]
def lastLow (L : List Int) : Nat → Int
  | 0 => 0
  | k + 1 => if isLow L k = true then L.getD k 0 else lastLow L k
def stR (pk : List Int → Int → Nat) (L : List Int) : Nat → List Int
  | 0 => sortI (nonL L L.length)
  | k + 1 => if isLow L k = true then stR pk L k else (stR pk L k).eraseIdx (pk (stR pk L k) (lastLow L k))
def stO (pk : List Int → Int → Nat) (L : List Int) : Nat → List Int
  | 0 => []
  | k + 1 => stO pk L k ++ [if isLow L k = true then L.getD k 0 else (stR pk L k).getD (pk (stR pk L k) (lastLow L k)) 0]
def PkOk (pk : List Int → Int → Nat) (L : List Int) : Prop := ∀ k, k < L.length → isLow L k = false → pk (stR pk L k) (lastLow L k) < (stR pk L k).length
theorem stO_length (pk : List Int → Int → Nat) (L : List Int) : ∀ k, (stO pk L k).length = k
  | 0 => rfl
  | k + 1 => by simp [stO, stO_length pk L k]
theorem nonL_prefix (L : List Int) : ∀ {n k : Nat}, k ≤ n → ∃ M, nonL L n = nonL L k ++ M
  | 0, k, h => ⟨[], by have : k = 0 := by omega
                       subst this; simp⟩
  | n + 1, k, h => by
    by_cases e : k = n + 1
    · subst e; exact ⟨[], by simp⟩
    · obtain ⟨M, hM⟩ := nonL_prefix L (n := n) (k := k) (by omega)
      rw [nonL]
      split
      · exact ⟨M, hM⟩
      · exact ⟨M ++ [L.getD n 0], by rw [hM, List.append_assoc]⟩
theorem nonL_le (L : List Int) {n k : Nat} (h : k ≤ n) : (nonL L k).length ≤ (nonL L n).length := by
  obtain ⟨M, hM⟩ := nonL_prefix L h
  rw [hM, List.length_append]; omega
theorem nonL_len (L : List Int) : ∀ k, (nonL L k).length ≤ k
  | 0 => by simp [nonL]
  | k + 1 => by
    have := nonL_len L k
    rw [nonL]
    split
    · omega
    · rw [List.length_append, List.length_singleton]; omega
theorem mem_nonL {L : List Int} : ∀ {k : Nat} {x : Int}, x ∈ nonL L k → ∃ j, j < k ∧ isLow L j = false ∧ x = L.getD j 0
  | 0, x, h => by simp [nonL] at h
  | k + 1, x, h => by
    rw [nonL] at h
    split at h
    · obtain ⟨j, h1, h2, h3⟩ := mem_nonL h
      exact ⟨j, by omega, h2, h3⟩
    · rename_i h5
      rcases List.mem_append.1 h with h | h
      · obtain ⟨j, h1, h2, h3⟩ := mem_nonL h
        exact ⟨j, by omega, h2, h3⟩
      · exact ⟨k, by omega, by simpa using h5, by simpa using h⟩
theorem isLow_zero (L : List Int) : isLow L 0 = true := isLow_iff.2 fun j hj => by omega
theorem nonlow_ex {L : List Int} {k : Nat} (h : isLow L k = false) : ∃ j, j < k ∧ L.getD j 0 < L.getD k 0 := by
  apply Classical.byContradiction
  intro hc
  have : isLow L k = true := isLow_iff.2 fun j hj hlt => hc ⟨j, hj, hlt⟩
  rw [this] at h; cases h
theorem lastLow_le {L : List Int} : ∀ {k i : Nat}, i < k → lastLow L k ≤ L.getD i 0
  | k + 1, i, h => by
    rw [lastLow]
    split
    · rename_i h5
      by_cases e : i = k
      · subst e; omega
      · have := isLow_iff.1 h5 i (by omega); omega
    · rename_i h5
      by_cases e : i = k
      · subst e
        obtain ⟨j, hj, hlt⟩ := nonlow_ex (by simpa using h5)
        have := lastLow_le (L := L) hj; omega
      · exact lastLow_le (by omega)
theorem lastLow_at {L : List Int} : ∀ {k : Nat}, 1 ≤ k → ∃ i, i < k ∧ isLow L i = true ∧ lastLow L k = L.getD i 0
  | k + 1, _ => by
    rw [lastLow]
    split
    · rename_i h5; exact ⟨k, by omega, h5, rfl⟩
    · rename_i h5
      have : 1 ≤ k := by
        rcases Nat.eq_zero_or_pos k with e | e
        · subst e; exact absurd (isLow_zero L) h5
        · exact e
      obtain ⟨i, h1, h2, h3⟩ := lastLow_at this
      exact ⟨i, by omega, h2, h3⟩
theorem stR_len {pk : List Int → Int → Nat} {L : List Int} : ∀ k, (∀ j, j < k → isLow L j = false → pk (stR pk L j) (lastLow L j) < (stR pk L j).length) → (stR pk L k).length + (nonL L k).length = (nonL L L.length).length
  | 0, _ => by simp [stR, nonL, sortI_length]
  | k + 1, h => by
    have ih := stR_len k (fun j hj => h j (by omega))
    rw [stR, nonL]
    split
    · exact ih
    · rename_i h5
      have := h k (by omega) (by simpa using h5)
      rw [List.length_eraseIdx, if_pos this, List.length_append, List.length_singleton]
      omega
theorem stR_sub {pk : List Int → Int → Nat} {L : List Int} : ∀ {k : Nat} {x : Int}, x ∈ stR pk L k → x ∈ nonL L L.length
  | 0, x, h => (sortI_perm _).mem_iff.1 h
  | k + 1, x, h => by
    rw [stR] at h
    split at h
    · exact stR_sub h
    · exact stR_sub (List.mem_of_mem_eraseIdx h)
theorem stR_sorted {pk : List Int → Int → Nat} {L : List Int} : ∀ k, (stR pk L k).Pairwise (· ≤ ·)
  | 0 => sortI_sorted _
  | k + 1 => by
    rw [stR]
    split
    · exact stR_sorted k
    · exact (stR_sorted k).sublist (List.eraseIdx_sublist _ _)
def pkD (R : List Int) (_ : Int) : Nat := R.length - 1
def pkN (R : List Int) (low : Int) : Nat := R.findIdx fun v => decide (v > low)
theorem pkOk_of {pk : List Int → Int → Nat} {L : List Int} (h : ∀ k, k < L.length → isLow L k = false → (∀ j, j < k → isLow L j = false → pk (stR pk L j) (lastLow L j) < (stR pk L j).length) → pk (stR pk L k) (lastLow L k) < (stR pk L k).length) : PkOk pk L := by
  have : ∀ n k, k < n → k < L.length → isLow L k = false → pk (stR pk L k) (lastLow L k) < (stR pk L k).length := by
    intro n
    induction n with
    | zero => intro k hk; omega
    | succ n ih => exact fun k hk hkL hl => h k hkL hl fun j hj hjl => ih j (by omega) (by omega) hjl
  exact fun k hk hl => this (k + 1) k (by omega) hk hl
theorem nonL_lt {L : List Int} {k : Nat} (hk : k < L.length) (hl : isLow L k = false) : (nonL L k).length + 1 ≤ (nonL L L.length).length := by
  have := nonL_le L (n := L.length) (k := k + 1) (by omega)
  rw [nonL, if_neg (by rw [hl]; simp), List.length_append, List.length_singleton] at this
  omega
theorem pkOk_D (L : List Int) : PkOk pkD L := pkOk_of fun k hk hl hj => by
  have h1 := stR_len k hj
  have h2 := nonL_lt hk hl
  unfold pkD
  unfold pkD at h1
  omega
theorem countP_eraseIdx (p : Int → Bool) : ∀ (l : List Int) (i : Nat), l.countP p ≤ (l.eraseIdx i).countP p + 1
  | [], i => by simp
  | x :: r, 0 => by
    rw [List.eraseIdx_cons_zero, List.countP_cons]; split <;> omega
  | x :: r, i + 1 => by
    have := countP_eraseIdx p r i
    rw [List.eraseIdx_cons_succ, List.countP_cons, List.countP_cons]; omega
theorem stR_count {pk : List Int → Int → Nat} {L : List Int} (p : Int → Bool) : ∀ k, (nonL L L.length).countP p ≤ (stR pk L k).countP p + (nonL L k).length
  | 0 => by rw [stR, nonL, (sortI_perm _).countP_eq]; simp
  | k + 1 => by
    have ih := stR_count (pk := pk) (L := L) p k
    rw [stR, nonL]
    split
    · exact ih
    · have := countP_eraseIdx p (stR pk L k) (pk (stR pk L k) (lastLow L k))
      rw [List.length_append, List.length_singleton]; omega
theorem greater_ex {pk : List Int → Int → Nat} {L : List Int} {k : Nat} (hk : k < L.length) (hl : isLow L k = false) : ∃ v ∈ stR pk L k, v > lastLow L k := by
  have h1 := stR_count (pk := pk) (L := L) (fun v => decide (v > lastLow L k)) k
  obtain ⟨M, hM⟩ := nonL_prefix L (n := L.length) (k := k + 1) (by omega)
  have h2 : (nonL L (k + 1)).countP (fun v => decide (v > lastLow L k)) = (nonL L (k + 1)).length := by
    rw [List.countP_eq_length]
    intro x hx
    obtain ⟨j, hj, hjl, rfl⟩ := mem_nonL hx
    obtain ⟨i, hi, hlt⟩ := nonlow_ex hjl
    have := lastLow_le (L := L) (k := k) (i := i) (by omega)
    simp only [gt_iff_lt, decide_eq_true_eq]; omega
  rw [hM, List.countP_append, h2] at h1
  rw [nonL, if_neg (by rw [hl]; simp), List.length_append, List.length_singleton] at h1
  have h3 : 0 < (stR pk L k).countP (fun v => decide (v > lastLow L k)) := by omega
  obtain ⟨v, hv, hp⟩ := List.countP_pos_iff.1 h3
  exact ⟨v, hv, by simpa using hp⟩
theorem pkOk_N (L : List Int) : PkOk pkN L := fun k hk hl => by
  obtain ⟨v, hv, hp⟩ := greater_ex (pk := pkN) hk hl
  exact List.findIdx_lt_length.2 ⟨v, hv, by simpa using hp⟩
theorem low_notin {pk : List Int → Int → Nat} {L : List Int} (h : IsP L) {k : Nat} (hk : k < L.length) (hl : isLow L k = false) : lastLow L k ∉ stR pk L k := by
  intro hm
  have h0 : 1 ≤ k := by
    rcases Nat.eq_zero_or_pos k with e | e
    · subst e; rw [isLow_zero] at hl; cases hl
    · exact e
  obtain ⟨i, hi, hil, he⟩ := lastLow_at (L := L) h0
  obtain ⟨j, hj, hjl, he2⟩ := mem_nonL (stR_sub hm)
  rw [he] at he2
  have hn := h.nodup
  have : i = j := by
    rw [getD_lt (by omega), getD_lt hj] at he2
    exact (List.getElem_inj hn).1 he2
  subst this
  rw [hil] at hjl; cases hjl
end Go.Proofs.Ytdchjhhpbdekeaa

/- What each function does, step by step, written by a program (Gen.lean); each equation is checked by the kernel. -/
namespace Go.Proofs.Ytdchjhhpbdekeaa
open Go
set_option linter.unusedVariables false
set_option maxRecDepth 100000
end Go.Proofs.Ytdchjhhpbdekeaa

/- The library's Delete of one element of a row of ints that the call owns. -/
namespace Go.Proofs.Ytdchjhhpbdekeaa
open Go Go.RowKit
set_option maxRecDepth 100000

theorem keepsTrans {a b c : World} {r : Option Nat} (h : a.grownBy b r) (k : b.grownBy c r) : a.grownBy c r :=
  ⟨k.os.trans h.os, k.tape.trans h.tape, k.output.trans h.output, Nat.le_trans h.size k.size, fun x hx hne => (k.block x (Nat.lt_of_lt_of_le hx h.size) hne).trans (h.block x hx hne)⟩
end Go.Proofs.Ytdchjhhpbdekeaa

/- What each function does, step by step, written by a program (Gen.lean); each equation is checked by the kernel. -/
namespace Go.Proofs.Ytdchjhhpbdekeaa
open Go
set_option linter.unusedVariables false
set_option maxRecDepth 100000
namespace slices_IndexFunc___int_int_
@[reducible] def cfg : Cfg := ⟨19, [(2, [0, 1, 7, 8])], [(1, [0, 1, 7, 8]), (0, [])], [], [4], [], [101, 107, 112, 15, 21, 124, 76, 137, 28, 115, 91, 81, 130], [138, 140, 82, 6, 86, 85, 132]⟩
def q0 (pr : Prims) (R : Ending → World → Prop) : Exit → Env → World → Prop := fun ex e w => normQ ex (fun e w => contE pr cfg (sub (codeOf Try.f100) [1, 1]) (fun e w => wpC pr PP cfg (DD pr) (sub (codeOf Try.f100) [1, 1]) (retQ Try.f100.results.toList R) e w) e w) (retQ Try.f100.results.toList R) e w
def q1 (pr : Prims) (R : Ending → World → Prop) : Exit → Env → World → Prop := fun ex e w => blockQ ex 0 (q0 pr R) e w
def emb2 (s_0 : Sl) (f_1 : Value) (t7 : Int) (t8 : Int) : Env := [(0, Sl.v s_0), (1, f_1), (7, vI t7), (8, vI t8)]
def x0 : Env := []
def S2 (pr : Prims) (Q : Exit → Env → World → Prop) : (Env → World → Prop) → Env → World → Prop := fun k e w => wpC pr PP cfg (DD pr) (sub (codeOf Try.f100) [1, 0, 1, 0, 0]) (fun ex e w => normQ ex (fun e' w' => k (Env.restr e' (lookN cfg.loops (keyOf (sub (codeOf Try.f100) [1, 0, 1, 0, 0])))) w') Q e w) e w
def B2 (pr : Prims) (s_0 : Sl) (f_1 : Value) (t7 : Int) (t8 : Int) (w : World) (k : Env → World → Prop) (Q : Exit → Env → World → Prop) : Prop :=
  S2 pr Q k (emb2 s_0 f_1 t7 t8) w
def L2 (pr : Prims) (s_0 : Sl) (f_1 : Value) (t7 : Int) (t8 : Int) (w : World) (Q : Exit → Env → World → Prop) : Prop :=
  pr.loop (S2 pr Q) (emb2 s_0 f_1 t7 t8) w
def E (pr : Prims) (s_0 : Sl) (f_1 : Value) (w : World) (R : Ending → World → Prop) : Prop :=
  wpC pr PP cfg (DD pr) (codeOf Try.f100) (retQ Try.f100.results.toList R) (argE 0 [Sl.v s_0, f_1]) w
theorem B2_eq (pr : Prims) (s_0 : Sl) (f_1 : Value) (t7 : Int) (t8 : Int) (w : World) (k : Env → World → Prop) (Q : Exit → Env → World → Prop) : B2 pr s_0 f_1 t7 t8 w k Q = (
  bif decide (t8 < t7) then (
  pr.idxK 1 s_0 t8 fun (a2 : Addr) =>
  pr.load1 (.int .i64) a2 w fun (ξ3 : Int) =>
  pr.callV1 .bool PP (f_1) [vI ξ3] w fun (ρ4 : Bool) ω5 =>
  bif ρ4 then (
  Q .ret [(4, vI t8)] ω5)
  else (
  k (emb2 s_0 f_1 t7 (w64 (t8 + 1))) ω5))
  else (
  Q (.exit 0) (x0) w)) := by kernel_rfl
theorem B2_s (s_0 : Sl) (f_1 : Value) (t7 : Int) (t8 : Int) (w : World) (k : Env → World → Prop) (Q : Exit → Env → World → Prop) : B2 std s_0 f_1 t7 t8 w k Q = (
  bif decide (t8 < t7) then (
  idxK 1 s_0 t8 fun (a2 : Addr) =>
  load1 (.int .i64) a2 w fun (ξ3 : Int) =>
  callV1 .bool PP (f_1) [vI ξ3] w fun (ρ4 : Bool) ω5 =>
  bif ρ4 then (
  Q .ret [(4, vI t8)] ω5)
  else (
  k (emb2 s_0 f_1 t7 (w64 (t8 + 1))) ω5))
  else (
  Q (.exit 0) (x0) w)) := B2_eq std s_0 f_1 t7 t8 w k Q
theorem L2_rule (s_0 : Sl) (f_1 : Value) (t7 : Int) (t8 : Int) (w : World) (Q : Exit → Env → World → Prop) (I : Int → World → Prop) (μ : Int → World → Nat) (h0 : I t8 w)
    (h : ∀ (t8 : Int) (w' : World), I t8 w' → B2 std s_0 f_1 t7 t8 w' (fun e2 w2 => ∃ t8_n, e2 = emb2 s_0 f_1 t7 t8_n ∧ I t8_n w2 ∧ μ t8_n w2 < μ t8 w') Q) :
    L2 std s_0 f_1 t7 t8 w Q := by
  unfold L2
  refine LoopE.intro (σ := Int) (step := S2 std Q) (fun s => emb2 s_0 f_1 t7 s) (fun s w => I s w) (fun s w => μ s w) t8 rfl h0 ?_
  intro s w' hI
  have h1 := h s w' hI
  unfold B2 at h1
  exact h1
theorem A2_0_eq (pr : Prims) (w : World) (R : Ending → World → Prop) : (q1 pr R) (.exit 0) (x0) w = (
  R (.returned (vI (-1))) w) := by kernel_rfl
theorem A2_0_s (w : World) (R : Ending → World → Prop) : (q1 std R) (.exit 0) (x0) w = (
  R (.returned (vI (-1))) w) := A2_0_eq std w R
theorem R2_eq (pr : Prims) (v4 : Value) (w : World) (R : Ending → World → Prop) : (q1 pr R) .ret [(4, v4)] w = (
  R (.returned (v4)) w) := by kernel_rfl
theorem R2_s (v4 : Value) (w : World) (R : Ending → World → Prop) : (q1 std R) .ret [(4, v4)] w = (
  R (.returned (v4)) w) := R2_eq std v4 w R
theorem E_eq (pr : Prims) (s_0 : Sl) (f_1 : Value) (w : World) (R : Ending → World → Prop) : E pr s_0 f_1 w R = (
  L2 pr s_0 f_1 (s_0.n : Int) 0 w (q1 pr R)) := by kernel_rfl
theorem E_s (s_0 : Sl) (f_1 : Value) (w : World) (R : Ending → World → Prop) : E std s_0 f_1 w R = (
  L2 std s_0 f_1 (s_0.n : Int) 0 w (q1 std R)) := E_eq std s_0 f_1 w R
theorem drawsOk : drawsOk PP cfg okD (codeOf Try.f100) = true := by kernel_rfl
theorem calls (s_0 : Sl) (f_1 : Value) {w : World} {R : Ending → World → Prop} (h : E std s_0 f_1 w R) : Calls PP F.slices_IndexFunc___int_int_ #[Sl.v s_0, f_1] w R :=
  calls_of noCount mixed drawOk Try.func100 rfl (c := cfg) (args := [Sl.v s_0, f_1]) rfl (Nat.le_of_ble_eq_true (by kernel_rfl)) drawsOk h
end slices_IndexFunc___int_int_

end Go.Proofs.Ytdchjhhpbdekeaa

/- The library's IndexFunc over rows of ints. -/
namespace Go.Proofs.Ytdchjhhpbdekeaa
open Go Go.RowKit
set_option maxRecDepth 100000

theorem c_IndexFuncI {w : World} {a : Sl} {L : List Int} (ha : RowI w a L) (hL : L.length < 2^38) {f : Value} {φ : Int → Bool} (hf : ∀ x ∈ L, FnB w f [vI x] (φ x)) :
    Calls PP F.slices_IndexFunc___int_int_ #[a.v, f] w fun e w' => e = .returned (vI (idxF φ L)) ∧ Below w.heap.size w w' := by
  have han : a.n = L.length := by have := ha.n; simpa using this
  refine slices_IndexFunc___int_int_.calls a f ?_
  rw [slices_IndexFunc___int_int_.E_s, han]
  refine slices_IndexFunc___int_int_.L2_rule _ _ _ _ _ _ (I := fun k w' => 0 ≤ k ∧ k ≤ L.length ∧ Below w.heap.size w w' ∧ ∀ j (hj : j < L.length), j < k.toNat → φ L[j] = false) (μ := fun k _ => (L.length - k).toNat)
    ⟨by omega, by omega, Below.refl _ _, fun j _ hj => by simp at hj⟩ ?_
  rintro k w' ⟨h0, hk, hb, hall⟩
  rw [slices_IndexFunc___int_int_.B2_s]
  refine bif_dec (fun h3 => ?_) (fun h3 => ?_)
  · have hlt : k.toNat < L.length := by omega
    refine RowI.get (ha.grow hb) h0 (by omega) ?_
    rw [getD_eq hlt]
    refine (hf _ (List.getElem_mem hlt)).callV1 hb ?_
    intro w2 hb2
    refine bif_intro (fun h4 => ?_) (fun h4 => ?_)
    · rw [slices_IndexFunc___int_int_.R2_s]
      refine ⟨?_, hb.trans (hb2.mono hb.size)⟩
      rw [idxF_at hlt h4 (fun j hj => hall j (by omega) hj)]
      congr 2; omega
    · refine ⟨k + 1, by rw [w64_succ h0 (by omega)], ⟨by omega, by omega, hb.trans (hb2.mono hb.size), fun j hj1 hj => ?_⟩, by omega⟩
      by_cases e : j = k.toNat
      · subst e; exact h4
      · exact hall j hj1 (by omega)
  · rw [slices_IndexFunc___int_int_.A2_0_s]
    exact ⟨by rw [idxF_none (fun j hj => hall j hj (by omega))], hb⟩
end Go.Proofs.Ytdchjhhpbdekeaa

/- DescendingRest and NearestRest: both texts. -/
namespace Go.Proofs.Ytdchjhhpbdekeaa
open Go Go.RowKit
set_option maxRecDepth 100000

theorem has_low {L : List Int} {k : Nat} (hk : k < L.length) : decide ((k : Int) + 1 ∈ lowsT L L.length) = isLow L k := by
  have h := mem_lowsT (L := L) (k := L.length) (x := (k : Int) + 1)
  rw [show ((k : Int) + 1 - 1).toNat = k by omega] at h
  cases hl : isLow L k
  · exact decide_eq_false fun hh => by have := (h.1 hh).2.2; rw [hl] at this; cases this
  · exact decide_eq_true (h.2 ⟨by omega, by omega, hl⟩)
theorem erase_eq (l : List Int) (i : Nat) : l.eraseIdx i = l.take i ++ l.drop (i + 1) := List.eraseIdx_eq_take_drop_succ l i
theorem c_l17Rest {w : World} {a : Sl} {L : List Int} (ha : RowI w a L) (hP : IsP L) :
    Calls PP F.spec_l17Rest #[a.v] w fun e w' => ∃ s : Sl, e = .returned s.v ∧ OwnI w' w.heap.size s (sortI (nonL L L.length)) ∧ Below w.heap.size w w' := by
  have han : a.n = L.length := by have := ha.n; simpa using this
  have h8 := hP.1
  refine spec_l17Rest.calls a ?_
  rw [spec_l17Rest.E_s]
  refine (c_specLowsOf ha (by omega)).mono ?_
  rintro e w1 ⟨lo, rfl, hlo, hb1⟩
  refine ⟨lo, rfl, ?_⟩
  rw [LowsV, if_pos hP] at hlo
  refine lit0 oneInt (B := w1.heap.size) (Nat.le_refl _) ?_
  intro o w2 ho hg2 _
  have hb12 := below_of_grow hg2
  have hlor := hlo.row
  have hll := lowsT_length L L.length
  refine spec_l17Rest.L4_rule _ _ _ _ _ _ (I := fun o k w' => 0 ≤ k ∧ k ≤ L.length ∧ Below w1.heap.size w1 w' ∧ OwnI w' w1.heap.size o (nonL L k.toNat)) (μ := fun _ k _ => (L.length - k).toNat)
    ⟨by omega, by omega, hb12, ho⟩ ?_
  rintro o k w' ⟨hk0, hk, hb, ho⟩
  have hbw := hb1.trans (hb.mono hb1.size)
  rw [spec_l17Rest.B4_s, han]
  refine bif_dec (fun h3 => ?_) (fun h3 => ?_)
  · obtain ⟨k, rfl⟩ : ∃ m : Nat, k = m := ⟨k.toNat, by omega⟩
    have hlt : k < L.length := by omega
    rw [Int.toNat_natCast] at ho
    have hnl := nonL_len L k
    rw [w64_succ hk0 (by omega)]
    refine Quiet.call1 (s := .bool) (c_l2Has (hlor.grow hb) (by omega) _) ?_
    intro w3 hd
    have hb3 := hb.trans ((hd.below _).mono hb.size)
    have hbw3 := hb1.trans (hb3.mono hb1.size)
    have ho3 := ho.heap hd.heap'
    rw [has_low hlt]
    have ek : ((k : Int) + 1).toNat = k + 1 := by omega
    refine bif_intro (fun h4 => ?_) (fun h4 => ?_)
    · have h4 : isLow L k = false := by simpa using h4
      refine RowI.get (ha.grow hbw3) hk0 (by omega) ?_
      rw [Int.toNat_natCast]
      refine append_int ho3 hb3.size (by omega) ?_
      intro o' w4 ho4 hg4 _
      refine ⟨o', (k : Int) + 1, rfl, ⟨by omega, by omega, hb3.grown hg4 hb3.size (fun g hg => (ho3.lt g hg).1), ?_⟩, by omega⟩
      rw [ek, nonL, if_neg (by rw [h4]; simp)]; exact ho4
    · have h4 : isLow L k = true := by simpa using h4
      refine ⟨o, (k : Int) + 1, rfl, ⟨by omega, by omega, hb3, ?_⟩, by omega⟩
      rw [ek, nonL, if_pos h4]; exact ho3
  · rw [spec_l17Rest.A4_0_s]
    rw [show k.toNat = L.length by omega] at ho
    have hnl := nonL_len L L.length
    refine (c_l15Sort ho.row (by omega)).mono ?_
    rintro e w3 ⟨s, rfl, hs, hb3⟩
    exact ⟨s, rfl, s, rfl, hs.mono hbw.size, hbw.trans (hb3.mono hbw.size)⟩
open Classical in
noncomputable def RestV (pk : List Int → Int → Nat) (L : List Int) : List Int := if IsP L then stO pk L L.length else []
theorem RestV_len (pk : List Int → Int → Nat) (L : List Int) : (RestV pk L).length < 2^38 := by
  unfold RestV
  split
  · rename_i h; rw [stO_length]; have := h.1; omega
  · simp
theorem stR_len8 {pk : List Int → Int → Nat} {L : List Int} (hP : IsP L) (hok : PkOk pk L) {k : Nat} (hk : k ≤ L.length) : (stR pk L k).length ≤ 8 := by
  have h1 := stR_len (pk := pk) (L := L) k (fun j hj => hok j (by omega))
  have h2 := nonL_len L L.length
  have := hP.1
  omega
theorem rowI_cut_to {w : World} {r : Sl} {L : List Int} (h : RowI w r L) {i : Nat} (hi : i ≤ L.length) {K : Sl → Prop} (hK : ∀ t, RowI w t (L.take i) → K t) : cutK 1 r none (some (i : Int)) K := by
  have hn : r.n = L.length := by have := h.n; simpa using this
  refine Row.cut h (by simp) (by simp <;> omega) (by simp <;> omega) fun t ht => hK t ?_
  have e2 : (List.take ((some (i : Int)).getD (r.n : Int)).toNat (L.map vI)).drop ((none : Option Int).getD 0).toNat = (L.take i).map vI := by simp
  rw [e2] at ht
  exact ht
theorem rowI_cut_from {w : World} {r : Sl} {L : List Int} (h : RowI w r L) {i : Nat} (hi : i ≤ L.length) {K : Sl → Prop} (hK : ∀ t, RowI w t (L.drop i) → K t) : cutK 1 r (some (i : Int)) none K := by
  have hn : r.n = L.length := by have := h.n; simpa using this
  refine Row.cut h (by simp) (by simp <;> omega) (by simp <;> omega) fun t ht => hK t ?_
  have e2 : (List.take ((none : Option Int).getD (r.n : Int)).toNat (L.map vI)).drop ((some (i : Int)).getD 0).toNat = (L.drop i).map vI := by
    rw [hn]; simp [List.map_drop, List.take_of_length_le]
  rw [e2] at ht
  exact ht
theorem vI_one {L : List Int} : ∀ v ∈ L.map vI, One v := fun v hv => by obtain ⟨x, _, rfl⟩ := List.mem_map.1 hv; exact One.int x
open Classical in
theorem c_specNearestRestO {w : World} {a : Sl} {L : List Int} (ha : RowI w a L) (hL : L.length < 2^38) :
    Calls PP F.spec_NearestRest #[a.v] w fun e w' => ∃ s : Sl, e = .returned (.tuple #[s.v, .bool (decide (IsP L))]) ∧ OwnI w' w.heap.size s (RestV pkN L) ∧ Below w.heap.size w w' := by
  have han : a.n = L.length := by have := ha.n; simpa using this
  refine spec_NearestRest.calls a ?_
  rw [spec_NearestRest.E_s]
  refine Quiet.call1 (s := .bool) (c_specIsPerm ha hL) ?_
  intro w1 hd1
  have hb1 := hd1.below w.heap.size
  refine bif_intro (fun h => ?_) (fun h => ?_)
  · have h : ¬ IsP L := by simpa using h
    refine lit0 oneInt (B := w.heap.size) hb1.size ?_
    intro o w2 ho hg2 _
    exact ⟨o, by rw [decide_eq_false h], by rw [RestV, if_neg h]; exact ho, hb1.grown hg2 hb1.size (by simp)⟩
  have hP : IsP L := by simpa using h
  have h8 := hP.1
  have hok := pkOk_N L
  have hV : RestV pkN L = stO pkN L L.length := by rw [RestV, if_pos hP]
  rw [hV, decide_eq_true hP]
  refine (c_specLowsOf (ha.grow hb1) hL).mono ?_
  rintro e w2 ⟨lo, rfl, hlo, hb12⟩
  refine ⟨lo, rfl, ?_⟩
  rw [LowsV, if_pos hP] at hlo
  have hll := lowsT_length L L.length
  have hb2 := hb1.trans (hb12.mono hb1.size)
  refine (c_l17Rest (ha.grow hb2) hP).mono ?_
  rintro e w3 ⟨re, rfl, hre, hb23⟩
  refine ⟨re, rfl, ?_⟩
  have hb3 := hb2.trans (hb23.mono hb2.size)
  have hlo3 := (hlo.grow hb23).row
  refine lit0 oneInt (B := w3.heap.size) (Nat.le_refl _) ?_
  intro o w4 ho hg4 _
  have hb34 := below_of_grow hg4
  refine spec_NearestRest.L8_rule _ _ _ _ _ _ _ _ (I := fun re o low k w' => 0 ≤ k ∧ k ≤ L.length ∧ Below w3.heap.size w3 w' ∧ low = lastLow L k.toNat ∧ OwnI w' w2.heap.size re (stR pkN L k.toNat) ∧ Apt re o ∧ OwnI w' w3.heap.size o (stO pkN L k.toNat)) (μ := fun _ _ _ k _ => (L.length - k).toNat)
    ⟨by omega, by omega, hb34, rfl, hre.grow hb34, Apt.of_lt (fun g hg => (hre.lt g hg).2) (fun g hg => (ho.lt g hg).1), ho⟩ ?_
  rintro re o low k w5 ⟨hk0, hk, hb, hlow, hre, hap, ho⟩
  rw [spec_NearestRest.B8_s, han]
  refine bif_dec (fun h3 => ?_) (fun h3 => ?_)
  · obtain ⟨k, rfl⟩ : ∃ m : Nat, k = m := ⟨k.toNat, by omega⟩
    have hlt : k < L.length := by omega
    rw [Int.toNat_natCast] at ho hre hlow
    have ek : ((k : Int) + 1).toNat = k + 1 := by omega
    rw [w64_succ hk0 (by omega)]
    refine Quiet.call1 (s := .bool) (c_l2Has (hlo3.grow hb) (by omega) _) ?_
    intro w6 hd
    have hb6 := hb.trans ((hd.below _).mono hb.size)
    have hbw6 := hb3.trans (hb6.mono hb3.size)
    have ho6 := ho.heap hd.heap'
    have hre6 := hre.heap hd.heap'
    rw [has_low hlt]
    have hol := stO_length pkN L k
    refine bif_intro (fun h4 => ?_) (fun h4 => ?_)
    · refine RowI.get (ha.grow hbw6) hk0 (by omega) ?_
      rw [Int.toNat_natCast]
      refine append_int ho6 hb6.size (by omega) ?_
      intro o' w7 ho7 hg7 hn7
      refine ⟨re, o', L.getD k 0, (k : Int) + 1, rfl, ⟨by omega, by omega, hb6.grown hg7 hb6.size (fun g hg => (ho6.lt g hg).1), ?_, ?_, (hap.symm.next hn7 (fun g hg => (hre6.lt g hg).2)).symm, ?_⟩, by omega⟩
      · rw [ek, lastLow, if_pos h4]
      · rw [ek, stR, if_pos h4]
        exact Own.keeps hre6 (keeps_grown hg7) (fun g hg hg2 => hap g hg hg2)
      · rw [ek, stO, if_pos h4]; exact ho7
    · have hp := hok k hlt h4
      have hni := low_notin (pk := pkN) hP hlt h4
      have hr8 := stR_len8 hP hok (k := k) (by omega)
      have hst : stR pkN L (k + 1) = (stR pkN L k).take (pkN (stR pkN L k) (lastLow L k)) ++ (stR pkN L k).drop (pkN (stR pkN L k) (lastLow L k) + 1) := by
        rw [stR, if_neg (by rw [h4]; simp), erase_eq]
      have hso : stO pkN L (k + 1) = stO pkN L k ++ [(stR pkN L k).getD (pkN (stR pkN L k) (lastLow L k)) 0] := by
        rw [stO, if_neg (by rw [h4]; simp)]
      have hll2 : lastLow L (k + 1) = low := by rw [lastLow, if_neg (by rw [h4]; simp), hlow]
      rw [← hlow] at hp hni hst hso
      generalize hR : stR pkN L k = R at hp hni hst hso hre6 hr8
      generalize hm : pkN R low = m at hp hst hso
      have hRm : R[m] > low := by
        subst hm
        have := List.findIdx_getElem (xs := R) (p := fun v => decide (v > low)) (w := hp)
        exact of_decide_eq_true this
      have hmin : ∀ j (hj : j < R.length), j < m → ¬ R[j] > low := fun j hj hjm hgt => by
        subst hm
        have h9 := List.not_of_lt_findIdx hjm
        simp only [decide_eq_false_iff_not] at h9
        exact h9 hgt
      refine spec_NearestRest.L14_rule _ _ _ _ _ _ _ _ _ (I := fun at_ w' => w' = w6 ∧ 0 ≤ at_ ∧ at_ ≤ m) (μ := fun at_ _ => (m - at_).toNat)
        ⟨rfl, by omega, by omega⟩ ?_
      rintro at_ w' ⟨rfl, h0, h1⟩
      obtain ⟨q, rfl⟩ : ∃ q : Nat, at_ = q := ⟨at_.toNat, by omega⟩
      have hqR : q < R.length := by omega
      rw [spec_NearestRest.B14_s]
      refine RowI.get (Own.row hre6) h0 (by omega) ?_
      rw [Int.toNat_natCast, getD_lt hqR]
      refine bif_dec (fun h5 => ?_) (fun h5 => ?_)
      · refine ⟨(q : Int) + 1, by rw [w64_succ h0 (by omega)], ⟨rfl, by omega, ?_⟩, ?_⟩
        · by_cases e : q = m
          · subst e; omega
          · omega
        · by_cases e : q = m
          · subst e; omega
          · omega
      · have hqm : q = m := by
          by_cases e : q < m
          · have h6 := hmin q hqR e
            have h7 : R[q] = low := by omega
            exact absurd (h7 ▸ List.getElem_mem hqR) hni
          · omega
        subst hqm
        rw [spec_NearestRest.A14_2_s]
        refine RowI.get (Own.row hre6) h0 (by omega) ?_
        rw [Int.toNat_natCast]
        refine append_int ho6 hb6.size (by omega) ?_
        intro o' w7 ho7 hg7 hn7
        have hb7 := hb6.grown hg7 hb6.size (fun g hg => (ho6.lt g hg).1)
        have hre7 : OwnI w7 w2.heap.size re R := Own.keeps hre6 (keeps_grown hg7) (fun g hg hg2 => hap g hg hg2)
        refine drew_intro fun w8 hd8 => ?_
        have hb8 := hb7.trans ((hd8.below _).mono hb7.size)
        have hre8 := hre7.heap hd8.heap'
        have ho8 := ho7.heap hd8.heap'
        refine rowI_cut_to (Own.row hre8) (i := q) (by omega) fun s33 h33 => ?_
        rw [w64_succ h0 (by omega)]
        refine rowI_cut_from (Own.row hre8) (i := q + 1) (by omega) fun s34 h34 => ?_
        refine lit0 oneInt (B := w8.heap.size) (Nat.le_refl _) ?_
        intro z w9 hz hg9 _
        have hb89 := below_of_grow hg9
        refine append_row oneInt hz hb89.size (Row.grow h33 hb89) vI_one (by simp; omega) ?_
        intro z2 w10 hz2 hg10 hn10 _
        have hb810 := hb89.grown hg10 hb89.size (fun g hg => (hz.lt g hg).1)
        refine append_row oneInt hz2 hb810.size (Row.grow h34 hb810) vI_one (by simp; omega) ?_
        intro z3 w11 hz3 hg11 _ _
        have hb811 := hb810.grown hg11 hb810.size (fun g hg => (hz2.lt g hg).1)
        have ho11 := Own.grow ho8 hb811
        rw [List.nil_append, ← List.map_append] at hz3
        refine ⟨z3, o', low, (k : Int) + 1, by rw [w64_succ hk0 (by omega)], ⟨by omega, by omega, hb8.trans (hb811.mono hb8.size), ?_, ?_, ?_, ?_⟩, by omega⟩
        · rw [ek, hll2]
        · rw [ek, hst]
          exact Own.mono hz3 (Nat.le_trans hb23.size hb8.size)
        · exact (Apt.of_lt (fun g hg => (ho8.lt g hg).2) (fun g hg => (hz3.lt g hg).1)).symm
        · rw [ek, hso]; exact ho11
  · rw [spec_NearestRest.A8_0_s]
    rw [show k.toNat = L.length by omega] at ho
    exact ⟨o, rfl, Own.mono ho hb3.size, hb3.trans (hb.mono hb3.size)⟩
open Classical in
theorem c_specNearestRest {w : World} {a : Sl} {L : List Int} (ha : RowI w a L) (hL : L.length < 2^38) :
    Calls PP F.spec_NearestRest #[a.v] w fun e w' => ∃ s : Sl, e = .returned (.tuple #[s.v, .bool (decide (IsP L))]) ∧ RowI w' s (RestV pkN L) ∧ Below w.heap.size w w' :=
  (c_specNearestRestO ha hL).mono fun e w' ⟨s, h1, h2, h3⟩ => ⟨s, h1, h2.row, h3⟩
end Go.Proofs.Ytdchjhhpbdekeaa

/- What each function does, step by step, written by a program (Gen.lean); each equation is checked by the kernel. -/
namespace Go.Proofs.Ytdchjhhpbdekeaa
open Go
set_option linter.unusedVariables false
set_option maxRecDepth 100000
namespace spec_Choose
@[reducible] def cfg : Cfg := ⟨30, [(5, [0, 1, 5, 6])], [(1, [0, 1, 5, 6]), (0, [5])], [], [4], [], [101, 107, 112, 15, 21, 124, 76, 137, 28, 115, 91, 81, 130], [138, 140, 82, 6, 86, 85, 132]⟩
def q2 (pr : Prims) (R : Ending → World → Prop) : Exit → Env → World → Prop := fun ex e w => normQ ex (fun e w => contE pr cfg (sub (codeOf Try.f27) [1, 1, 1, 1]) (fun e w => wpC pr PP cfg (DD pr) (sub (codeOf Try.f27) [1, 1, 1, 1]) (retQ Try.f27.results.toList R) e w) e w) (retQ Try.f27.results.toList R) e w
def q3 (pr : Prims) (R : Ending → World → Prop) : Exit → Env → World → Prop := fun ex e w => blockQ ex 0 (q2 pr R) e w
def emb5 (n_0 : Int) (k_1 : Int) (out_5 : Int) (i_6 : Int) : Env := [(0, vI n_0), (1, vI k_1), (5, vI out_5), (6, vI i_6)]
def x0 (out_5 : Int) : Env := [(5, vI out_5)]
def S5 (pr : Prims) (Q : Exit → Env → World → Prop) : (Env → World → Prop) → Env → World → Prop := fun k e w => wpC pr PP cfg (DD pr) (sub (codeOf Try.f27) [1, 1, 1, 0, 1, 0, 0]) (fun ex e w => normQ ex (fun e' w' => k (Env.restr e' (lookN cfg.loops (keyOf (sub (codeOf Try.f27) [1, 1, 1, 0, 1, 0, 0])))) w') Q e w) e w
def B5 (pr : Prims) (n_0 : Int) (k_1 : Int) (out_5 : Int) (i_6 : Int) (w : World) (k : Env → World → Prop) (Q : Exit → Env → World → Prop) : Prop :=
  S5 pr Q k (emb5 n_0 k_1 out_5 i_6) w
def L5 (pr : Prims) (n_0 : Int) (k_1 : Int) (out_5 : Int) (i_6 : Int) (w : World) (Q : Exit → Env → World → Prop) : Prop :=
  pr.loop (S5 pr Q) (emb5 n_0 k_1 out_5 i_6) w
def E (pr : Prims) (n_0 : Int) (k_1 : Int) (w : World) (R : Ending → World → Prop) : Prop :=
  wpC pr PP cfg (DD pr) (codeOf Try.f27) (retQ Try.f27.results.toList R) (argE 0 [vI n_0, vI k_1]) w
theorem B5_eq (pr : Prims) (n_0 : Int) (k_1 : Int) (out_5 : Int) (i_6 : Int) (w : World) (k : Env → World → Prop) (Q : Exit → Env → World → Prop) : B5 pr n_0 k_1 out_5 i_6 w k Q = (
  bif decide (i_6 < k_1) then (
  (w64 (i_6 + 1)) ≠ (0 : Int) ∧
  k (emb5 n_0 k_1 (w64 ((w64 (out_5 * (w64 (n_0 - i_6)))).tdiv (w64 (i_6 + 1)))) (w64 (i_6 + 1))) w)
  else (
  Q (.exit 0) (x0 out_5) w)) := by kernel_rfl
theorem B5_s (n_0 : Int) (k_1 : Int) (out_5 : Int) (i_6 : Int) (w : World) (k : Env → World → Prop) (Q : Exit → Env → World → Prop) : B5 std n_0 k_1 out_5 i_6 w k Q = (
  bif decide (i_6 < k_1) then (
  (w64 (i_6 + 1)) ≠ (0 : Int) ∧
  k (emb5 n_0 k_1 (w64 ((w64 (out_5 * (w64 (n_0 - i_6)))).tdiv (w64 (i_6 + 1)))) (w64 (i_6 + 1))) w)
  else (
  Q (.exit 0) (x0 out_5) w)) := B5_eq std n_0 k_1 out_5 i_6 w k Q
theorem L5_rule (n_0 : Int) (k_1 : Int) (out_5 : Int) (i_6 : Int) (w : World) (Q : Exit → Env → World → Prop) (I : Int → Int → World → Prop) (μ : Int → Int → World → Nat) (h0 : I out_5 i_6 w)
    (h : ∀ (out_5 : Int) (i_6 : Int) (w' : World), I out_5 i_6 w' → B5 std n_0 k_1 out_5 i_6 w' (fun e2 w2 => ∃ out_5_n i_6_n, e2 = emb5 n_0 k_1 out_5_n i_6_n ∧ I out_5_n i_6_n w2 ∧ μ out_5_n i_6_n w2 < μ out_5 i_6 w') Q) :
    L5 std n_0 k_1 out_5 i_6 w Q := by
  unfold L5
  refine LoopE.intro (σ := Int × Int) (step := S5 std Q) (fun s => emb5 n_0 k_1 s.1 s.2) (fun s w => I s.1 s.2 w) (fun s w => μ s.1 s.2 w) (out_5, i_6) rfl h0 ?_
  intro s w' hI
  have h1 := h s.1 s.2 w' hI
  unfold B5 at h1
  simp only [Prod.exists]
  exact h1
theorem A5_0_eq (pr : Prims) (out_5 : Int) (w : World) (R : Ending → World → Prop) : (q3 pr R) (.exit 0) (x0 out_5) w = (
  R (.returned (vI out_5)) w) := by kernel_rfl
theorem A5_0_s (out_5 : Int) (w : World) (R : Ending → World → Prop) : (q3 std R) (.exit 0) (x0 out_5) w = (
  R (.returned (vI out_5)) w) := A5_0_eq std out_5 w R
theorem E_eq (pr : Prims) (n_0 : Int) (k_1 : Int) (w : World) (R : Ending → World → Prop) : E pr n_0 k_1 w R = (
  pr.pcall1 .bool PP F.spec_l1In #[vI n_0, vI 0, vI 40] fun (ρ0 : Bool) =>
  bif !ρ0 then (
  R (.returned (vI 0)) w)
  else (
  pr.pcall1 .bool PP F.spec_l1In #[vI k_1, vI 0, vI n_0] fun (ρ1 : Bool) =>
  bif !ρ1 then (
  R (.returned (vI 0)) w)
  else (
  L5 pr n_0 k_1 1 0 w (q3 pr R)))) := by kernel_rfl
theorem E_s (n_0 : Int) (k_1 : Int) (w : World) (R : Ending → World → Prop) : E std n_0 k_1 w R = (
  pcall1 .bool PP F.spec_l1In #[vI n_0, vI 0, vI 40] fun (ρ0 : Bool) =>
  bif !ρ0 then (
  R (.returned (vI 0)) w)
  else (
  pcall1 .bool PP F.spec_l1In #[vI k_1, vI 0, vI n_0] fun (ρ1 : Bool) =>
  bif !ρ1 then (
  R (.returned (vI 0)) w)
  else (
  L5 std n_0 k_1 1 0 w (q3 std R)))) := E_eq std n_0 k_1 w R
theorem drawsOk : drawsOk PP cfg okD (codeOf Try.f27) = true := by kernel_rfl
theorem calls (n_0 : Int) (k_1 : Int) {w : World} {R : Ending → World → Prop} (h : E std n_0 k_1 w R) : Calls PP F.spec_Choose #[vI n_0, vI k_1] w R :=
  calls_of noCount mixed drawOk Try.func27 rfl (c := cfg) (args := [vI n_0, vI k_1]) rfl (Nat.le_of_ble_eq_true (by kernel_rfl)) drawsOk h
end spec_Choose

end Go.Proofs.Ytdchjhhpbdekeaa

/- Choose and CatalanNumber (out of Known). -/
namespace Go.Proofs.Ytdchjhhpbdekeaa
open Go Go.RowKit
set_option maxRecDepth 100000

def chP (n : Int) : Nat → Int
  | 0 => 1
  | k + 1 => w64 ((w64 (chP n k * w64 (n - k))).tdiv (w64 ((k : Int) + 1)))
def chV (n k : Int) : Int := if n < 0 ∨ 40 < n ∨ k < 0 ∨ n < k then 0 else chP n k.toNat

theorem c_specChoose (n k : Int) : Pure F.spec_Choose #[vI n, vI k] (vI (chV n k)) := by
  intro w
  refine spec_Choose.calls n k ?_
  rw [spec_Choose.E_s]
  refine Pure.pcall1 (s := .bool) (c_l1In n 0 40) ?_
  refine bif_intro (fun h => ?_) (fun h1 => ?_)
  · have : n < 0 ∨ 40 < n ∨ k < 0 ∨ n < k := by simp at h; omega
    simp [chV, this]
  have h1 : 0 ≤ n ∧ n ≤ 40 := by simpa using h1
  refine Pure.pcall1 (s := .bool) (c_l1In k 0 n) ?_
  refine bif_intro (fun h => ?_) (fun h2 => ?_)
  · have : n < 0 ∨ 40 < n ∨ k < 0 ∨ n < k := by simp at h; omega
    simp [chV, this]
  have h2 : 0 ≤ k ∧ k ≤ n := by simpa using h2
  refine spec_Choose.L5_rule _ _ _ _ _ _ (I := fun a i w' => w' = w ∧ 0 ≤ i ∧ i ≤ k ∧ a = chP n i.toNat) (μ := fun _ i _ => (k - i).toNat) ⟨rfl, by omega, by omega, rfl⟩ ?_
  rintro a i w' ⟨rfl, h0, hk, he⟩
  rw [spec_Choose.B5_s]
  refine bif_dec (fun h5 => ?_) (fun h5 => ?_)
  · refine ⟨by rw [w64_succ h0 (by omega)]; omega, w64 ((w64 (a * w64 (n - i))).tdiv (i + 1)), i + 1, by rw [w64_succ h0 (by omega)], ⟨rfl, by omega, by omega, ?_⟩, by omega⟩
    have : (i + 1).toNat = i.toNat + 1 := by omega
    simp only [this, chP, ← he]
    rw [Int.toNat_of_nonneg h0, w64_succ h0 (by omega)]
  · rw [spec_Choose.A5_0_s]
    have : i = k := by omega
    subst this
    refine ⟨?_, rfl⟩
    rw [he, chV, if_neg (by omega)]

def caV (n : Int) : Int := if n < 0 ∨ 20 < n then -1 else w64 ((chV (w64 (2 * n)) n).tdiv (w64 (n + 1)))
end Go.Proofs.Ytdchjhhpbdekeaa

/- What a stack sorts: plain facts (who comes ahead of whom after a pass). -/
namespace Go.Proofs.Ytdchjhhpbdekeaa
open Go
set_option maxRecDepth 100000

theorem sub_snoc {l L : List Int} {a v : Int} : (l ++ [a]).Sublist (L ++ [v]) ↔ (l ++ [a]).Sublist L ∨ (a = v ∧ l.Sublist L) := by
  rw [← List.reverse_sublist, List.reverse_append, List.reverse_append, List.reverse_singleton, List.reverse_singleton, List.singleton_append, List.singleton_append, List.sublist_cons_iff]
  constructor
  · rintro (h | ⟨r, h1, h2⟩)
    · left
      rw [← List.reverse_sublist, List.reverse_append]; simpa using h
    · simp at h1
      right
      exact ⟨h1.1, by rw [← h1.2] at h2; exact List.reverse_sublist.1 h2⟩
  · rintro (h | ⟨rfl, h⟩)
    · left
      have := List.reverse_sublist.2 h
      simpa using this
    · right
      exact ⟨l.reverse, rfl, List.reverse_sublist.2 h⟩
theorem sub2 {L : List Int} {a b v : Int} : [b, a].Sublist (L ++ [v]) ↔ [b, a].Sublist L ∨ (a = v ∧ b ∈ L) := by
  have := sub_snoc (l := [b]) (L := L) (a := a) (v := v)
  simpa using this
theorem sub3 {L : List Int} {a b c v : Int} : [b, c, a].Sublist (L ++ [v]) ↔ [b, c, a].Sublist L ∨ (a = v ∧ [b, c].Sublist L) := by
  have := sub_snoc (l := [b, c]) (L := L) (a := a) (v := v)
  simpa using this
/-- Two of a list that is put together: where they stand. -/
theorem sub_app {b a : Int} : ∀ {A B : List Int}, [b, a].Sublist (A ++ B) ↔ [b, a].Sublist A ∨ [b, a].Sublist B ∨ (b ∈ A ∧ a ∈ B)
  | [], B => by simp
  | x :: A, B => by
    rw [List.cons_append, List.sublist_cons_iff, List.sublist_cons_iff, sub_app]
    simp only [List.mem_cons]
    constructor
    · rintro ((h | h | h) | ⟨r, h1, h2⟩)
      · exact .inl (.inl h)
      · exact .inr (.inl h)
      · exact .inr (.inr ⟨.inr h.1, h.2⟩)
      · simp at h1
        obtain ⟨rfl, rfl⟩ := h1
        rw [List.singleton_sublist, List.mem_append] at h2
        rcases h2 with h2 | h2
        · exact .inl (.inr ⟨[a], rfl, List.singleton_sublist.2 h2⟩)
        · exact .inr (.inr ⟨.inl rfl, h2⟩)
    · rintro ((h | ⟨r, h1, h2⟩) | h | ⟨h | h, h2⟩)
      · exact .inl (.inl h)
      · exact .inr ⟨r, h1, h2.trans (List.sublist_append_left ..)⟩
      · exact .inl (.inr (.inl h))
      · subst h; exact .inr ⟨[a], rfl, List.singleton_sublist.2 (List.mem_append.2 (.inr h2))⟩
      · exact .inl (.inr (.inr ⟨h, h2⟩))
theorem popW_split (v : Int) : ∀ (r o : List Int), r.Pairwise (· < ·) → ∃ r1 r2, r = r1 ++ r2 ∧ popW v o r = (o ++ r1, r2) ∧ (∀ x ∈ r1, x < v) ∧ (∀ x ∈ r2, v ≤ x)
  | [], o, _ => ⟨[], [], rfl, by simp [popW], by simp, by simp⟩
  | x :: r, o, h => by
    obtain ⟨h1, h2⟩ := List.pairwise_cons.1 h
    by_cases hx : x < v
    · obtain ⟨r1, r2, e, h3, h4, h5⟩ := popW_split v r (o ++ [x]) h2
      refine ⟨x :: r1, r2, by rw [e]; rfl, by rw [popW, if_pos hx, h3]; simp, fun y hy => ?_, h5⟩
      rcases List.mem_cons.1 hy with rfl | hy
      · exact hx
      · exact h4 y hy
    · refine ⟨[], x :: r, rfl, by rw [popW, if_neg hx]; simp, by simp, fun y hy => ?_⟩
      rcases List.mem_cons.1 hy with rfl | hy
      · omega
      · have := h1 y hy; omega
/-- While a list goes through the stack. -/
structure Run (L O S : List Int) : Prop where
  inc : S.Pairwise (· < ·)
  mem : ∀ x, x ∈ O ++ S ↔ x ∈ L
  out : ∀ x, x ∈ O ↔ ∃ c, x < c ∧ [x, c].Sublist L
  ord : ∀ a b, a < b → ([b, a].Sublist (O ++ S) ↔ ∃ c, b < c ∧ [b, c, a].Sublist L)
theorem run_nil : Run [] [] [] := ⟨List.Pairwise.nil, by simp, by simp, by simp⟩
theorem run_snoc {L O S : List Int} {v : Int} (h : Run L O S) (hv : v ∉ L) (hn : (O ++ S).Nodup) : Run (L ++ [v]) (popW v O S).1 (v :: (popW v O S).2) := by
  obtain ⟨S1, S2, rfl, hp, h1, h2⟩ := popW_split v S O h.inc
  rw [hp]
  have hS2v : ∀ x ∈ S2, v < x := fun x hx => by
    have h3 := h2 x hx
    have : x ≠ v := fun e => hv (by rw [← e]; exact (h.mem x).1 (by simp [hx]))
    omega
  have hsame : ∀ a b, a ≠ v → b ≠ v → ([b, a].Sublist ((O ++ S1) ++ (v :: S2)) ↔ [b, a].Sublist (O ++ (S1 ++ S2))) := fun a b ha hb => by
    rw [← List.append_assoc, sub_app, sub_app (A := O ++ S1) (B := S2), List.sublist_cons_iff]
    constructor
    · rintro (h3 | (h3 | ⟨r, h3, _⟩) | ⟨h3, h4⟩)
      · exact .inl h3
      · exact .inr (.inl h3)
      · simp at h3; exact absurd h3.1 hb
      · rcases List.mem_cons.1 h4 with h4 | h4
        · exact absurd h4 ha
        · exact .inr (.inr ⟨h3, h4⟩)
    · rintro (h3 | h3 | ⟨h3, h4⟩)
      · exact .inl h3
      · exact .inr (.inl (.inl h3))
      · exact .inr (.inr ⟨h3, List.mem_cons.2 (.inr h4)⟩)
  refine ⟨List.pairwise_cons.2 ⟨hS2v, (List.pairwise_append.1 h.inc).2.1⟩, fun x => ?_, fun x => ?_, fun a b hab => ?_⟩
  · have := h.mem x
    simp only [List.mem_append, List.mem_cons, List.not_mem_nil, or_false] at this ⊢
    rw [← this]
    constructor
    · rintro ((h | h) | h | h) <;> simp [h]
    · rintro ((h | h | h) | h) <;> simp [h]
  · show x ∈ O ++ S1 ↔ _
    rw [List.mem_append]
    constructor
    · rintro (hx | hx)
      · obtain ⟨c, hc, hs⟩ := (h.out x).1 hx
        exact ⟨c, hc, hs.trans (List.sublist_append_left ..)⟩
      · exact ⟨v, h1 x hx, sub2.2 (.inr ⟨rfl, (h.mem x).1 (by simp [hx])⟩)⟩
    · rintro ⟨c, hc, hs⟩
      rcases sub2.1 hs with hs | ⟨rfl, hx⟩
      · exact .inl ((h.out x).2 ⟨c, hc, hs⟩)
      · have := (h.mem x).2 hx
        simp only [List.mem_append] at this
        rcases this with h3 | h3 | h3
        · exact .inl h3
        · exact .inr h3
        · have := h2 x h3; omega
  · show [b, a].Sublist ((O ++ S1) ++ (v :: S2)) ↔ _
    by_cases hbv : b = v
    · subst hbv
      constructor
      · intro hs
        rw [sub_app] at hs
        rcases hs with hs | hs | ⟨hs, _⟩
        · have hb : b ∈ O ++ S1 := hs.subset (by simp)
          exact absurd ((h.mem b).1 (by simp only [List.mem_append] at hb ⊢; rcases hb with hb | hb <;> simp [hb])) hv
        · have ha : a ∈ S2 := by
            rcases List.sublist_cons_iff.1 hs with h3 | ⟨r, h3, h4⟩
            · exact h3.subset (by simp)
            · simp at h3; rw [← h3] at h4; exact List.singleton_sublist.1 h4
          have := hS2v a ha; omega
        · exact absurd ((h.mem b).1 (by simp only [List.mem_append] at hs ⊢; rcases hs with hb | hb <;> simp [hb])) hv
      · rintro ⟨c, hc, hs⟩
        rcases sub3.1 hs with hs | ⟨_, hs⟩
        · exact absurd (hs.subset (by simp)) hv
        · exact absurd (hs.subset (by simp)) hv
    by_cases hav : a = v
    · subst hav
      constructor
      · intro hs
        rw [sub_app] at hs
        have hb : b ∈ O ++ S1 := by
          rcases hs with hs | hs | ⟨hs, _⟩
          · exact hs.subset (by simp)
          · rcases List.sublist_cons_iff.1 hs with h3 | ⟨r, h3, h4⟩
            · have : a ∈ S2 := h3.subset (by simp)
              exact absurd ((h.mem a).1 (by simp [this])) hv
            · simp at h3; exact absurd h3.1 hbv
          · exact hs
        rcases List.mem_append.1 hb with hb | hb
        · obtain ⟨c, hc, hs⟩ := (h.out b).1 hb
          exact ⟨c, hc, sub3.2 (.inr ⟨rfl, hs⟩)⟩
        · have := h1 b hb; omega
      · rintro ⟨c, hc, hs⟩
        rcases sub3.1 hs with hs | ⟨_, hs⟩
        · exact absurd (hs.subset (by simp)) hv
        · have := (h.out b).2 ⟨c, hc, hs⟩
          exact sub_app.2 (.inr (.inr ⟨by simp [this], by simp⟩))
    rw [hsame a b hav hbv, h.ord a b hab]
    constructor
    · rintro ⟨c, hc, hs⟩; exact ⟨c, hc, hs.trans (List.sublist_append_left ..)⟩
    · rintro ⟨c, hc, hs⟩
      rcases sub3.1 hs with hs | ⟨h3, _⟩
      · exact ⟨c, hc, hs⟩
      · exact absurd h3 hav
theorem run_all : ∀ (n : Nat) (L : List Int), L.length = n → L.Nodup → Run L (runW L).1 (runW L).2
  | 0, L, h, _ => by
    obtain rfl : L = [] := List.eq_nil_of_length_eq_zero h
    exact run_nil
  | n + 1, L, h, hn => by
    obtain ⟨M, v, rfl⟩ : ∃ M v, L = M ++ [v] := ⟨L.dropLast, L.getLast (by intro e; rw [e] at h; simp at h), (List.dropLast_concat_getLast _).symm⟩
    have hM : M.length = n := by simpa using h
    have hn2 := List.nodup_append.1 hn
    have hv : v ∉ M := fun hv => hn2.2.2 v hv v (by simp) rfl
    have := run_all n M hM hn2.1
    rw [runW_snoc]
    exact run_snoc this hv (by rw [show (runW M).1 ++ (runW M).2 = passV M from rfl]; exact (passV_perm M).nodup_iff.2 hn2.1)
/-- Who comes ahead of a smaller one after a pass. -/
theorem pass_ord {L : List Int} (hn : L.Nodup) {a b : Int} (hab : a < b) : [b, a].Sublist (passV L) ↔ ∃ c, b < c ∧ [b, c, a].Sublist L := (run_all _ L rfl hn).ord a b hab
theorem rising_pair {M : List Int} : Rising M ↔ M.Pairwise (· ≤ ·) := by
  constructor
  · intro h
    refine List.pairwise_iff_getElem.2 fun i j hi hj hij => ?_
    have := h.all j i (by omega) hj
    simpa [List.getD_eq_getElem?_getD, List.getElem?_eq_getElem hi, List.getElem?_eq_getElem hj] using this
  · intro h i hi
    have := List.pairwise_iff_getElem.1 h i (i + 1) (by omega) hi (by omega)
    simpa [List.getD_eq_getElem?_getD, List.getElem?_eq_getElem (show i < M.length by omega), List.getElem?_eq_getElem hi] using this
theorem rising_sub {M : List Int} : Rising M ↔ ∀ a b, a < b → ¬ [b, a].Sublist M := by
  rw [rising_pair, List.pairwise_iff_forall_sublist]
  constructor
  · intro h a b hab hs
    have := h hs; omega
  · intro h a b hs
    by_cases h1 : b < a
    · exact absurd hs (h b a h1)
    · omega
/-- A stack sorts what has no 231. -/
theorem sorted_iff {L : List Int} (hn : L.Nodup) : Rising (passV L) ↔ ¬ ∃ a b c, a < b ∧ b < c ∧ [b, c, a].Sublist L := by
  rw [rising_sub]
  constructor
  · rintro h ⟨a, b, c, hab, hbc, hs⟩
    exact h a b hab ((pass_ord hn hab).2 ⟨c, hbc, hs⟩)
  · intro h a b hab hs
    obtain ⟨c, hbc, hs⟩ := (pass_ord hn hab).1 hs
    exact h ⟨a, b, c, hab, hbc, hs⟩
/-! ### Sublists by places -/
theorem sub_nth2 {x y : Int} : ∀ {L : List Int}, [x, y].Sublist L ↔ ∃ i j : Nat, i < j ∧ L[i]? = some x ∧ L[j]? = some y
  | [] => by simp
  | w :: L => by
    rw [List.sublist_cons_iff, sub_nth2]
    constructor
    · rintro (⟨i, j, hij, h1, h2⟩ | ⟨r, h1, h2⟩)
      · exact ⟨i + 1, j + 1, by omega, by simpa using h1, by simpa using h2⟩
      · simp at h1
        obtain ⟨rfl, rfl⟩ := h1
        obtain ⟨j, hj, e⟩ := List.getElem_of_mem (List.singleton_sublist.1 h2)
        exact ⟨0, j + 1, by omega, rfl, by simp [List.getElem?_eq_getElem hj, e]⟩
    · rintro ⟨i, j, hij, h1, h2⟩
      obtain ⟨j, rfl⟩ : ∃ j', j = j' + 1 := ⟨j - 1, by omega⟩
      rw [List.getElem?_cons_succ] at h2
      cases i with
      | zero => simp at h1; subst h1; exact .inr ⟨[y], rfl, List.singleton_sublist.2 (List.mem_of_getElem? h2)⟩
      | succ i => rw [List.getElem?_cons_succ] at h1; exact .inl ⟨i, j, by omega, h1, h2⟩
theorem sub_nth3 {x y z : Int} : ∀ {L : List Int}, [x, y, z].Sublist L ↔ ∃ i j k : Nat, i < j ∧ j < k ∧ L[i]? = some x ∧ L[j]? = some y ∧ L[k]? = some z
  | [] => by simp
  | w :: L => by
    rw [List.sublist_cons_iff, sub_nth3]
    constructor
    · rintro (⟨i, j, k, hij, hjk, h1, h2, h3⟩ | ⟨r, h1, h2⟩)
      · exact ⟨i + 1, j + 1, k + 1, by omega, by omega, by simpa using h1, by simpa using h2, by simpa using h3⟩
      · simp at h1
        obtain ⟨rfl, rfl⟩ := h1
        obtain ⟨j, k, hjk, e1, e2⟩ := sub_nth2.1 h2
        exact ⟨0, j + 1, k + 1, by omega, by omega, rfl, by simpa using e1, by simpa using e2⟩
    · rintro ⟨i, j, k, hij, hjk, h1, h2, h3⟩
      obtain ⟨j, rfl⟩ : ∃ j', j = j' + 1 := ⟨j - 1, by omega⟩
      obtain ⟨k, rfl⟩ : ∃ k', k = k' + 1 := ⟨k - 1, by omega⟩
      rw [List.getElem?_cons_succ] at h2 h3
      cases i with
      | zero => simp at h1; subst h1; exact .inr ⟨[y, z], rfl, sub_nth2.2 ⟨j, k, by omega, h2, h3⟩⟩
      | succ i => rw [List.getElem?_cons_succ] at h1; exact .inl ⟨i, j, k, by omega, by omega, h1, h2, h3⟩
theorem nth_inj {L : List Int} (hn : L.Nodup) {i j : Nat} {x : Int} (h1 : L[i]? = some x) (h2 : L[j]? = some x) : i = j := by
  obtain ⟨hi, e1⟩ := List.getElem?_eq_some_iff.1 h1
  obtain ⟨hj, e2⟩ := List.getElem?_eq_some_iff.1 h2
  have hp := List.pairwise_iff_getElem.1 hn
  rcases Nat.lt_trichotomy i j with h | h | h
  · exact absurd (e1.trans e2.symm) (hp i j hi hj h)
  · exact h
  · exact absurd (e2.trans e1.symm) (hp j i hj hi h)
/-! ### Two passes -/
/-- 2341, or 3241 with nothing greater than the four between the three and the two. -/
def Bad2 (L : List Int) : Prop :=
  (∃ i j k l : Nat, i < j ∧ j < k ∧ k < l ∧ ∃ a b c d, a < b ∧ b < c ∧ c < d ∧ L[i]? = some b ∧ L[j]? = some c ∧ L[k]? = some d ∧ L[l]? = some a) ∨
  (∃ i j k l : Nat, i < j ∧ j < k ∧ k < l ∧ ∃ a b c d, a < b ∧ b < c ∧ c < d ∧ L[i]? = some c ∧ L[j]? = some b ∧ L[k]? = some d ∧ L[l]? = some a ∧ ∀ (m : Nat) x, i < m → m < j → L[m]? = some x → ¬ d < x)
theorem pass_nodup {L : List Int} (hn : L.Nodup) : (passV L).Nodup := (passV_perm L).nodup_iff.2 hn
/-- b ahead of a greater one after a pass. -/
theorem pass_keep {L : List Int} (hn : L.Nodup) {b c : Int} (hb : b ∈ L) (hc : c ∈ L) (hbc : b < c) : [b, c].Sublist (passV L) ↔ ¬ ∃ d, c < d ∧ [c, d, b].Sublist L := by
  rw [← pass_ord hn hbc]
  have hn2 := pass_nodup hn
  have hb2 := (passV_perm L).mem_iff.2 hb
  have hc2 := (passV_perm L).mem_iff.2 hc
  obtain ⟨i, hi, rfl⟩ := List.getElem_of_mem hb2
  obtain ⟨j, hj, rfl⟩ := List.getElem_of_mem hc2
  have hij : i ≠ j := fun e => by subst e; omega
  constructor
  · intro h1 h2
    obtain ⟨a1, a2, h3, h4, h5⟩ := sub_nth2.1 h1
    obtain ⟨b1, b2, h6, h7, h8⟩ := sub_nth2.1 h2
    have := nth_inj hn2 h4 h8
    have := nth_inj hn2 h5 h7
    omega
  · intro h
    rcases Nat.lt_or_gt_of_ne hij with h1 | h1
    · exact sub_nth2.2 ⟨i, j, h1, List.getElem?_eq_getElem hi, List.getElem?_eq_getElem hj⟩
    · exact absurd (sub_nth2.2 ⟨j, i, h1, List.getElem?_eq_getElem hj, List.getElem?_eq_getElem hi⟩) h
theorem twice_bad {L : List Int} (hn : L.Nodup) : ¬ Rising (passV (passV L)) ↔ ∃ a b c, a < b ∧ b < c ∧ [b, c, a].Sublist (passV L) := by
  rw [sorted_iff (pass_nodup hn), Classical.not_not]
/-- Three in a row, of a list without repetition. -/
theorem three {M : List Int} (hn : M.Nodup) {b c a : Int} : [b, c, a].Sublist M ↔ [b, c].Sublist M ∧ [c, a].Sublist M := by
  constructor
  · intro h
    obtain ⟨i, j, k, hij, hjk, h1, h2, h3⟩ := sub_nth3.1 h
    exact ⟨sub_nth2.2 ⟨i, j, hij, h1, h2⟩, sub_nth2.2 ⟨j, k, hjk, h2, h3⟩⟩
  · rintro ⟨h, h'⟩
    obtain ⟨i, j, hij, h1, h2⟩ := sub_nth2.1 h
    obtain ⟨j', k, hjk, h3, h4⟩ := sub_nth2.1 h'
    have := nth_inj hn h2 h3
    subst this
    exact sub_nth3.2 ⟨i, j, k, hij, hjk, h1, h2, h4⟩
/-- The greatest of some places. -/
theorem great_at {L : List Int} {i : Nat} : ∀ (n : Nat), i + n < L.length → ∃ (m : Nat) (c : Int), i ≤ m ∧ m ≤ i + n ∧ L[m]? = some c ∧ ∀ (k : Nat) (x : Int), i ≤ k → k ≤ i + n → L[k]? = some x → x ≤ c
  | 0, h => ⟨i, L[i]'(by omega), by omega, by omega, List.getElem?_eq_getElem (by omega), fun k x h1 h2 h3 => by
      have : k = i := by omega
      subst this
      rw [List.getElem?_eq_getElem (by omega)] at h3; cases h3; exact Int.le_refl _⟩
  | n + 1, h => by
    obtain ⟨m, c, h1, h2, h3, h4⟩ := great_at (L := L) (i := i) n (by omega)
    have hl : L[i + (n + 1)]? = some L[i + (n + 1)] := List.getElem?_eq_getElem h
    by_cases hc : c < L[i + (n + 1)]
    · refine ⟨i + (n + 1), _, by omega, by omega, hl, fun k x h5 h6 h7 => ?_⟩
      by_cases hk : k = i + (n + 1)
      · subst hk; rw [hl] at h7; cases h7; exact Int.le_refl _
      · have := h4 k x h5 (by omega) h7; omega
    · refine ⟨m, c, h1, by omega, h3, fun k x h5 h6 h7 => ?_⟩
      by_cases hk : k = i + (n + 1)
      · subst hk; rw [hl] at h7; cases h7; omega
      · exact h4 k x h5 (by omega) h7
theorem twice_iff {L : List Int} (hn : L.Nodup) : ¬ Rising (passV (passV L)) ↔ Bad2 L := by
  rw [twice_bad hn]
  have hn2 := pass_nodup hn
  constructor
  · rintro ⟨a, b, c, hab, hbc, hs⟩
    obtain ⟨h1, h2⟩ := (three hn2).1 hs
    have hb : b ∈ L := (passV_perm L).mem_iff.1 (h1.subset (by simp))
    have hc : c ∈ L := (passV_perm L).mem_iff.1 (h1.subset (by simp))
    have h3 := (pass_keep hn hb hc hbc).1 h1
    obtain ⟨d, hcd, hs1⟩ := (pass_ord hn (by omega)).1 h2
    have h4 : [b, a].Sublist (passV L) := by
      obtain ⟨i, j, k, hij, hjk, e1, e2, e3⟩ := sub_nth3.1 hs
      exact sub_nth2.2 ⟨i, k, by omega, e1, e3⟩
    obtain ⟨e, hbe, hs2⟩ := (pass_ord hn hab).1 h4
    obtain ⟨pc, pd, pa, q1, q2, e1, e2, e3⟩ := sub_nth3.1 hs1
    obtain ⟨pb, pe, pa', q3, q4, e4, e5, e6⟩ := sub_nth3.1 hs2
    have := nth_inj hn e3 e6
    subst this
    rcases Nat.lt_trichotomy pb pc with h5 | h5 | h5
    · exact .inl ⟨pb, pc, pd, pa, h5, q1, q2, a, b, c, d, hab, hbc, hcd, e4, e1, e2, e3⟩
    · subst h5; rw [e1] at e4; cases e4; omega
    · have hdb : pb < pd := by
        rcases Nat.lt_trichotomy pb pd with h6 | h6 | h6
        · exact h6
        · subst h6; rw [e2] at e4; cases e4; omega
        · exact absurd ⟨d, hcd, sub_nth3.2 ⟨pc, pd, pb, q1, h6, e1, e2, e4⟩⟩ h3
      refine .inr ⟨pc, pb, pd, pa, h5, hdb, q2, a, b, c, d, hab, hbc, hcd, e1, e4, e2, e3, fun m x h7 h8 h9 hdx => h3 ⟨x, by omega, sub_nth3.2 ⟨pc, m, pb, h7, h8, e1, h9, e4⟩⟩⟩
  · rintro (⟨i, j, k, l, hij, hjk, hkl, a, b, c, d, hab, hbc, hcd, e1, e2, e3, e4⟩ | ⟨i, j, k, l, hij, hjk, hkl, a, b, c, d, hab, hbc, hcd, e1, e2, e3, e4, hno⟩)
    · refine ⟨a, b, c, hab, hbc, (three hn2).2 ⟨(pass_keep hn (List.mem_of_getElem? e1) (List.mem_of_getElem? e2) hbc).2 ?_, (pass_ord hn (by omega)).2 ⟨d, hcd, sub_nth3.2 ⟨j, k, l, hjk, hkl, e2, e3, e4⟩⟩⟩⟩
      rintro ⟨d', _, hs⟩
      obtain ⟨p, q, r, h1, h2, f1, f2, f3⟩ := sub_nth3.1 hs
      have := nth_inj hn f1 e2
      have := nth_inj hn f3 e1
      omega
    · have hjl : j < L.length := (List.getElem?_eq_some_iff.1 e2).1
      obtain ⟨m, c', h1, h2, h3, h4⟩ := great_at (L := L) (i := i) (j - 1 - i) (by omega)
      have hcc : c ≤ c' := h4 i c (by omega) (by omega) e1
      have hc'd : c' < d := by
        by_cases hmi : m = i
        · subst hmi; rw [e1] at h3; cases h3; exact hcd
        · have h5 := hno m c' (by omega) (by omega) h3
          have : c' ≠ d := fun e => by
            subst e
            have := nth_inj hn h3 e3
            omega
          omega
      refine ⟨a, b, c', hab, by omega, (three hn2).2 ⟨(pass_keep hn (List.mem_of_getElem? e2) (List.mem_of_getElem? h3) (by omega)).2 ?_, (pass_ord hn (by omega)).2 ⟨d, hc'd, sub_nth3.2 ⟨m, k, l, by omega, hkl, h3, e3, e4⟩⟩⟩⟩
      rintro ⟨x, hx, hs⟩
      obtain ⟨p, q, r, h5, h6, f1, f2, f3⟩ := sub_nth3.1 hs
      have := nth_inj hn f1 h3
      have := nth_inj hn f3 e2
      have := h4 q x (by omega) (by omega) f2
      omega
/-- The times that a stack wants. -/
theorem it_enough {L : List Int} {n : Nat} (h : L.Perm (idn n)) (hn : 0 < n) : Rising (itW (n - 1) L) := by
  obtain ⟨M, h1, h2⟩ := it_shape h (n - 1) (by omega)
  rw [show n - (n - 1) = 1 by omega] at h1 h2
  have hM : M = [1] := by
    have : idn 1 = [1] := by decide
    rw [this] at h2
    exact List.perm_singleton.1 h2
  rw [h1, hM, rising_pair, List.singleton_append, List.pairwise_cons]
  refine ⟨fun x hx => by have := (mem_seg.1 hx).1; omega, (seg_pairwise 1 n).imp fun h => Int.le_of_lt h⟩
end Go.Proofs.Ytdchjhhpbdekeaa

/- How often a stack is wanted, and how many permutations two passes sort: plain facts. -/
namespace Go.Proofs.Ytdchjhhpbdekeaa
open Go
set_option maxRecDepth 100000

theorem rising_pass {L : List Int} (hn : L.Nodup) (h : Rising L) : Rising (passV L) := by
  rw [rising_sub] at h ⊢
  intro a b hab hs
  obtain ⟨c, _, hs⟩ := (pass_ord hn hab).1 hs
  obtain ⟨i, j, k, hij, hjk, h1, _, h3⟩ := sub_nth3.1 hs
  exact h a b hab (sub_nth2.2 ⟨i, k, by omega, h1, h3⟩)
theorem itW_nodup {L : List Int} (hn : L.Nodup) (k : Nat) : (itW k L).Nodup := (itW_perm L k).nodup_iff.2 hn
theorem least {P : Nat → Prop} : ∀ (n : Nat), P n → ∃ m, m ≤ n ∧ P m ∧ ∀ j, j < m → ¬ P j := by
  intro n
  induction n using Nat.strongRecOn with
  | ind n ih =>
    intro h
    by_cases hh : ∃ j, j < n ∧ P j
    · obtain ⟨j, hj, hp⟩ := hh
      obtain ⟨m, h1, h2, h3⟩ := ih j hj hp
      exact ⟨m, by omega, h2, h3⟩
    · exact ⟨n, Nat.le_refl n, h, fun j hj hp => hh ⟨j, hj, hp⟩⟩
theorem tm_ex {L : List Int} (h : IsP L) : ∃ m, m ≤ L.length ∧ Tm L m := by
  obtain ⟨m, h1, h2, h3⟩ := least (P := fun m => Rising (itW m L)) L.length (by rw [it_last h]; exact rising_idn _)
  exact ⟨m, h1, h2, h3⟩
theorem it_stays {L : List Int} (hn : L.Nodup) {m : Nat} (h : Rising (itW m L)) : ∀ d, Rising (itW (m + d) L)
  | 0 => h
  | d + 1 => rising_pass (itW_nodup hn (m + d)) (it_stays hn h d)
theorem tm_le {L : List Int} (h : IsP L) {k : Nat} : tmV L ≤ k ↔ Rising (itW k L) := by
  obtain ⟨m, _, hm⟩ := tm_ex h
  rw [hm.eq]
  constructor
  · intro hk
    have := it_stays h.nodup hm.1 (k - m)
    rwa [show m + (k - m) = k by omega] at this
  · intro hr
    rcases Nat.lt_or_ge k m with h1 | h1
    · exact absurd hr (hm.2 k h1)
    · exact h1
theorem tm_short {L : List Int} (h : IsP L) (h0 : 0 < L.length) : tmV L ≤ L.length - 1 := (tm_le h).2 (it_enough h.perm h0)
def risB : List Int → Bool
  | [] => true
  | [_] => true
  | x :: y :: r => decide (x ≤ y) && risB (y :: r)
theorem risB_iff : ∀ {L : List Int}, risB L = true ↔ Rising L
  | [] => by simp [risB, Rising]
  | [x] => by simp [risB, Rising]
  | x :: y :: r => by
    rw [risB, Bool.and_eq_true, decide_eq_true_eq, risB_iff, rising_pair, rising_pair, List.pairwise_cons (a := x)]
    constructor
    · rintro ⟨h1, h2⟩
      refine ⟨fun z hz => ?_, h2⟩
      rcases List.mem_cons.1 hz with rfl | hz
      · exact h1
      · exact Int.le_trans h1 ((List.pairwise_cons.1 h2).1 z hz)
    · rintro ⟨h1, h2⟩
      exact ⟨h1 y (by simp), h2⟩
theorem two_pass {L : List Int} (h : IsP L) : decide (tmV L ≤ 2) = risB (passV (passV L)) := by
  have h1 := tm_le h (k := 2)
  have h2 : itW 2 L = passV (passV L) := rfl
  rw [h2, ← risB_iff] at h1
  cases hc : risB (passV (passV L))
  · rw [hc] at h1; simp at h1; simpa using h1
  · rw [hc] at h1; simpa using h1
theorem two_count {n : Nat} (hn : n ≤ 8) : (permsV n).countP (fun p => decide (tmV p ≤ 2)) = (permsV n).countP fun p => risB (passV (passV p)) :=
  List.countP_congr fun p hp => by rw [two_pass (permsV_isP hn hp)]
theorem two_values : ∀ n, n < 7 → 0 < n → (permsV n).countP (fun p => risB (passV (passV p))) = [1, 1, 2, 6, 22, 91, 408].getD n 0 := by decide +kernel
end Go.Proofs.Ytdchjhhpbdekeaa

/- Patterns of three and four by their places: plain facts. -/
namespace Go.Proofs.Ytdchjhhpbdekeaa
open Go
set_option maxRecDepth 100000

theorem fits_iff {P Q h : List Int} {x : Int} : fitsB P Q h x = true ↔ ∀ k, k < h.length → (P.getD (h.getD k 0 - 1).toNat 0 < P.getD (x - 1).toNat 0 ↔ Q.getD k 0 < Q.getD h.length 0) := by
  rw [fitsB_iff]
  constructor
  · intro h1 k hk
    have := h1 k hk
    rw [fitsAt, beq_iff_eq, decide_eq_decide] at this
    exact this
  · intro h1 k hk
    rw [fitsAt, beq_iff_eq, decide_eq_decide]
    exact h1 k hk
theorem has3 {P : List Int} {q1 q2 q3 : Int} : hasP P [q1, q2, q3] = true ↔ ∃ i j k : Nat, i < j ∧ j < k ∧ k < P.length ∧
    (P.getD i 0 < P.getD j 0 ↔ q1 < q2) ∧ (P.getD i 0 < P.getD k 0 ↔ q1 < q3) ∧ (P.getD j 0 < P.getD k 0 ↔ q2 < q3) := by
  unfold hasP
  rw [show [q1, q2, q3].length = 2 + 1 from rfl, hasB_succ]
  constructor
  · rintro ⟨x, h1, h2, _, h3⟩
    obtain ⟨y, h4, h5, h6, h7⟩ := hasB_succ.1 h3
    obtain ⟨z, h8, h9, h10, _⟩ := hasB_succ.1 h7
    rw [lastD_nil] at h1
    rw [List.nil_append] at h4 h6 h8 h10
    have e1 : lastD [x] = x := rfl
    have e2 : lastD ([x] ++ [y]) = y := lastD_snoc _ _
    rw [e1] at h4
    rw [e2] at h8
    have f1 := fits_iff.1 h6 0 (by simp)
    have f2 := fits_iff.1 h10 0 (by simp)
    have f3 := fits_iff.1 h10 1 (by simp)
    simp at f1 f2 f3
    refine ⟨(x - 1).toNat, (y - 1).toNat, (z - 1).toNat, by omega, by omega, by omega, ?_, ?_, ?_⟩
    · simpa using f1
    · simpa using f2
    · simpa using f3
  · rintro ⟨i, j, k, hij, hjk, hk, f1, f2, f3⟩
    refine ⟨i + 1, by rw [lastD_nil]; omega, by omega, fits_iff.2 (fun k hk => by simp at hk), hasB_succ.2 ⟨j + 1, ?_, by omega, fits_iff.2 fun k hk => ?_, hasB_succ.2 ⟨k + 1, ?_, by omega, fits_iff.2 fun m hm => ?_, hasB_zero ..⟩⟩⟩
    · rw [lastD_snoc]; omega
    · simp at hk
      subst hk
      simpa using f1
    · rw [lastD_snoc]; omega
    · simp at hm
      rcases (show m = 0 ∨ m = 1 by omega) with rfl | rfl
      · simpa using f2
      · simpa using f3
theorem has4 {P : List Int} {q1 q2 q3 q4 : Int} : hasP P [q1, q2, q3, q4] = true ↔ ∃ i j k l : Nat, i < j ∧ j < k ∧ k < l ∧ l < P.length ∧
    (P.getD i 0 < P.getD j 0 ↔ q1 < q2) ∧ (P.getD i 0 < P.getD k 0 ↔ q1 < q3) ∧ (P.getD j 0 < P.getD k 0 ↔ q2 < q3) ∧ (P.getD i 0 < P.getD l 0 ↔ q1 < q4) ∧ (P.getD j 0 < P.getD l 0 ↔ q2 < q4) ∧ (P.getD k 0 < P.getD l 0 ↔ q3 < q4) := by
  unfold hasP
  rw [show [q1, q2, q3, q4].length = 3 + 1 from rfl, hasB_succ]
  constructor
  · rintro ⟨x, h1, h2, _, h3⟩
    obtain ⟨y, h4, h5, h6, h7⟩ := hasB_succ.1 h3
    obtain ⟨z, h8, h9, h10, h11⟩ := hasB_succ.1 h7
    obtain ⟨u, h12, h13, h14, _⟩ := hasB_succ.1 h11
    rw [lastD_nil] at h1
    rw [List.nil_append] at h4 h6 h8 h10 h12 h14
    have e1 : lastD [x] = x := rfl
    have e2 : lastD ([x] ++ [y]) = y := lastD_snoc _ _
    have e3 : lastD ([x] ++ [y] ++ [z]) = z := lastD_snoc _ _
    rw [e1] at h4
    rw [e2] at h8
    rw [e3] at h12
    have f1 := fits_iff.1 h6 0 (by simp)
    have f2 := fits_iff.1 h10 0 (by simp)
    have f3 := fits_iff.1 h10 1 (by simp)
    have f4 := fits_iff.1 h14 0 (by simp)
    have f5 := fits_iff.1 h14 1 (by simp)
    have f6 := fits_iff.1 h14 2 (by simp)
    simp at f1 f2 f3 f4 f5 f6
    refine ⟨(x - 1).toNat, (y - 1).toNat, (z - 1).toNat, (u - 1).toNat, by omega, by omega, by omega, by omega, ?_, ?_, ?_, ?_, ?_, ?_⟩
    · simpa using f1
    · simpa using f2
    · simpa using f3
    · simpa using f4
    · simpa using f5
    · simpa using f6
  · rintro ⟨i, j, k, l, hij, hjk, hkl, hl, f1, f2, f3, f4, f5, f6⟩
    refine ⟨i + 1, by rw [lastD_nil]; omega, by omega, fits_iff.2 (fun k hk => by simp at hk), hasB_succ.2 ⟨j + 1, ?_, by omega, fits_iff.2 fun k hk => ?_, hasB_succ.2 ⟨k + 1, ?_, by omega, fits_iff.2 fun m hm => ?_, hasB_succ.2 ⟨l + 1, ?_, by omega, fits_iff.2 fun m hm => ?_, hasB_zero ..⟩⟩⟩⟩
    · rw [lastD_snoc]; omega
    · simp at hk
      subst hk
      simpa using f1
    · rw [lastD_snoc]; omega
    · simp at hm
      rcases (show m = 0 ∨ m = 1 by omega) with rfl | rfl
      · simpa using f2
      · simpa using f3
    · rw [lastD_snoc]; omega
    · simp at hm
      rcases (show m = 0 ∨ m = 1 ∨ m = 2 by omega) with rfl | rfl | rfl
      · simpa using f4
      · simpa using f5
      · simpa using f6
theorem nth_getD {P : List Int} {i : Nat} {x : Int} (h : P[i]? = some x) : i < P.length ∧ P.getD i 0 = x := by
  obtain ⟨hi, e⟩ := List.getElem?_eq_some_iff.1 h
  exact ⟨hi, by rw [getD_lt hi]; exact e⟩
theorem nth_of {P : List Int} {i : Nat} (h : i < P.length) : P[i]? = some (P.getD i 0) := by rw [getD_lt h]; exact List.getElem?_eq_getElem h
theorem getD_ne {P : List Int} (hn : P.Nodup) {i j : Nat} (hij : i < j) (hj : j < P.length) : P.getD i 0 ≠ P.getD j 0 := fun e => by
  have := nth_inj hn (nth_of (show i < P.length by omega)) (by rw [e]; exact nth_of hj)
  omega
/-- 231 by values. -/
theorem has231 {P : List Int} (hn : P.Nodup) : hasP P [2, 3, 1] = true ↔ ∃ a b c, a < b ∧ b < c ∧ [b, c, a].Sublist P := by
  rw [has3]
  constructor
  · rintro ⟨i, j, k, hij, hjk, hk, f1, f2, f3⟩
    have n2 := getD_ne hn (show i < k by omega) hk
    refine ⟨P.getD k 0, P.getD i 0, P.getD j 0, ?_, f1.2 (by decide), sub_nth3.2 ⟨i, j, k, hij, hjk, nth_of (by omega), nth_of (by omega), nth_of hk⟩⟩
    have : ¬ P.getD i 0 < P.getD k 0 := fun h => absurd (f2.1 h) (by decide)
    omega
  · rintro ⟨a, b, c, hab, hbc, hs⟩
    obtain ⟨i, j, k, hij, hjk, h1, h2, h3⟩ := sub_nth3.1 hs
    obtain ⟨l1, e1⟩ := nth_getD h1
    obtain ⟨l2, e2⟩ := nth_getD h2
    obtain ⟨l3, e3⟩ := nth_getD h3
    exact ⟨i, j, k, hij, hjk, l3, by omega, by omega, by omega⟩
theorem isP_len4 {P : List Int} (hn : P.Nodup) : (hasP P [2, 3, 4, 1] = true ∨ ∃ i j k l : Nat, i < j ∧ j < k ∧ k < l ∧ l < P.length ∧ P.getD l 0 < P.getD j 0 ∧ P.getD j 0 < P.getD i 0 ∧ P.getD i 0 < P.getD k 0 ∧ ∀ m, i < m → m < j → ¬ P.getD k 0 < P.getD m 0) ↔ Bad2 P := by
  constructor
  · rintro (h | ⟨i, j, k, l, hij, hjk, hkl, hl, h1, h2, h3, h4⟩)
    · obtain ⟨i, j, k, l, hij, hjk, hkl, hl, f1, f2, f3, f4, f5, f6⟩ := has4.1 h
      have n1 := getD_ne hn (show i < l by omega) hl
      exact .inl ⟨i, j, k, l, hij, hjk, hkl, P.getD l 0, P.getD i 0, P.getD j 0, P.getD k 0, by omega, by omega, by omega, nth_of (by omega), nth_of (by omega), nth_of (by omega), nth_of hl⟩
    · refine .inr ⟨i, j, k, l, hij, hjk, hkl, P.getD l 0, P.getD j 0, P.getD i 0, P.getD k 0, h1, h2, h3, nth_of (by omega), nth_of (by omega), nth_of (by omega), nth_of hl, fun m x hm1 hm2 hx => ?_⟩
      rw [← (nth_getD hx).2]
      exact h4 m hm1 hm2
  · rintro (⟨i, j, k, l, hij, hjk, hkl, a, b, c, d, hab, hbc, hcd, h1, h2, h3, h4⟩ | ⟨i, j, k, l, hij, hjk, hkl, a, b, c, d, hab, hbc, hcd, h1, h2, h3, h4, h5⟩)
    · obtain ⟨l1, e1⟩ := nth_getD h1
      obtain ⟨l2, e2⟩ := nth_getD h2
      obtain ⟨l3, e3⟩ := nth_getD h3
      obtain ⟨l4, e4⟩ := nth_getD h4
      exact .inl (has4.2 ⟨i, j, k, l, hij, hjk, hkl, l4, by omega, by omega, by omega, by omega, by omega, by omega⟩)
    · obtain ⟨l1, e1⟩ := nth_getD h1
      obtain ⟨l2, e2⟩ := nth_getD h2
      obtain ⟨l3, e3⟩ := nth_getD h3
      obtain ⟨l4, e4⟩ := nth_getD h4
      refine .inr ⟨i, j, k, l, hij, hjk, hkl, l4, by omega, by omega, by omega, fun m hm1 hm2 => ?_⟩
      rw [e3]
      exact h5 m _ hm1 hm2 (nth_of (by omega))
/-- Two passes sort (West): in the words of IsTwicePattern. -/
theorem twice_says {P : List Int} (hn : P.Nodup) : Rising (passV (passV P)) ↔ hasP P [2, 3, 4, 1] = false ∧
    ∀ a b c d : Int, 1 ≤ a → a < b → b < c → c < d → d ≤ P.length → P.getD (d - 1).toNat 0 < P.getD (b - 1).toNat 0 → P.getD (b - 1).toNat 0 < P.getD (a - 1).toNat 0 → P.getD (a - 1).toNat 0 < P.getD (c - 1).toNat 0 →
      ∃ e, a < e ∧ e < b ∧ P.getD (c - 1).toNat 0 < P.getD (e - 1).toNat 0 := by
  have h0 := twice_iff hn
  rw [← isP_len4 hn] at h0
  constructor
  · intro h
    have h1 := fun hh => (h0.2 hh) h
    refine ⟨?_, fun a b c d g1 g2 g3 g4 g5 g6 g7 g8 => ?_⟩
    · cases hc : hasP P [2, 3, 4, 1]
      · rfl
      · exact (h1 (.inl hc)).elim
    · refine Classical.byContradiction fun hno => h1 (.inr ⟨(a - 1).toNat, (b - 1).toNat, (c - 1).toNat, (d - 1).toNat, by omega, by omega, by omega, by omega, g6, g7, g8, fun m hm1 hm2 hlt => hno ⟨(m : Int) + 1, by omega, by omega, ?_⟩⟩)
      rw [show ((m : Int) + 1 - 1).toNat = m by omega]; exact hlt
  · rintro ⟨h1, h2⟩
    refine Classical.byContradiction fun hno => ?_
    rcases h0.1 hno with h3 | ⟨i, j, k, l, hij, hjk, hkl, hl, g1, g2, g3, g4⟩
    · rw [h1] at h3; cases h3
    · have e : ∀ x : Nat, ((x : Int) + 1 - 1).toNat = x := fun x => by omega
      obtain ⟨m, hm1, hm2, hm3⟩ := h2 (i + 1) (j + 1) (k + 1) (l + 1) (by omega) (by omega) (by omega) (by omega) (by omega) (by rw [e, e]; exact g1) (by rw [e, e]; exact g2) (by rw [e, e]; exact g3)
      rw [e] at hm3
      exact g4 (m - 1).toNat (by omega) (by omega) hm3
end Go.Proofs.Ytdchjhhpbdekeaa

/- A permutation has no number twice. -/
namespace Go.Proofs.Ytdchjhhpbdekeaa
open Go
theorem isP_nd {L : List Int} (h : IsP L) : L.Nodup := by
  rw [List.nodup_iff_pairwise_ne, List.pairwise_iff_getElem]
  intro i j hi hj hij e
  refine (h.2 j hj).2.2 i hij ?_
  simp only [List.getD_eq_getElem?_getD, List.getElem?_eq_getElem hi, List.getElem?_eq_getElem hj, Option.getD_some]
  exact e
end Go.Proofs.Ytdchjhhpbdekeaa

/- FnStacks: the law. -/
namespace Go.Proofs.Ytdchjhhpbdekeaa
open Go Go.RowKit
set_option maxRecDepth 100000

/-! ### The draws -/
theorem c_DrawStackPass {w : World} {a : Sl} {L : List Int} (ha : RowB w a L) (hL : L.length < 2^60) :
    Calls PP F.spec_DrawStackPass #[a.v] w fun e w' => ∃ (s : Sl) (M : List Int), e = .returned s.v ∧ RowI w' s M ∧ M.length < 2^38 ∧ Below w.heap.size w w' := by
  refine spec_DrawStackPass.calls a ?_
  rw [spec_DrawStackPass.E_s]
  exact c_bentOf ha hL fun s M w' hs hM hb => ⟨s, M, rfl, hs.row, by have := hM.1; omega, hb⟩
theorem c_DrawStackTimes {w : World} {a : Sl} {L : List Int} (ha : RowB w a L) (hL : L.length < 2^60) :
    Calls PP F.spec_DrawStackTimes #[a.v] w fun e w' => ∃ (s : Sl) (M : List Int), e = .returned s.v ∧ RowI w' s M ∧ M.length < 2^38 ∧ Below w.heap.size w w' := by
  refine spec_DrawStackTimes.calls a ?_
  rw [spec_DrawStackTimes.E_s]
  exact c_bentOf ha hL fun s M w' hs hM hb => ⟨s, M, rfl, hs.row, by have := hM.1; omega, hb⟩
theorem c_DrawIsTwicePattern {w : World} {a : Sl} {L : List Int} (ha : RowB w a L) (hL : L.length < 2^60) :
    Calls PP F.spec_DrawIsTwicePattern #[a.v] w fun e w' => ∃ (s : Sl) (M : List Int), e = .returned s.v ∧ RowI w' s M ∧ M.length < 2^38 ∧ Below w.heap.size w w' := by
  refine spec_DrawIsTwicePattern.calls a ?_
  rw [spec_DrawIsTwicePattern.E_s]
  exact c_bentOf ha hL fun s M w' hs hM hb => ⟨s, M, rfl, hs.row, by have := hM.1; omega, hb⟩
theorem c_DrawIsStackSorted {w : World} {a : Sl} {L : List Int} (ha : RowB w a L) (hL : L.length < 2^60) :
    Calls PP F.spec_DrawIsStackSorted #[a.v] w fun e w' => ∃ (s : Sl) (M : List Int), e = .returned s.v ∧ RowI w' s M ∧ M.length < 2^38 ∧ Below w.heap.size w w' := by
  refine spec_DrawIsStackSorted.calls a ?_
  rw [spec_DrawIsStackSorted.E_s]
  refine (c_l1New ha hL).mono ?_
  rintro e w1 ⟨c, rfl, hc⟩
  refine ⟨some c, rfl, ?_⟩
  refine (c_l2Bent hc).mono ?_
  rintro e w2 ⟨s, M, rfl, hs, hM, hc2, hk2⟩
  refine ⟨s, rfl, ?_⟩
  have hl := hM.1
  refine (c_specNearestRestO hs.row (by omega)).mono ?_
  rintro e w3 ⟨t, rfl, ht, hb3⟩
  refine ⟨t, _, rfl, ?_⟩
  have hs3 := Own.grow hs hb3
  have hc3 := hc2.grow hb3
  refine bif_intro (fun h => ?_) (fun h => ?_)
  · refine (c_l1Once hc3 (n := 2) (by omega)).mono ?_
    rintro e w4 ⟨b, rfl, hc4, hk4⟩
    refine ⟨b, rfl, ?_⟩
    refine bif_intro (fun h => ?_) (fun h => ?_)
    · refine (c_l3Reverse (Own.curs ht hk4 hc2.lt.2).row (RestV_len _ _)).mono ?_
      rintro e w5 ⟨u, rfl, hu, hb5⟩
      refine ⟨u, rfl, u, _, rfl, hu.row, by rw [List.length_reverse]; exact RestV_len _ _, (hc4.grow hb5).below⟩
    · exact ⟨s, M, rfl, (Own.curs hs3 hk4 hc.lt.2).row, by omega, hc4.below⟩
  · exact ⟨s, M, rfl, hs3.row, by omega, hc3.below⟩
theorem c_DrawStackSources {w : World} {a : Sl} {L : List Int} (ha : RowB w a L) (hL : L.length < 2^60) :
    Calls PP F.spec_DrawStackSources #[a.v] w fun e w' => ∃ (s : Sl) (M : List Int), e = .returned s.v ∧ RowI w' s M ∧ M.length < 2^38 ∧ Below w.heap.size w w' := by
  refine spec_DrawStackSources.calls a ?_
  rw [spec_DrawStackSources.E_s]
  refine (c_l1New ha hL).mono ?_
  rintro e w1 ⟨c, rfl, hc⟩
  refine ⟨some c, rfl, ?_⟩
  refine (c_l1Below hc (n := 6) (by omega)).mono ?_
  rintro e w2 ⟨x, rfl, hx0, hx1, hc2, hk2⟩
  refine ⟨x, rfl, ?_⟩
  obtain ⟨n, rfl⟩ : ∃ n : Nat, x = n := ⟨x.toNat, by omega⟩
  refine (c_l2Draw hc2 (n := n) (by omega)).mono ?_
  rintro e w3 ⟨s, M, rfl, hs, hp, hc3, hk3⟩
  refine ⟨s, rfl, ?_⟩
  have hl : M.length = n := by rw [hp.length_eq, upTo_length]
  refine (c_l1Once hc3 (n := 2) (by omega)).mono ?_
  rintro e w4 ⟨b, rfl, hc4, hk4⟩
  refine ⟨b, rfl, ?_⟩
  have hs4 := Own.curs hs hk4 hc2.lt.2
  refine bif_intro (fun h => ?_) (fun h => ?_)
  · refine (c_l21Pass hs4.row (by omega)).mono ?_
    rintro e w5 ⟨u, rfl, hu, hb5⟩
    exact ⟨u, rfl, u, _, rfl, hu.row, by rw [passV_length]; omega, (hc4.grow hb5).below⟩
  · refine (c_l1Once hc4 (n := 8) (by omega)).mono ?_
    rintro e w5 ⟨b, rfl, hc5, hk5⟩
    refine ⟨b, rfl, ?_⟩
    refine bif_intro (fun h => ?_) (fun h => ?_)
    · refine (c_l2Bent hc5).mono ?_
      rintro e w6 ⟨u, U, rfl, hu, hU, hc6, hk6⟩
      have := hU.1
      exact ⟨u, rfl, u, U, rfl, hu.row, by omega, hc6.below⟩
    · exact ⟨s, M, rfl, (Own.curs hs4 hk5 hc2.lt.2).row, by omega, hc5.below⟩
theorem c_DrawCountTwoPasses {w : World} {a : Sl} {L : List Int} (ha : RowB w a L) (hL : L.length < 2^60) :
    Calls PP F.spec_DrawCountTwoPasses #[a.v] w fun e w' => ∃ n : Int, e = .returned (vI n) ∧ -1 ≤ n ∧ n ≤ 5 ∧ Below w.heap.size w w' := by
  refine spec_DrawCountTwoPasses.calls a ?_
  rw [spec_DrawCountTwoPasses.E_s]
  refine (c_l1New ha hL).mono ?_
  rintro e w1 ⟨c, rfl, hc⟩
  refine ⟨some c, rfl, ?_⟩
  refine (c_l1Below hc (n := 7) (by omega)).mono ?_
  rintro e w2 ⟨x, rfl, hx0, hx1, hc2, hk2⟩
  refine ⟨x, rfl, ?_⟩
  have ex := w64_id (n := x - 1) (by omega) (by omega)
  refine ⟨x - 1, ?_, by omega, by omega, hc2.below⟩
  rw [ex]

/-! ### The tail -/
def Good (w0 : World) (e : Ending) (w' : World) : Prop := e = .returned (.bool true) ∧ Below w0.heap.size w0 w'
theorem isP231 : IsP [2, 3, 1] := permsV_isP (n := 3) (by omega) (by decide)
theorem sorted_231 {Q : List Int} (h : IsP Q) : IsStackSortedV Q = !hasP Q [2, 3, 1] := by
  classical
  rw [IsStackSortedV, decide_eq_true h, Bool.true_and, Bool.eq_iff_iff, decide_eq_true_iff, sorted_iff (isP_nd h), Bool.not_eq_true', ← has231 (isP_nd h)]
  simp
theorem lawJ24 {w0 w : World} {q : Sl} {Q : List Int} (hb : Below w0.heap.size w0 w) (hq : RowI w q Q) (hql : Q.length < 2^38) : laws_FnStacks.J24 std q w (Good w0) := by
  rw [laws_FnStacks.J24_s]
  refine Quiet.call1 (s := .bool) (c_specIsPerm hq hql) ?_
  intro w_1 g1
  replace g1 : Below w.heap.size w w_1 := g1.below _
  have hb := hb.trans (g1.mono hb.size)
  have hq := hq.grow g1
  refine bif_intro (fun h => ⟨rfl, hb⟩) (fun h => ?_)
  have h : IsP Q := by simpa using h
  refine (c_implIsStackSorted hq hql).mono ?_
  rintro e w_2 ⟨rfl, g2⟩
  refine ⟨_, rfl, ?_⟩
  have hb := hb.trans (g2.mono hb.size)
  have hq := hq.grow g2
  refine litL (B := w_2.heap.size) (Nat.le_refl _) 3 _ [2, 3, 1] (by omega) rfl (by omega) (by kernel_rfl) ?_
  intro s w_3 hs g3
  have hb := hb.trans (g3.mono hb.size)
  have hq := hq.grow g3
  have hs := hs.row
  refine (c_specHasPattern hq hs hql (by simp)).mono ?_
  rintro e w_4 ⟨rfl, g4⟩
  refine ⟨_, rfl, ?_⟩
  have hb := hb.trans (g4.mono hb.size)
  have hq := hq.grow g4
  have hs := hs.grow g4
  refine ⟨?_, hb⟩
  rw [hasPV_eq h isP231, sorted_231 h]
  simp
theorem tm_law {T : List Int} (h : IsP T) (h0 : 0 < T.length) : StackTimesV T ≤ (T.length : Int) - 1 := by
  rw [StackTimesV, if_pos h]
  have := tm_short h h0
  omega
theorem lawJ22 {w0 w : World} {q t : Sl} {Q T : List Int} (hb : Below w0.heap.size w0 w) (hq : RowI w q Q) (hql : Q.length < 2^38) (ht : RowI w t T) (htl : T.length < 2^38) : laws_FnStacks.J22 std q t w (Good w0) := by
  have htn : t.n = T.length := by have := ht.n; simpa using this
  rw [laws_FnStacks.J22_s]
  refine Quiet.call1 (s := .bool) (c_specIsPerm ht htl) ?_
  intro w_5 g5
  replace g5 : Below w.heap.size w w_5 := g5.below _
  have hb := hb.trans (g5.mono hb.size)
  have hq := hq.grow g5
  have ht := ht.grow g5
  refine bif_intro (fun h => ?_) (fun h => ?_)
  · rw [htn]
    have h : IsP T := by simpa using h
    refine bif_dec (fun h2 => ?_) (fun h2 => ?_)
    · skip
      refine (c_implStackTimes ht htl).mono ?_
      rintro e w_6 ⟨rfl, g6⟩
      refine ⟨_, rfl, ?_⟩
      have hb := hb.trans (g6.mono hb.size)
      have hq := hq.grow g6
      have ht := ht.grow g6
      have h3 := tm_law h (by omega)
      show laws_FnStacks.J23 std _ _ _ _
      rw [laws_FnStacks.J23_s, w64_id (by omega) (by omega)]
      refine bif_f (by rw [decide_eq_false_iff_not]; omega) ?_
      exact lawJ24 hb hq hql
    · rw [laws_FnStacks.J23_s]
      refine bif_f rfl ?_
      exact lawJ24 hb hq hql
  · rw [laws_FnStacks.J23_s]
    refine bif_f rfl ?_
    exact lawJ24 hb hq hql
theorem twice_two {V : List Int} (h : IsP V) : IsTwicePatternV V = decide (StackTimesV V ≤ 2) := by
  classical
  have h1 := tm_le h (k := 2)
  have h2 : itW 2 V = passV (passV V) := rfl
  rw [h2, twice_says (isP_nd h)] at h1
  rw [IsTwicePatternV, StackTimesV, if_pos h, decide_eq_decide]
  constructor
  · rintro ⟨_, h3, h4⟩
    have := h1.2 ⟨h3, fun a b c d e1 e2 e3 e4 e5 e6 e7 e8 => h4 a b c d ⟨e1, e2, e3, e4, e5, e6, e7, e8⟩⟩
    omega
  · intro h3
    obtain ⟨h4, h5⟩ := h1.1 (by omega)
    exact ⟨h, h4, fun a b c d ⟨e1, e2, e3, e4, e5, e6, e7, e8⟩ => h5 a b c d e1 e2 e3 e4 e5 e6 e7 e8⟩
theorem lawJ20 {w0 w : World} {q t v : Sl} {Q T V : List Int} (hb : Below w0.heap.size w0 w) (hq : RowI w q Q) (hql : Q.length < 2^38) (ht : RowI w t T) (htl : T.length < 2^38) (hv : RowI w v V) (hvl : V.length < 2^38) : laws_FnStacks.J20 std q t v w (Good w0) := by
  rw [laws_FnStacks.J20_s]
  refine Quiet.call1 (s := .bool) (c_specIsPerm hv hvl) ?_
  intro w_7 g7
  replace g7 : Below w.heap.size w w_7 := g7.below _
  have hb := hb.trans (g7.mono hb.size)
  have hq := hq.grow g7
  have ht := ht.grow g7
  have hv := hv.grow g7
  refine bif_intro (fun h => ?_) (fun h => ?_)
  · have h : IsP V := by simpa using h
    refine (c_implIsTwicePattern hv hvl).mono ?_
    rintro e w_8 ⟨rfl, g8⟩
    refine ⟨_, rfl, ?_⟩
    have hb := hb.trans (g8.mono hb.size)
    have hq := hq.grow g8
    have ht := ht.grow g8
    have hv := hv.grow g8
    refine (c_implStackTimes hv hvl).mono ?_
    rintro e w_9 ⟨rfl, g9⟩
    refine ⟨_, rfl, ?_⟩
    have hb := hb.trans (g9.mono hb.size)
    have hq := hq.grow g9
    have ht := ht.grow g9
    have hv := hv.grow g9
    show laws_FnStacks.J21 std _ _ _ _ _
    rw [laws_FnStacks.J21_s]
    refine bif_f (by rw [twice_two h]; simp) ?_
    exact lawJ22 hb hq hql ht htl
  · rw [laws_FnStacks.J21_s]
    refine bif_f rfl ?_
    exact lawJ22 hb hq hql ht htl
theorem two_law {n : Int} (h1 : 1 ≤ n) (h2 : n ≤ 5) : CountTwoPassesV n = w64 ((w64 (2 * chV (w64 (3 * n)) n)).tdiv (w64 ((w64 (n + 1)) * (w64 ((w64 (2 * n)) + 1))))) ∧ w64 ((w64 (n + 1)) * (w64 ((w64 (2 * n)) + 1))) ≠ 0 := by
  have hv := two_values n.toNat (by omega) (by omega)
  rw [CountTwoPassesV, if_pos (by omega), twoW, two_count (by omega), hv]
  have : n = 1 ∨ n = 2 ∨ n = 3 ∨ n = 4 ∨ n = 5 := by omega
  rcases this with rfl | rfl | rfl | rfl | rfl <;> decide
theorem lawA14 {w0 w : World} {q t v : Sl} {Q T V : List Int} (hb : Below w0.heap.size w0 w) (hq : RowI w q Q) (hql : Q.length < 2^38) (ht : RowI w t T) (htl : T.length < 2^38) (hv : RowI w v V) (hvl : V.length < 2^38) (n : Int) (hn : n ≤ 5) :
    (bif decide (n ≥ 1) then (
      bif decide (n ≤ 6) then (
      call1 (.int .i64) PP F.impl_CountTwoPasses #[vI n] w fun (ρ34 : Int) ω35 =>
      call1 (.int .i64) PP F.spec_Choose #[vI (w64 (3 * n)), vI n] ω35 fun (ρ36 : Int) ω37 =>
      (w64 ((w64 (n + 1)) * (w64 ((w64 (2 * n)) + 1)))) ≠ (0 : Int) ∧
      laws_FnStacks.J19 std q t v (ρ34 != (w64 ((w64 (2 * ρ36)).tdiv (w64 ((w64 (n + 1)) * (w64 ((w64 (2 * n)) + 1))))))) ω37 (Good w0))
      else (
      laws_FnStacks.J19 std q t v false w (Good w0)))
      else (
      laws_FnStacks.J19 std q t v false w (Good w0))) := by
  have no : laws_FnStacks.J19 std q t v false w (Good w0) := by
    rw [laws_FnStacks.J19_s]
    refine bif_f rfl ?_
    exact lawJ20 hb hq hql ht htl hv hvl
  refine bif_dec (fun h1 => ?_) (fun _ => no)
  refine bif_dec (fun h2 => ?_) (fun _ => no)
  obtain ⟨e1, e2⟩ := two_law h1 hn
  refine (c_implCountTwoPasses n).mono ?_
  rintro e w_10 ⟨rfl, g10⟩
  refine ⟨_, rfl, ?_⟩
  have hb := hb.trans (g10.mono hb.size)
  have hq := hq.grow g10
  have ht := ht.grow g10
  have hv := hv.grow g10
  refine Pure.call1 (s := .int .i64) (c_specChoose _ _) ?_
  refine ⟨e2, ?_⟩
  rw [laws_FnStacks.J19_s]
  refine bif_f (by rw [e1]; simp) ?_
  exact lawJ20 hb hq hql ht htl hv hvl
theorem src_pass {R p : List Int} (h : p ∈ StackSourcesV R) : StackPassV p = R ∧ p.length < 2^38 := by
  unfold StackSourcesV at h
  split at h
  · rename_i hR
    obtain ⟨h1, h2⟩ := List.mem_filter.1 h
    have hp := permsV_isP (by have := hR.2; omega) h1
    have := hp.1
    exact ⟨by rw [StackPassV, if_pos hp]; exact of_decide_eq_true h2, by omega⟩
  · cases h
theorem lawJ13 {w0 w : World} {q t r l v : Sl} {Q T R V : List Int} (hb : Below w0.heap.size w0 w) (hq : RowI w q Q) (hql : Q.length < 2^38) (ht : RowI w t T) (htl : T.length < 2^38) (hv : RowI w v V) (hvl : V.length < 2^38)
    (hr : RowI w r R) (hrl : R.length < 2^38) (hl : RowSS w l (StackSourcesV R)) (n : Int) (hn : n ≤ 5) : laws_FnStacks.J13 std q t r l n v w (Good w0) := by
  have hln := hl.n
  have hll := (StackSourcesV_len R).1
  rw [laws_FnStacks.J13_s]
  refine laws_FnStacks.L14_rule _ _ _ _ _ _ _ _ _ (I := fun k w' => 0 ≤ k ∧ k ≤ (StackSourcesV R).length ∧ Below w.heap.size w w') (μ := fun k _ => ((StackSourcesV R).length - k).toNat) ⟨by omega, by omega, Below.refl _ _⟩ ?_
  rintro k w1 ⟨hk0, hk, hb1⟩
  have hq1 := hq.grow hb1
  have ht1 := ht.grow hb1
  have hv1 := hv.grow hb1
  have hr1 := hr.grow hb1
  have hl1 := hl.grow hb1
  rw [laws_FnStacks.B14_s, hln]
  refine bif_dec (fun h3 => ?_) (fun h3 => ?_)
  · have hlt : k.toNat < (StackSourcesV R).length := by omega
    refine RowSS.get hl1 hk0 (by omega) fun x hx => ?_
    rw [getD_SS hlt] at hx
    obtain ⟨e1, e2⟩ := src_pass (List.getElem_mem hlt)
    refine (c_implStackPass hx e2).mono ?_
    rintro e w2 ⟨s, rfl, hs, g2⟩
    refine ⟨s, rfl, ?_⟩
    rw [e1] at hs
    refine Quiet.call1 (s := .bool) (c_sameInts hs.row (hr1.grow g2) (by omega)) ?_
    intro w3 d3
    refine bif_f (by simp) ?_
    exact ⟨k + 1, by rw [w64_succ hk0 (by omega)], ⟨by omega, by omega, (hb1.trans (g2.mono hb1.size)).trans (d3.below _)⟩, by omega⟩
  · rw [laws_FnStacks.A14_0_s]
    exact lawA14 (hb.trans (hb1.mono hb.size)) hq1 hql ht1 htl hv1 hvl n hn
set_option maxHeartbeats 2000000 in
theorem lawC_FnStacks (a : Sl) (L : List Int) (w : World) (ha : RowB w a L) (_ : L.length ≤ maxLen) :
    Calls PP F.laws_FnStacks #[a.v] w fun e w' => e = .returned (.bool true) ∧ Below w.heap.size w w' := by
  refine laws_FnStacks.calls a ?_
  rw [laws_FnStacks.E_s]
  have hb : Below w.heap.size w w := Below.refl _ _
  refine Pure.pcall1 (s := .bool) (c_big a) ?_
  refine bif_dec (fun _ => ⟨rfl, hb⟩) (fun hbig => ?_)
  have hL : L.length < 2^60 := by have := ha.n; simp at this; omega
  refine (c_DrawStackPass ha hL).mono ?_
  rintro e w_11 ⟨p, P, rfl, hp, hpl, g11⟩
  refine ⟨p, rfl, ?_⟩
  have hb := hb.trans (g11.mono hb.size)
  have ha := ha.grow g11
  refine (c_implStackPass hp hpl).mono ?_
  rintro e w_12 ⟨s, rfl, hs, g12⟩
  refine ⟨s, rfl, ?_⟩
  have hb := hb.trans (g12.mono hb.size)
  have ha := ha.grow g12
  have hp := hp.grow g12
  have hs := hs.row
  refine (c_DrawIsStackSorted ha hL).mono ?_
  rintro e w_13 ⟨q, Q, rfl, hq, hql, g13⟩
  refine ⟨q, rfl, ?_⟩
  have hb := hb.trans (g13.mono hb.size)
  have ha := ha.grow g13
  have hp := hp.grow g13
  have hs := hs.grow g13
  refine (c_DrawStackTimes ha hL).mono ?_
  rintro e w_14 ⟨t, T, rfl, ht, htl, g14⟩
  refine ⟨t, rfl, ?_⟩
  have hb := hb.trans (g14.mono hb.size)
  have ha := ha.grow g14
  have hp := hp.grow g14
  have hs := hs.grow g14
  have hq := hq.grow g14
  refine (c_DrawStackSources ha hL).mono ?_
  rintro e w_15 ⟨r, R, rfl, hr, hrl, g15⟩
  refine ⟨r, rfl, ?_⟩
  have hb := hb.trans (g15.mono hb.size)
  have ha := ha.grow g15
  have hp := hp.grow g15
  have hs := hs.grow g15
  have hq := hq.grow g15
  have ht := ht.grow g15
  refine (c_implStackSources hr hrl).mono ?_
  rintro e w_16 ⟨l, rfl, hl, g16⟩
  refine ⟨l, rfl, ?_⟩
  have hb := hb.trans (g16.mono hb.size)
  have ha := ha.grow g16
  have hp := hp.grow g16
  have hs := hs.grow g16
  have hq := hq.grow g16
  have ht := ht.grow g16
  have hr := hr.grow g16
  have hl := hl.row
  refine (c_DrawCountTwoPasses ha hL).mono ?_
  rintro e w_17 ⟨n, rfl, hn0, hn1, g17⟩
  refine ⟨n, rfl, ?_⟩
  have hb := hb.trans (g17.mono hb.size)
  have ha := ha.grow g17
  have hp := hp.grow g17
  have hs := hs.grow g17
  have hq := hq.grow g17
  have ht := ht.grow g17
  have hr := hr.grow g17
  have hl := hl.grow g17
  refine (c_DrawIsTwicePattern ha hL).mono ?_
  rintro e w_18 ⟨v, V, rfl, hv, hvl, g18⟩
  refine ⟨v, rfl, ?_⟩
  have hb := hb.trans (g18.mono hb.size)
  have ha := ha.grow g18
  have hp := hp.grow g18
  have hs := hs.grow g18
  have hq := hq.grow g18
  have ht := ht.grow g18
  have hr := hr.grow g18
  have hl := hl.grow g18
  refine (c_specStackPass hp hpl).mono ?_
  rintro e w_19 ⟨s2, rfl, hs2, g19⟩
  refine ⟨s2, rfl, ?_⟩
  have hb := hb.trans (g19.mono hb.size)
  have hp := hp.grow g19
  have hs := hs.grow g19
  have hq := hq.grow g19
  have ht := ht.grow g19
  have hr := hr.grow g19
  have hl := hl.grow g19
  have hv := hv.grow g19
  have hsl := StackPassV_len P
  refine Quiet.call1 (s := .bool) (c_sameInts hs hs2 (by omega)) ?_
  intro w_20 g20
  replace g20 : Below w_19.heap.size w_19 w_20 := g20.below _
  have hb := hb.trans (g20.mono hb.size)
  have hp := hp.grow g20
  have hs := hs.grow g20
  have hq := hq.grow g20
  have ht := ht.grow g20
  have hr := hr.grow g20
  have hl := hl.grow g20
  have hv := hv.grow g20
  have hs2 := hs2.grow g20
  refine bif_f (by simp) ?_
  refine (c_implIsStackSorted hq hql).mono ?_
  rintro e w_21 ⟨rfl, g21⟩
  refine ⟨_, rfl, ?_⟩
  have hb := hb.trans (g21.mono hb.size)
  have hq := hq.grow g21
  have ht := ht.grow g21
  have hr := hr.grow g21
  have hl := hl.grow g21
  have hv := hv.grow g21
  refine (c_specIsStackSorted hq hql).mono ?_
  rintro e w_22 ⟨rfl, g22⟩
  refine ⟨_, rfl, ?_⟩
  have hb := hb.trans (g22.mono hb.size)
  have hq := hq.grow g22
  have ht := ht.grow g22
  have hr := hr.grow g22
  have hl := hl.grow g22
  have hv := hv.grow g22
  refine bif_f (by simp) ?_
  refine (c_implStackTimes ht htl).mono ?_
  rintro e w_23 ⟨rfl, g23⟩
  refine ⟨_, rfl, ?_⟩
  have hb := hb.trans (g23.mono hb.size)
  have hq := hq.grow g23
  have ht := ht.grow g23
  have hr := hr.grow g23
  have hl := hl.grow g23
  have hv := hv.grow g23
  refine (c_specStackTimes ht htl).mono ?_
  rintro e w_24 ⟨rfl, g24⟩
  refine ⟨_, rfl, ?_⟩
  have hb := hb.trans (g24.mono hb.size)
  have hq := hq.grow g24
  have ht := ht.grow g24
  have hr := hr.grow g24
  have hl := hl.grow g24
  have hv := hv.grow g24
  refine bif_f (by simp) ?_
  refine (c_specStackSources hr hrl).mono ?_
  rintro e w_25 ⟨l2, rfl, hl2, g25⟩
  refine ⟨l2, rfl, ?_⟩
  have hb := hb.trans (g25.mono hb.size)
  have hq := hq.grow g25
  have ht := ht.grow g25
  have hr := hr.grow g25
  have hl := hl.grow g25
  have hv := hv.grow g25
  obtain ⟨hll, hlt⟩ := StackSourcesV_len R
  refine Quiet.call1 (s := .bool) (c_sameLists hl hl2 (by omega) (by omega)) ?_
  intro w_26 g26
  replace g26 : Below w_25.heap.size w_25 w_26 := g26.below _
  have hb := hb.trans (g26.mono hb.size)
  have hq := hq.grow g26
  have ht := ht.grow g26
  have hr := hr.grow g26
  have hl := hl.grow g26
  have hv := hv.grow g26
  have hl2 := hl2.grow g26
  refine bif_f (by simp) ?_
  refine (c_implCountTwoPasses n).mono ?_
  rintro e w_27 ⟨rfl, g27⟩
  refine ⟨_, rfl, ?_⟩
  have hb := hb.trans (g27.mono hb.size)
  have hq := hq.grow g27
  have ht := ht.grow g27
  have hr := hr.grow g27
  have hl := hl.grow g27
  have hv := hv.grow g27
  refine (c_specCountTwoPasses n).mono ?_
  rintro e w_28 ⟨rfl, g28⟩
  refine ⟨_, rfl, ?_⟩
  have hb := hb.trans (g28.mono hb.size)
  have hq := hq.grow g28
  have ht := ht.grow g28
  have hr := hr.grow g28
  have hl := hl.grow g28
  have hv := hv.grow g28
  refine bif_f (by simp) ?_
  refine (c_implIsTwicePattern hv hvl).mono ?_
  rintro e w_29 ⟨rfl, g29⟩
  refine ⟨_, rfl, ?_⟩
  have hb := hb.trans (g29.mono hb.size)
  have hq := hq.grow g29
  have ht := ht.grow g29
  have hr := hr.grow g29
  have hl := hl.grow g29
  have hv := hv.grow g29
  refine (c_specIsTwicePattern hv hvl).mono ?_
  rintro e w_30 ⟨rfl, g30⟩
  refine ⟨_, rfl, ?_⟩
  have hb := hb.trans (g30.mono hb.size)
  have hq := hq.grow g30
  have ht := ht.grow g30
  have hr := hr.grow g30
  have hl := hl.grow g30
  have hv := hv.grow g30
  show laws_FnStacks.J12 std _ _ _ _ _ _ _ _ _
  rw [laws_FnStacks.J12_s]
  refine bif_f (by simp) ?_
  exact lawJ13 hb hq hql ht htl hv hvl hr hrl hl n hn1
end Go.Proofs.Ytdchjhhpbdekeaa
