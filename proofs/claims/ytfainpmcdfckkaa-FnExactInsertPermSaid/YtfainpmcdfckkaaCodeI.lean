/- What each function does, step by step, written by a program (Gen.lean); each equation is checked by the kernel. -/
import Derived.Test.YtfainpmcdfckkaaHead
namespace Go.Proofs.Ytfainpmcdfckkaa
open Go
set_option linter.unusedVariables false
set_option maxRecDepth 100000
namespace spec_l19Put
@[reducible] def cfg : Cfg := ⟨76, [(5, [0, 1, 6, 7]), (2, [0, 1, 6])], [(3, [0, 1, 6, 7]), (2, [0, 1, 6, 7]), (1, [0, 1, 6]), (0, [0, 1])], [], [4, 5], [], [91, 60, 17, 21, 24, 26, 65, 27, 82, 64, 85, 108, 78, 53, 51], [86, 52, 88]⟩
def q0 (pr : Prims) (R : Ending → World → Prop) : Exit → Env → World → Prop := fun ex e w => normQ ex (fun e w => contE pr cfg (sub (codeOf Try.f92) [1, 1]) (fun e w => wpC pr PP cfg (DD pr) (sub (codeOf Try.f92) [1, 1]) (retQ Try.f92.results.toList R) e w) e w) (retQ Try.f92.results.toList R) e w
def q1 (pr : Prims) (R : Ending → World → Prop) : Exit → Env → World → Prop := fun ex e w => blockQ ex 0 (q0 pr R) e w
def q2 (pr : Prims) (k : Env → World → Prop) (Q : Exit → Env → World → Prop) : Exit → Env → World → Prop := fun ex e w => normQ ex (fun e w => contE pr cfg (sub (codeOf Try.f92) [1, 0, 1, 0, 0, 1, 1]) (fun e w => wpC pr PP cfg (DD pr) (sub (codeOf Try.f92) [1, 0, 1, 0, 0, 1, 1]) (fun ex e w => normQ ex (fun e' w' => k (Env.restr e' (lookN cfg.loops (keyOf (sub (codeOf Try.f92) [1, 0, 1, 0, 0])))) w') Q e w) e w) e w) (fun ex e w => normQ ex (fun e' w' => k (Env.restr e' (lookN cfg.loops (keyOf (sub (codeOf Try.f92) [1, 0, 1, 0, 0])))) w') Q e w) e w
def q3 (pr : Prims) (k : Env → World → Prop) (Q : Exit → Env → World → Prop) : Exit → Env → World → Prop := fun ex e w => blockQ ex 1 (q2 pr k Q) e w
def q4 (pr : Prims) (k : Env → World → Prop) (Q : Exit → Env → World → Prop) : Exit → Env → World → Prop := fun ex e w => normQ ex (fun e w => contE pr cfg (sub (codeOf Try.f92) [1, 0, 1, 0, 0, 1, 0, 0, 1, 1]) (fun e w => wpC pr PP cfg (DD pr) (sub (codeOf Try.f92) [1, 0, 1, 0, 0, 1, 0, 0, 1, 1]) (q3 pr k Q) e w) e w) (q3 pr k Q) e w
def q5 (pr : Prims) (k : Env → World → Prop) (Q : Exit → Env → World → Prop) : Exit → Env → World → Prop := fun ex e w => blockQ ex 2 (q4 pr k Q) e w
def emb2 (t_0 : Sl) (n_1 : Int) (r_6 : Int) : Env := [(0, Sl.v t_0), (1, vI n_1), (6, vI r_6)]
def emb5 (t_0 : Sl) (n_1 : Int) (r_6 : Int) (c_7 : Int) : Env := [(0, Sl.v t_0), (1, vI n_1), (6, vI r_6), (7, vI c_7)]
def x2 (t_0 : Sl) (n_1 : Int) (r_6 : Int) (c_7 : Int) : Env := [(0, Sl.v t_0), (1, vI n_1), (6, vI r_6), (7, vI c_7)]
def x0 (t_0 : Sl) (n_1 : Int) : Env := [(0, Sl.v t_0), (1, vI n_1)]
def S5 (pr : Prims) (Q : Exit → Env → World → Prop) : (Env → World → Prop) → Env → World → Prop := fun k e w => wpC pr PP cfg (DD pr) (sub (codeOf Try.f92) [1, 0, 1, 0, 0, 1, 0, 0, 1, 0, 0, 0]) (fun ex e w => normQ ex (fun e' w' => k (Env.restr e' (lookN cfg.loops (keyOf (sub (codeOf Try.f92) [1, 0, 1, 0, 0, 1, 0, 0, 1, 0, 0, 0])))) w') Q e w) e w
def S2 (pr : Prims) (Q : Exit → Env → World → Prop) : (Env → World → Prop) → Env → World → Prop := fun k e w => wpC pr PP cfg (DD pr) (sub (codeOf Try.f92) [1, 0, 1, 0, 0]) (fun ex e w => normQ ex (fun e' w' => k (Env.restr e' (lookN cfg.loops (keyOf (sub (codeOf Try.f92) [1, 0, 1, 0, 0])))) w') Q e w) e w
def B5 (pr : Prims) (t_0 : Sl) (n_1 : Int) (r_6 : Int) (c_7 : Int) (w : World) (k : Env → World → Prop) (Q : Exit → Env → World → Prop) : Prop :=
  S5 pr Q k (emb5 t_0 n_1 r_6 c_7) w
def L5 (pr : Prims) (t_0 : Sl) (n_1 : Int) (r_6 : Int) (c_7 : Int) (w : World) (Q : Exit → Env → World → Prop) : Prop :=
  pr.loop (S5 pr Q) (emb5 t_0 n_1 r_6 c_7) w
def B2 (pr : Prims) (t_0 : Sl) (n_1 : Int) (r_6 : Int) (w : World) (k : Env → World → Prop) (Q : Exit → Env → World → Prop) : Prop :=
  S2 pr Q k (emb2 t_0 n_1 r_6) w
def L2 (pr : Prims) (t_0 : Sl) (n_1 : Int) (r_6 : Int) (w : World) (Q : Exit → Env → World → Prop) : Prop :=
  pr.loop (S2 pr Q) (emb2 t_0 n_1 r_6) w
def E (pr : Prims) (t_0 : Sl) (n_1 : Int) (w : World) (R : Ending → World → Prop) : Prop :=
  wpC pr PP cfg (DD pr) (codeOf Try.f92) (retQ Try.f92.results.toList R) (argE 0 [Sl.v t_0, vI n_1]) w
theorem B5_eq (pr : Prims) (t_0 : Sl) (n_1 : Int) (r_6 : Int) (c_7 : Int) (w : World) (k : Env → World → Prop) (Q : Exit → Env → World → Prop) : B5 pr t_0 n_1 r_6 c_7 w k Q = (
  pr.idxK 1 t_0 r_6 fun (a6 : Addr) =>
  pr.load1 .sl a6 w fun (ξ7 : Sl) =>
  bif decide (c_7 < (ξ7.n : Int)) then (
  pr.idxK 1 t_0 r_6 fun (a8 : Addr) =>
  pr.load1 .sl a8 w fun (ξ9 : Sl) =>
  pr.idxK 1 ξ9 c_7 fun (a10 : Addr) =>
  pr.load1 (.int .i64) a10 w fun (ξ11 : Int) =>
  bif decide (ξ11 < n_1) then (
  k (emb5 t_0 n_1 r_6 (w64 (c_7 + 1))) w)
  else (
  Q (.exit 2) (x2 t_0 n_1 r_6 c_7) w))
  else (
  Q (.exit 2) (x2 t_0 n_1 r_6 c_7) w)) := by kernel_rfl
theorem B5_s (t_0 : Sl) (n_1 : Int) (r_6 : Int) (c_7 : Int) (w : World) (k : Env → World → Prop) (Q : Exit → Env → World → Prop) : B5 std t_0 n_1 r_6 c_7 w k Q = (
  idxK 1 t_0 r_6 fun (a6 : Addr) =>
  load1 .sl a6 w fun (ξ7 : Sl) =>
  bif decide (c_7 < (ξ7.n : Int)) then (
  idxK 1 t_0 r_6 fun (a8 : Addr) =>
  load1 .sl a8 w fun (ξ9 : Sl) =>
  idxK 1 ξ9 c_7 fun (a10 : Addr) =>
  load1 (.int .i64) a10 w fun (ξ11 : Int) =>
  bif decide (ξ11 < n_1) then (
  k (emb5 t_0 n_1 r_6 (w64 (c_7 + 1))) w)
  else (
  Q (.exit 2) (x2 t_0 n_1 r_6 c_7) w))
  else (
  Q (.exit 2) (x2 t_0 n_1 r_6 c_7) w)) := B5_eq std t_0 n_1 r_6 c_7 w k Q
theorem L5_rule (t_0 : Sl) (n_1 : Int) (r_6 : Int) (c_7 : Int) (w : World) (Q : Exit → Env → World → Prop) (I : Int → World → Prop) (μ : Int → World → Nat) (h0 : I c_7 w)
    (h : ∀ (c_7 : Int) (w' : World), I c_7 w' → B5 std t_0 n_1 r_6 c_7 w' (fun e2 w2 => ∃ c_7_n, e2 = emb5 t_0 n_1 r_6 c_7_n ∧ I c_7_n w2 ∧ μ c_7_n w2 < μ c_7 w') Q) :
    L5 std t_0 n_1 r_6 c_7 w Q := by
  unfold L5
  refine LoopE.intro (σ := Int) (step := S5 std Q) (fun s => emb5 t_0 n_1 r_6 s) (fun s w => I s w) (fun s w => μ s w) c_7 rfl h0 ?_
  intro s w' hI
  have h1 := h s w' hI
  unfold B5 at h1
  exact h1
theorem A5_2_eq (pr : Prims) (t_0 : Sl) (n_1 : Int) (r_6 : Int) (c_7 : Int) (w : World) (k : Env → World → Prop) (Q : Exit → Env → World → Prop) : (q5 pr k Q) (.exit 2) (x2 t_0 n_1 r_6 c_7) w = (
  pr.idxK 1 t_0 r_6 fun (a12 : Addr) =>
  pr.load1 .sl a12 w fun (ξ13 : Sl) =>
  bif c_7 == (ξ13.n : Int) then (
  pr.idxK 1 t_0 r_6 fun (a14 : Addr) =>
  pr.load1 .sl a14 w fun (ξ15 : Sl) =>
  pr.sem1 .sl PP (Instr.buildSlice T_Sint 1 #[(0, vI n_1)]) w fun (ρ16 : Sl) ω17 =>
  pr.sem1 .sl PP (Builtin.append_ #[T_Sint, T_Sint] T_Sint #[Sl.v ξ15, Sl.v ρ16]) ω17 fun (ρ18 : Sl) ω19 =>
  pr.idxK 1 t_0 r_6 fun (a20 : Addr) =>
  pr.storeC a20 (Sl.v ρ18) ω19 fun ω21 =>
  Q .ret [(4, Sl.v t_0), (5, vI r_6)] ω21)
  else (
  pr.idxK 1 t_0 r_6 fun (a22 : Addr) =>
  pr.load1 .sl a22 w fun (ξ23 : Sl) =>
  pr.idxK 1 ξ23 c_7 fun (a24 : Addr) =>
  pr.load1 (.int .i64) a24 w fun (ξ25 : Int) =>
  pr.idxK 1 t_0 r_6 fun (a26 : Addr) =>
  pr.load1 .sl a26 w fun (ξ27 : Sl) =>
  pr.idxK 1 ξ27 c_7 fun (a28 : Addr) =>
  pr.storeC a28 (vI n_1) w fun ω29 =>
  k (emb2 t_0 ξ25 (w64 (r_6 + 1))) ω29)) := by kernel_rfl
theorem A5_2_s (t_0 : Sl) (n_1 : Int) (r_6 : Int) (c_7 : Int) (w : World) (k : Env → World → Prop) (Q : Exit → Env → World → Prop) : (q5 std k Q) (.exit 2) (x2 t_0 n_1 r_6 c_7) w = (
  idxK 1 t_0 r_6 fun (a12 : Addr) =>
  load1 .sl a12 w fun (ξ13 : Sl) =>
  bif c_7 == (ξ13.n : Int) then (
  idxK 1 t_0 r_6 fun (a14 : Addr) =>
  load1 .sl a14 w fun (ξ15 : Sl) =>
  sem1 .sl PP (Instr.buildSlice T_Sint 1 #[(0, vI n_1)]) w fun (ρ16 : Sl) ω17 =>
  sem1 .sl PP (Builtin.append_ #[T_Sint, T_Sint] T_Sint #[Sl.v ξ15, Sl.v ρ16]) ω17 fun (ρ18 : Sl) ω19 =>
  idxK 1 t_0 r_6 fun (a20 : Addr) =>
  storeC a20 (Sl.v ρ18) ω19 fun ω21 =>
  Q .ret [(4, Sl.v t_0), (5, vI r_6)] ω21)
  else (
  idxK 1 t_0 r_6 fun (a22 : Addr) =>
  load1 .sl a22 w fun (ξ23 : Sl) =>
  idxK 1 ξ23 c_7 fun (a24 : Addr) =>
  load1 (.int .i64) a24 w fun (ξ25 : Int) =>
  idxK 1 t_0 r_6 fun (a26 : Addr) =>
  load1 .sl a26 w fun (ξ27 : Sl) =>
  idxK 1 ξ27 c_7 fun (a28 : Addr) =>
  storeC a28 (vI n_1) w fun ω29 =>
  k (emb2 t_0 ξ25 (w64 (r_6 + 1))) ω29)) := A5_2_eq std t_0 n_1 r_6 c_7 w k Q
theorem B2_eq (pr : Prims) (t_0 : Sl) (n_1 : Int) (r_6 : Int) (w : World) (k : Env → World → Prop) (Q : Exit → Env → World → Prop) : B2 pr t_0 n_1 r_6 w k Q = (
  bif decide (r_6 < (t_0.n : Int)) then (
  L5 pr t_0 n_1 r_6 0 w (q5 pr k Q))
  else (
  Q (.exit 0) (x0 t_0 n_1) w)) := by kernel_rfl
theorem B2_s (t_0 : Sl) (n_1 : Int) (r_6 : Int) (w : World) (k : Env → World → Prop) (Q : Exit → Env → World → Prop) : B2 std t_0 n_1 r_6 w k Q = (
  bif decide (r_6 < (t_0.n : Int)) then (
  L5 std t_0 n_1 r_6 0 w (q5 std k Q))
  else (
  Q (.exit 0) (x0 t_0 n_1) w)) := B2_eq std t_0 n_1 r_6 w k Q
theorem L2_rule (t_0 : Sl) (n_1 : Int) (r_6 : Int) (w : World) (Q : Exit → Env → World → Prop) (I : Int → Int → World → Prop) (μ : Int → Int → World → Nat) (h0 : I n_1 r_6 w)
    (h : ∀ (n_1 : Int) (r_6 : Int) (w' : World), I n_1 r_6 w' → B2 std t_0 n_1 r_6 w' (fun e2 w2 => ∃ n_1_n r_6_n, e2 = emb2 t_0 n_1_n r_6_n ∧ I n_1_n r_6_n w2 ∧ μ n_1_n r_6_n w2 < μ n_1 r_6 w') Q) :
    L2 std t_0 n_1 r_6 w Q := by
  unfold L2
  refine LoopE.intro (σ := Int × Int) (step := S2 std Q) (fun s => emb2 t_0 s.1 s.2) (fun s w => I s.1 s.2 w) (fun s w => μ s.1 s.2 w) (n_1, r_6) rfl h0 ?_
  intro s w' hI
  have h1 := h s.1 s.2 w' hI
  unfold B2 at h1
  simp only [Prod.exists]
  exact h1
theorem A2_0_eq (pr : Prims) (t_0 : Sl) (n_1 : Int) (w : World) (R : Ending → World → Prop) : (q1 pr R) (.exit 0) (x0 t_0 n_1) w = (
  pr.sem1 .sl PP (Instr.buildSlice T_Sint 1 #[(0, vI n_1)]) w fun (ρ30 : Sl) ω31 =>
  pr.sem1 .sl PP (Instr.buildSlice T_SSint 1 #[(0, Sl.v ρ30)]) ω31 fun (ρ32 : Sl) ω33 =>
  pr.sem1 .sl PP (Builtin.append_ #[T_SSint, T_SSint] T_SSint #[Sl.v t_0, Sl.v ρ32]) ω33 fun (ρ34 : Sl) ω35 =>
  R (.returned (.tuple #[Sl.v ρ34, vI (t_0.n : Int)])) ω35) := by kernel_rfl
theorem A2_0_s (t_0 : Sl) (n_1 : Int) (w : World) (R : Ending → World → Prop) : (q1 std R) (.exit 0) (x0 t_0 n_1) w = (
  sem1 .sl PP (Instr.buildSlice T_Sint 1 #[(0, vI n_1)]) w fun (ρ30 : Sl) ω31 =>
  sem1 .sl PP (Instr.buildSlice T_SSint 1 #[(0, Sl.v ρ30)]) ω31 fun (ρ32 : Sl) ω33 =>
  sem1 .sl PP (Builtin.append_ #[T_SSint, T_SSint] T_SSint #[Sl.v t_0, Sl.v ρ32]) ω33 fun (ρ34 : Sl) ω35 =>
  R (.returned (.tuple #[Sl.v ρ34, vI (t_0.n : Int)])) ω35) := A2_0_eq std t_0 n_1 w R
theorem R2_eq (pr : Prims) (v4 : Value) (v5 : Value) (w : World) (R : Ending → World → Prop) : (q1 pr R) .ret [(4, v4), (5, v5)] w = (
  R (.returned (.tuple #[v4, v5])) w) := by kernel_rfl
theorem R2_s (v4 : Value) (v5 : Value) (w : World) (R : Ending → World → Prop) : (q1 std R) .ret [(4, v4), (5, v5)] w = (
  R (.returned (.tuple #[v4, v5])) w) := R2_eq std v4 v5 w R
theorem E_eq (pr : Prims) (t_0 : Sl) (n_1 : Int) (w : World) (R : Ending → World → Prop) : E pr t_0 n_1 w R = (
  L2 pr t_0 n_1 0 w (q1 pr R)) := by kernel_rfl
theorem E_s (t_0 : Sl) (n_1 : Int) (w : World) (R : Ending → World → Prop) : E std t_0 n_1 w R = (
  L2 std t_0 n_1 0 w (q1 std R)) := E_eq std t_0 n_1 w R
theorem drawsOk : drawsOk PP cfg okD (codeOf Try.f92) = true := by kernel_rfl
theorem calls (t_0 : Sl) (n_1 : Int) {w : World} {R : Ending → World → Prop} (h : E std t_0 n_1 w R) : Calls PP F.spec_l19Put #[Sl.v t_0, vI n_1] w R :=
  calls_of noCount mixed drawOk Try.func92 rfl (c := cfg) (args := [Sl.v t_0, vI n_1]) rfl (Nat.le_of_ble_eq_true (by kernel_rfl)) drawsOk h
end spec_l19Put

namespace spec_l19Insert
@[reducible] def cfg : Cfg := ⟨46, [(4, [0, 4, 5, 6])], [(1, [0, 4, 5, 6]), (0, [4, 5])], [(10, [0, 4, 5, 6, 7])], [2, 3], [], [91, 60, 17, 21, 24, 26, 65, 27, 82, 64, 85, 108, 78, 53, 51], [86, 52, 88]⟩
def q4 (pr : Prims) (R : Ending → World → Prop) : Exit → Env → World → Prop := fun ex e w => normQ ex (fun e w => contE pr cfg (sub (codeOf Try.f61) [1, 1, 1, 1]) (fun e w => wpC pr PP cfg (DD pr) (sub (codeOf Try.f61) [1, 1, 1, 1]) (retQ Try.f61.results.toList R) e w) e w) (retQ Try.f61.results.toList R) e w
def q5 (pr : Prims) (R : Ending → World → Prop) : Exit → Env → World → Prop := fun ex e w => blockQ ex 0 (q4 pr R) e w
def q6 (pr : Prims) (k : Env → World → Prop) (Q : Exit → Env → World → Prop) : Exit → Env → World → Prop := fun ex e w => normQ ex (fun e w => contE pr cfg (sub (codeOf Try.f61) [1, 1, 1, 0, 1, 0, 0, 1, 1]) (fun e w => wpC pr PP cfg (DD pr) (sub (codeOf Try.f61) [1, 1, 1, 0, 1, 0, 0, 1, 1]) (fun ex e w => normQ ex (fun e' w' => k (Env.restr e' (lookN cfg.loops (keyOf (sub (codeOf Try.f61) [1, 1, 1, 0, 1, 0, 0])))) w') Q e w) e w) e w) (fun ex e w => normQ ex (fun e' w' => k (Env.restr e' (lookN cfg.loops (keyOf (sub (codeOf Try.f61) [1, 1, 1, 0, 1, 0, 0])))) w') Q e w) e w
def q7 (pr : Prims) (k : Env → World → Prop) (Q : Exit → Env → World → Prop) : Exit → Env → World → Prop := fun ex e w => blockQ ex 1 (q6 pr k Q) e w
def q13 (pr : Prims) (k : Env → World → Prop) (Q : Exit → Env → World → Prop) : Exit → Env → World → Prop := fun ex e w => normQ ex (fun e w => contE pr cfg (sub (codeOf Try.f61) [1, 1, 1, 0, 1, 0, 0, 1, 0, 0, 1, 1, 1]) (fun e w => wpC pr PP cfg (DD pr) (sub (codeOf Try.f61) [1, 1, 1, 0, 1, 0, 0, 1, 0, 0, 1, 1, 1]) (q7 pr k Q) e w) e w) (q7 pr k Q) e w
def emb4 (p_0 : Sl) (a_4 : Sl) (b_5 : Sl) (k_6 : Int) : Env := [(0, Sl.v p_0), (4, Sl.v a_4), (5, Sl.v b_5), (6, vI k_6)]
def j10 (p_0 : Sl) (a_4 : Sl) (b_5 : Sl) (k_6 : Int) (r_7 : Int) : Env := [(0, Sl.v p_0), (4, Sl.v a_4), (5, Sl.v b_5), (6, vI k_6), (7, vI r_7)]
def x0 (a_4 : Sl) (b_5 : Sl) : Env := [(4, Sl.v a_4), (5, Sl.v b_5)]
def S4 (pr : Prims) (Q : Exit → Env → World → Prop) : (Env → World → Prop) → Env → World → Prop := fun k e w => wpC pr PP cfg (DD pr) (sub (codeOf Try.f61) [1, 1, 1, 0, 1, 0, 0]) (fun ex e w => normQ ex (fun e' w' => k (Env.restr e' (lookN cfg.loops (keyOf (sub (codeOf Try.f61) [1, 1, 1, 0, 1, 0, 0])))) w') Q e w) e w
def J10 (pr : Prims) (p_0 : Sl) (a_4 : Sl) (b_5 : Sl) (k_6 : Int) (r_7 : Int) (w : World) (k : Env → World → Prop) (Q : Exit → Env → World → Prop) : Prop :=
  pr.seg (fun e w => wpC pr PP cfg (DD pr) (sub (codeOf Try.f61) [1, 1, 1, 0, 1, 0, 0, 1, 0, 0, 1, 1, 1]) (q7 pr k Q) e w) (j10 p_0 a_4 b_5 k_6 r_7) w
def B4 (pr : Prims) (p_0 : Sl) (a_4 : Sl) (b_5 : Sl) (k_6 : Int) (w : World) (k : Env → World → Prop) (Q : Exit → Env → World → Prop) : Prop :=
  S4 pr Q k (emb4 p_0 a_4 b_5 k_6) w
def L4 (pr : Prims) (p_0 : Sl) (a_4 : Sl) (b_5 : Sl) (k_6 : Int) (w : World) (Q : Exit → Env → World → Prop) : Prop :=
  pr.loop (S4 pr Q) (emb4 p_0 a_4 b_5 k_6) w
def E (pr : Prims) (p_0 : Sl) (w : World) (R : Ending → World → Prop) : Prop :=
  wpC pr PP cfg (DD pr) (codeOf Try.f61) (retQ Try.f61.results.toList R) (argE 0 [Sl.v p_0]) w
theorem J10_gen (pr : Prims) (p_0 : Sl) (a_4 : Sl) (b_5 : Sl) (k_6 : Int) (r_7 : Int) (w : World) (k : Env → World → Prop) (Q : Exit → Env → World → Prop) : wpC pr PP cfg (DD pr) (sub (codeOf Try.f61) [1, 1, 1, 0, 1, 0, 0, 1, 0, 0, 1, 1, 1]) (q7 pr k Q) (j10 p_0 a_4 b_5 k_6 r_7) w = (
  pr.idxK 1 b_5 r_7 fun (a20 : Addr) =>
  pr.load1 .sl a20 w fun (ξ21 : Sl) =>
  pr.sem1 .sl PP (Instr.buildSlice T_Sint 1 #[(0, vI (w64 (k_6 + 1)))]) w fun (ρ22 : Sl) ω23 =>
  pr.sem1 .sl PP (Builtin.append_ #[T_Sint, T_Sint] T_Sint #[Sl.v ξ21, Sl.v ρ22]) ω23 fun (ρ24 : Sl) ω25 =>
  pr.idxK 1 b_5 r_7 fun (a26 : Addr) =>
  pr.storeC a26 (Sl.v ρ24) ω25 fun ω27 =>
  k (emb4 p_0 a_4 b_5 (w64 (k_6 + 1))) ω27) := by kernel_rfl
theorem J10_s (p_0 : Sl) (a_4 : Sl) (b_5 : Sl) (k_6 : Int) (r_7 : Int) (w : World) (k : Env → World → Prop) (Q : Exit → Env → World → Prop) : J10 std p_0 a_4 b_5 k_6 r_7 w k Q = (
  idxK 1 b_5 r_7 fun (a20 : Addr) =>
  load1 .sl a20 w fun (ξ21 : Sl) =>
  sem1 .sl PP (Instr.buildSlice T_Sint 1 #[(0, vI (w64 (k_6 + 1)))]) w fun (ρ22 : Sl) ω23 =>
  sem1 .sl PP (Builtin.append_ #[T_Sint, T_Sint] T_Sint #[Sl.v ξ21, Sl.v ρ22]) ω23 fun (ρ24 : Sl) ω25 =>
  idxK 1 b_5 r_7 fun (a26 : Addr) =>
  storeC a26 (Sl.v ρ24) ω25 fun ω27 =>
  k (emb4 p_0 a_4 b_5 (w64 (k_6 + 1))) ω27) := J10_gen std p_0 a_4 b_5 k_6 r_7 w k Q
theorem B4_eq (pr : Prims) (p_0 : Sl) (a_4 : Sl) (b_5 : Sl) (k_6 : Int) (w : World) (k : Env → World → Prop) (Q : Exit → Env → World → Prop) : B4 pr p_0 a_4 b_5 k_6 w k Q = (
  bif decide (k_6 < (p_0.n : Int)) then (
  pr.idxK 1 p_0 k_6 fun (a8 : Addr) =>
  pr.load1 (.int .i64) a8 w fun (ξ9 : Int) =>
  pr.call2 .sl (.int .i64) PP F.spec_l19Put #[Sl.v a_4, vI ξ9] w fun (ρ10 : Sl) (ρ11 : Int) ω12 =>
  bif ρ11 == (b_5.n : Int) then (
  pr.sem1 .sl PP (Instr.buildSlice T_Sint 0 #[]) ω12 fun (ρ14 : Sl) ω15 =>
  pr.sem1 .sl PP (Instr.buildSlice T_SSint 1 #[(0, Sl.v ρ14)]) ω15 fun (ρ16 : Sl) ω17 =>
  pr.sem1 .sl PP (Builtin.append_ #[T_SSint, T_SSint] T_SSint #[Sl.v b_5, Sl.v ρ16]) ω17 fun (ρ18 : Sl) ω19 =>
  J10 pr p_0 ρ10 ρ18 k_6 ρ11 ω19 k Q)
  else (
  J10 pr p_0 ρ10 b_5 k_6 ρ11 ω12 k Q))
  else (
  Q (.exit 0) (x0 a_4 b_5) w)) := by kernel_rfl
theorem B4_s (p_0 : Sl) (a_4 : Sl) (b_5 : Sl) (k_6 : Int) (w : World) (k : Env → World → Prop) (Q : Exit → Env → World → Prop) : B4 std p_0 a_4 b_5 k_6 w k Q = (
  bif decide (k_6 < (p_0.n : Int)) then (
  idxK 1 p_0 k_6 fun (a8 : Addr) =>
  load1 (.int .i64) a8 w fun (ξ9 : Int) =>
  call2 .sl (.int .i64) PP F.spec_l19Put #[Sl.v a_4, vI ξ9] w fun (ρ10 : Sl) (ρ11 : Int) ω12 =>
  bif ρ11 == (b_5.n : Int) then (
  sem1 .sl PP (Instr.buildSlice T_Sint 0 #[]) ω12 fun (ρ14 : Sl) ω15 =>
  sem1 .sl PP (Instr.buildSlice T_SSint 1 #[(0, Sl.v ρ14)]) ω15 fun (ρ16 : Sl) ω17 =>
  sem1 .sl PP (Builtin.append_ #[T_SSint, T_SSint] T_SSint #[Sl.v b_5, Sl.v ρ16]) ω17 fun (ρ18 : Sl) ω19 =>
  J10 std p_0 ρ10 ρ18 k_6 ρ11 ω19 k Q)
  else (
  J10 std p_0 ρ10 b_5 k_6 ρ11 ω12 k Q))
  else (
  Q (.exit 0) (x0 a_4 b_5) w)) := B4_eq std p_0 a_4 b_5 k_6 w k Q
theorem L4_rule (p_0 : Sl) (a_4 : Sl) (b_5 : Sl) (k_6 : Int) (w : World) (Q : Exit → Env → World → Prop) (I : Sl → Sl → Int → World → Prop) (μ : Sl → Sl → Int → World → Nat) (h0 : I a_4 b_5 k_6 w)
    (h : ∀ (a_4 : Sl) (b_5 : Sl) (k_6 : Int) (w' : World), I a_4 b_5 k_6 w' → B4 std p_0 a_4 b_5 k_6 w' (fun e2 w2 => ∃ a_4_n b_5_n k_6_n, e2 = emb4 p_0 a_4_n b_5_n k_6_n ∧ I a_4_n b_5_n k_6_n w2 ∧ μ a_4_n b_5_n k_6_n w2 < μ a_4 b_5 k_6 w') Q) :
    L4 std p_0 a_4 b_5 k_6 w Q := by
  unfold L4
  refine LoopE.intro (σ := Sl × Sl × Int) (step := S4 std Q) (fun s => emb4 p_0 s.1 s.2.1 s.2.2) (fun s w => I s.1 s.2.1 s.2.2 w) (fun s w => μ s.1 s.2.1 s.2.2 w) (a_4, b_5, k_6) rfl h0 ?_
  intro s w' hI
  have h1 := h s.1 s.2.1 s.2.2 w' hI
  unfold B4 at h1
  simp only [Prod.exists]
  exact h1
theorem A4_0_eq (pr : Prims) (a_4 : Sl) (b_5 : Sl) (w : World) (R : Ending → World → Prop) : (q5 pr R) (.exit 0) (x0 a_4 b_5) w = (
  R (.returned (.tuple #[Sl.v a_4, Sl.v b_5])) w) := by kernel_rfl
theorem A4_0_s (a_4 : Sl) (b_5 : Sl) (w : World) (R : Ending → World → Prop) : (q5 std R) (.exit 0) (x0 a_4 b_5) w = (
  R (.returned (.tuple #[Sl.v a_4, Sl.v b_5])) w) := A4_0_eq std a_4 b_5 w R
theorem E_eq (pr : Prims) (p_0 : Sl) (w : World) (R : Ending → World → Prop) : E pr p_0 w R = (
  pr.sem1 .sl PP (Instr.buildSlice T_SSint 0 #[]) w fun (ρ0 : Sl) ω1 =>
  pr.sem1 .sl PP (Instr.buildSlice T_SSint 0 #[]) ω1 fun (ρ2 : Sl) ω3 =>
  L4 pr p_0 ρ0 ρ2 0 ω3 (q5 pr R)) := by kernel_rfl
theorem E_s (p_0 : Sl) (w : World) (R : Ending → World → Prop) : E std p_0 w R = (
  sem1 .sl PP (Instr.buildSlice T_SSint 0 #[]) w fun (ρ0 : Sl) ω1 =>
  sem1 .sl PP (Instr.buildSlice T_SSint 0 #[]) ω1 fun (ρ2 : Sl) ω3 =>
  L4 std p_0 ρ0 ρ2 0 ω3 (q5 std R)) := E_eq std p_0 w R
theorem drawsOk : drawsOk PP cfg okD (codeOf Try.f61) = true := by kernel_rfl
theorem calls (p_0 : Sl) {w : World} {R : Ending → World → Prop} (h : E std p_0 w R) : Calls PP F.spec_l19Insert #[Sl.v p_0] w R :=
  calls_of noCount mixed drawOk Try.func61 rfl (c := cfg) (args := [Sl.v p_0]) rfl (Nat.le_of_ble_eq_true (by kernel_rfl)) drawsOk h
end spec_l19Insert

namespace spec_InsertPerm
@[reducible] def cfg : Cfg := ⟨19, [], [], [], [2, 3, 4], [], [91, 60, 17, 21, 24, 26, 65, 27, 82, 64, 85, 108, 78, 53, 51], [86, 52, 88]⟩
def E (pr : Prims) (p_0 : Sl) (w : World) (R : Ending → World → Prop) : Prop :=
  wpC pr PP cfg (DD pr) (codeOf Try.f22) (retQ Try.f22.results.toList R) (argE 0 [Sl.v p_0]) w
theorem E_eq (pr : Prims) (p_0 : Sl) (w : World) (R : Ending → World → Prop) : E pr p_0 w R = (
  pr.call1 .bool PP F.spec_IsPerm #[Sl.v p_0] w fun (ρ0 : Bool) ω1 =>
  bif !ρ0 then (
  pr.sem1 .sl PP (Instr.buildSlice T_SSint 0 #[]) ω1 fun (ρ2 : Sl) ω3 =>
  pr.sem1 .sl PP (Instr.buildSlice T_SSint 0 #[]) ω3 fun (ρ4 : Sl) ω5 =>
  R (.returned (.tuple #[Sl.v ρ2, Sl.v ρ4, .bool false])) ω5)
  else (
  pr.call2 .sl .sl PP F.spec_l19Insert #[Sl.v p_0] ω1 fun (ρ6 : Sl) (ρ7 : Sl) ω8 =>
  R (.returned (.tuple #[Sl.v ρ6, Sl.v ρ7, .bool true])) ω8)) := by kernel_rfl
theorem E_s (p_0 : Sl) (w : World) (R : Ending → World → Prop) : E std p_0 w R = (
  call1 .bool PP F.spec_IsPerm #[Sl.v p_0] w fun (ρ0 : Bool) ω1 =>
  bif !ρ0 then (
  sem1 .sl PP (Instr.buildSlice T_SSint 0 #[]) ω1 fun (ρ2 : Sl) ω3 =>
  sem1 .sl PP (Instr.buildSlice T_SSint 0 #[]) ω3 fun (ρ4 : Sl) ω5 =>
  R (.returned (.tuple #[Sl.v ρ2, Sl.v ρ4, .bool false])) ω5)
  else (
  call2 .sl .sl PP F.spec_l19Insert #[Sl.v p_0] ω1 fun (ρ6 : Sl) (ρ7 : Sl) ω8 =>
  R (.returned (.tuple #[Sl.v ρ6, Sl.v ρ7, .bool true])) ω8)) := E_eq std p_0 w R
theorem drawsOk : drawsOk PP cfg okD (codeOf Try.f22) = true := by kernel_rfl
theorem calls (p_0 : Sl) {w : World} {R : Ending → World → Prop} (h : E std p_0 w R) : Calls PP F.spec_InsertPerm #[Sl.v p_0] w R :=
  calls_of noCount mixed drawOk Try.func22 rfl (c := cfg) (args := [Sl.v p_0]) rfl (Nat.le_of_ble_eq_true (by kernel_rfl)) drawsOk h
end spec_InsertPerm

namespace impl_InsertPermL1
@[reducible] def cfg : Cfg := ⟨7, [], [], [], [3], [], [91, 60, 17, 21, 24, 26, 65, 27, 82, 64, 85, 108, 78, 53, 51], [86, 52, 88]⟩
def E (pr : Prims) (w_0 : Int) (t1 : Addr) (w : World) (R : Ending → World → Prop) : Prop :=
  wpC pr PP cfg (DD pr) (codeOf Try.f64) (retQ Try.f64.results.toList R) (argE 0 [vI w_0, .pointer (some t1)]) w
theorem E_eq (pr : Prims) (w_0 : Int) (t1 : Addr) (w : World) (R : Ending → World → Prop) : E pr w_0 t1 w R = (
  pr.load1 (.int .i64) t1 w fun (ξ0 : Int) =>
  R (.returned (.bool (decide (w_0 > ξ0)))) w) := by kernel_rfl
theorem E_s (w_0 : Int) (t1 : Addr) (w : World) (R : Ending → World → Prop) : E std w_0 t1 w R = (
  load1 (.int .i64) t1 w fun (ξ0 : Int) =>
  R (.returned (.bool (decide (w_0 > ξ0)))) w) := E_eq std w_0 t1 w R
theorem drawsOk : drawsOk PP cfg okD (codeOf Try.f64) = true := by kernel_rfl
theorem calls (w_0 : Int) (t1 : Addr) {w : World} {R : Ending → World → Prop} (h : E std w_0 t1 w R) : Calls PP F.impl_InsertPermL1 #[vI w_0, .pointer (some t1)] w R :=
  calls_of noCount mixed drawOk Try.func64 rfl (c := cfg) (args := [vI w_0, .pointer (some t1)]) rfl (Nat.le_of_ble_eq_true (by kernel_rfl)) drawsOk h
end impl_InsertPermL1

namespace laws_FnExactInsertPerm
@[reducible] def cfg : Cfg := ⟨130, [], [], [], [2], [], [91, 60, 17, 21, 24, 26, 65, 27, 82, 64, 85, 108, 78, 53, 51], [86, 52, 88]⟩
def E (pr : Prims) (aP_0 : Sl) (w : World) (R : Ending → World → Prop) : Prop :=
  wpC pr PP cfg (DD pr) (codeOf Try.f5) (retQ Try.f5.results.toList R) (argE 0 [Sl.v aP_0]) w
theorem E_eq (pr : Prims) (aP_0 : Sl) (w : World) (R : Ending → World → Prop) : E pr aP_0 w R = (
  bif decide ((aP_0.n : Int) > 1048576) then (
  R (.returned (.bool true)) w)
  else (
  pr.call1 .sl PP F.laws_toIntS #[Sl.v aP_0] w fun (ρ0 : Sl) ω1 =>
  pr.call3 .sl .sl .bool PP F.spec_InsertPerm #[Sl.v ρ0] ω1 fun (ρ2 : Sl) (ρ3 : Sl) (ρ4 : Bool) ω5 =>
  pr.call1 .sl PP F.laws_toIntS #[Sl.v aP_0] ω5 fun (ρ6 : Sl) ω7 =>
  pr.call3 .sl .sl .bool PP F.impl_InsertPerm #[Sl.v ρ6] ω7 fun (ρ8 : Sl) (ρ9 : Sl) (ρ10 : Bool) ω11 =>
  pr.call1 .bool PP F.laws_eqIntSS #[Sl.v ρ8, Sl.v ρ2] ω11 fun (ρ12 : Bool) ω13 =>
  bif !ρ12 then (
  R (.returned (.bool false)) ω13)
  else (
  pr.call1 .bool PP F.laws_eqIntSS #[Sl.v ρ9, Sl.v ρ3] ω13 fun (ρ14 : Bool) ω15 =>
  bif !ρ14 then (
  R (.returned (.bool false)) ω15)
  else (
  bif !(ρ10 == ρ4) then (
  R (.returned (.bool false)) ω15)
  else (
  pr.call1 .sl PP F.laws_toIntS #[Sl.v aP_0] ω15 fun (ρ16 : Sl) ω17 =>
  pr.call1 .bool PP F.laws_eqIntS #[Sl.v ρ6, Sl.v ρ16] ω17 fun (ρ18 : Bool) ω19 =>
  bif !ρ18 then (
  R (.returned (.bool false)) ω19)
  else (
  pr.call1 (.int .i64) PP F.laws_markIntS #[Sl.v ρ6, vI 1] ω19 fun (ρ20 : Int) ω21 =>
  bif decide (ρ20 < 0) then (
  R (.returned (.bool false)) ω21)
  else (
  pr.call1 .bool PP F.laws_eqIntSS #[Sl.v ρ8, Sl.v ρ2] ω21 fun (ρ22 : Bool) ω23 =>
  bif !ρ22 then (
  R (.returned (.bool false)) ω23)
  else (
  pr.call1 .bool PP F.laws_eqIntSS #[Sl.v ρ9, Sl.v ρ3] ω23 fun (ρ24 : Bool) ω25 =>
  bif !ρ24 then (
  R (.returned (.bool false)) ω25)
  else (
  bif !(ρ10 == ρ4) then (
  R (.returned (.bool false)) ω25)
  else (
  pr.call1 (.int .i64) PP F.laws_markIntSS #[Sl.v ρ8, vI 1] ω25 fun (ρ26 : Int) ω27 =>
  pr.call1 (.int .i64) PP F.laws_markIntSS #[Sl.v ρ9, vI ρ26] ω27 fun (ρ28 : Int) ω29 =>
  pr.call1 (.int .i64) PP F.laws_heldIntSS #[Sl.v ρ8, vI 1] ω29 fun (ρ30 : Int) ω31 =>
  bif decide (ρ30 < 0) then (
  R (.returned (.bool false)) ω31)
  else (
  pr.call1 (.int .i64) PP F.laws_heldIntSS #[Sl.v ρ9, vI ρ30] ω31 fun (ρ32 : Int) ω33 =>
  bif decide (ρ32 < 0) then (
  R (.returned (.bool false)) ω33)
  else (
  bif ρ32 != ρ28 then (
  R (.returned (.bool false)) ω33)
  else (
  pr.call1 .sl PP F.laws_toIntS #[Sl.v aP_0] ω33 fun (ρ34 : Sl) ω35 =>
  pr.call3 .sl .sl .bool PP F.impl_InsertPerm #[Sl.v ρ34] ω35 fun (ρ36 : Sl) (ρ37 : Sl) (ρ38 : Bool) ω39 =>
  pr.call1 .bool PP F.laws_eqIntSS #[Sl.v ρ36, Sl.v ρ2] ω39 fun (ρ40 : Bool) ω41 =>
  bif !ρ40 then (
  R (.returned (.bool false)) ω41)
  else (
  pr.call1 .bool PP F.laws_eqIntSS #[Sl.v ρ37, Sl.v ρ3] ω41 fun (ρ42 : Bool) ω43 =>
  bif !ρ42 then (
  R (.returned (.bool false)) ω43)
  else (
  bif !(ρ38 == ρ4) then (
  R (.returned (.bool false)) ω43)
  else (
  pr.call1 (.int .i64) PP F.laws_heldIntSS #[Sl.v ρ8, vI 1] ω43 fun (ρ44 : Int) ω45 =>
  bif decide (ρ44 < 0) then (
  R (.returned (.bool false)) ω45)
  else (
  pr.call1 (.int .i64) PP F.laws_heldIntSS #[Sl.v ρ9, vI ρ44] ω45 fun (ρ46 : Int) ω47 =>
  bif decide (ρ46 < 0) then (
  R (.returned (.bool false)) ω47)
  else (
  bif ρ46 != ρ28 then (
  R (.returned (.bool false)) ω47)
  else (
  R (.returned (.bool true)) ω47))))))))))))))))))) := by kernel_rfl
theorem E_s (aP_0 : Sl) (w : World) (R : Ending → World → Prop) : E std aP_0 w R = (
  bif decide ((aP_0.n : Int) > 1048576) then (
  R (.returned (.bool true)) w)
  else (
  call1 .sl PP F.laws_toIntS #[Sl.v aP_0] w fun (ρ0 : Sl) ω1 =>
  call3 .sl .sl .bool PP F.spec_InsertPerm #[Sl.v ρ0] ω1 fun (ρ2 : Sl) (ρ3 : Sl) (ρ4 : Bool) ω5 =>
  call1 .sl PP F.laws_toIntS #[Sl.v aP_0] ω5 fun (ρ6 : Sl) ω7 =>
  call3 .sl .sl .bool PP F.impl_InsertPerm #[Sl.v ρ6] ω7 fun (ρ8 : Sl) (ρ9 : Sl) (ρ10 : Bool) ω11 =>
  call1 .bool PP F.laws_eqIntSS #[Sl.v ρ8, Sl.v ρ2] ω11 fun (ρ12 : Bool) ω13 =>
  bif !ρ12 then (
  R (.returned (.bool false)) ω13)
  else (
  call1 .bool PP F.laws_eqIntSS #[Sl.v ρ9, Sl.v ρ3] ω13 fun (ρ14 : Bool) ω15 =>
  bif !ρ14 then (
  R (.returned (.bool false)) ω15)
  else (
  bif !(ρ10 == ρ4) then (
  R (.returned (.bool false)) ω15)
  else (
  call1 .sl PP F.laws_toIntS #[Sl.v aP_0] ω15 fun (ρ16 : Sl) ω17 =>
  call1 .bool PP F.laws_eqIntS #[Sl.v ρ6, Sl.v ρ16] ω17 fun (ρ18 : Bool) ω19 =>
  bif !ρ18 then (
  R (.returned (.bool false)) ω19)
  else (
  call1 (.int .i64) PP F.laws_markIntS #[Sl.v ρ6, vI 1] ω19 fun (ρ20 : Int) ω21 =>
  bif decide (ρ20 < 0) then (
  R (.returned (.bool false)) ω21)
  else (
  call1 .bool PP F.laws_eqIntSS #[Sl.v ρ8, Sl.v ρ2] ω21 fun (ρ22 : Bool) ω23 =>
  bif !ρ22 then (
  R (.returned (.bool false)) ω23)
  else (
  call1 .bool PP F.laws_eqIntSS #[Sl.v ρ9, Sl.v ρ3] ω23 fun (ρ24 : Bool) ω25 =>
  bif !ρ24 then (
  R (.returned (.bool false)) ω25)
  else (
  bif !(ρ10 == ρ4) then (
  R (.returned (.bool false)) ω25)
  else (
  call1 (.int .i64) PP F.laws_markIntSS #[Sl.v ρ8, vI 1] ω25 fun (ρ26 : Int) ω27 =>
  call1 (.int .i64) PP F.laws_markIntSS #[Sl.v ρ9, vI ρ26] ω27 fun (ρ28 : Int) ω29 =>
  call1 (.int .i64) PP F.laws_heldIntSS #[Sl.v ρ8, vI 1] ω29 fun (ρ30 : Int) ω31 =>
  bif decide (ρ30 < 0) then (
  R (.returned (.bool false)) ω31)
  else (
  call1 (.int .i64) PP F.laws_heldIntSS #[Sl.v ρ9, vI ρ30] ω31 fun (ρ32 : Int) ω33 =>
  bif decide (ρ32 < 0) then (
  R (.returned (.bool false)) ω33)
  else (
  bif ρ32 != ρ28 then (
  R (.returned (.bool false)) ω33)
  else (
  call1 .sl PP F.laws_toIntS #[Sl.v aP_0] ω33 fun (ρ34 : Sl) ω35 =>
  call3 .sl .sl .bool PP F.impl_InsertPerm #[Sl.v ρ34] ω35 fun (ρ36 : Sl) (ρ37 : Sl) (ρ38 : Bool) ω39 =>
  call1 .bool PP F.laws_eqIntSS #[Sl.v ρ36, Sl.v ρ2] ω39 fun (ρ40 : Bool) ω41 =>
  bif !ρ40 then (
  R (.returned (.bool false)) ω41)
  else (
  call1 .bool PP F.laws_eqIntSS #[Sl.v ρ37, Sl.v ρ3] ω41 fun (ρ42 : Bool) ω43 =>
  bif !ρ42 then (
  R (.returned (.bool false)) ω43)
  else (
  bif !(ρ38 == ρ4) then (
  R (.returned (.bool false)) ω43)
  else (
  call1 (.int .i64) PP F.laws_heldIntSS #[Sl.v ρ8, vI 1] ω43 fun (ρ44 : Int) ω45 =>
  bif decide (ρ44 < 0) then (
  R (.returned (.bool false)) ω45)
  else (
  call1 (.int .i64) PP F.laws_heldIntSS #[Sl.v ρ9, vI ρ44] ω45 fun (ρ46 : Int) ω47 =>
  bif decide (ρ46 < 0) then (
  R (.returned (.bool false)) ω47)
  else (
  bif ρ46 != ρ28 then (
  R (.returned (.bool false)) ω47)
  else (
  R (.returned (.bool true)) ω47))))))))))))))))))) := E_eq std aP_0 w R
theorem drawsOk : drawsOk PP cfg okD (codeOf Try.f5) = true := by kernel_rfl
theorem calls (aP_0 : Sl) {w : World} {R : Ending → World → Prop} (h : E std aP_0 w R) : Calls PP F.laws_FnExactInsertPerm #[Sl.v aP_0] w R :=
  calls_of noCount mixed drawOk Try.func5 rfl (c := cfg) (args := [Sl.v aP_0]) rfl (Nat.le_of_ble_eq_true (by kernel_rfl)) drawsOk h
end laws_FnExactInsertPerm

end Go.Proofs.Ytfainpmcdfckkaa
