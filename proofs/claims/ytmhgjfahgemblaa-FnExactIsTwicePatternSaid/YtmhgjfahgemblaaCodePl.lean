/- What each function does, step by step, written by a program (Gen.lean); each equation is checked by the kernel. -/
import Derived.Test.YtmhgjfahgemblaaHead
namespace Go.Proofs.Ytmhgjfahgemblaa
open Go
set_option linter.unusedVariables false
set_option maxRecDepth 100000
namespace impl_occurrences
@[reducible] def cfg : Cfg := ⟨29, [(3, [0, 1, 5, 13, 14, 15])], [(1, [0, 1, 5, 13, 14, 15]), (0, [5])], [], [4], [], [62, 10, 22, 58, 24, 44, 18, 70, 43, 85, 25, 71, 59, 37, 63], [82, 113, 102, 38, 103, 26, 60]⟩
def q2 (pr : Prims) (R : Ending → World → Prop) : Exit → Env → World → Prop := fun ex e w => normQ ex (fun e w => contE pr cfg (sub (codeOf Try.f34) [1, 1, 1]) (fun e w => wpC pr PP cfg (DD pr) (sub (codeOf Try.f34) [1, 1, 1]) (retQ Try.f34.results.toList R) e w) e w) (retQ Try.f34.results.toList R) e w
def q5 (pr : Prims) (R : Ending → World → Prop) : Exit → Env → World → Prop := fun ex e w => blockQ ex 0 (q2 pr R) e w
def emb3 (p_0 : Sl) (q_1 : Sl) (out_5 : Sl) (t13 : Sl) (t14 : Int) (t15 : Int) : Env := [(0, Sl.v p_0), (1, Sl.v q_1), (5, Sl.v out_5), (13, Sl.v t13), (14, vI t14), (15, vI t15)]
def x0 (out_5 : Sl) : Env := [(5, Sl.v out_5)]
def S3 (pr : Prims) (Q : Exit → Env → World → Prop) : (Env → World → Prop) → Env → World → Prop := fun k e w => wpC pr PP cfg (DD pr) (sub (codeOf Try.f34) [1, 1, 0, 1, 0, 0]) (fun ex e w => normQ ex (fun e' w' => k (Env.restr e' (lookN cfg.loops (keyOf (sub (codeOf Try.f34) [1, 1, 0, 1, 0, 0])))) w') Q e w) e w
def B3 (pr : Prims) (p_0 : Sl) (q_1 : Sl) (out_5 : Sl) (t13 : Sl) (t14 : Int) (t15 : Int) (w : World) (k : Env → World → Prop) (Q : Exit → Env → World → Prop) : Prop :=
  S3 pr Q k (emb3 p_0 q_1 out_5 t13 t14 t15) w
def L3 (pr : Prims) (p_0 : Sl) (q_1 : Sl) (out_5 : Sl) (t13 : Sl) (t14 : Int) (t15 : Int) (w : World) (Q : Exit → Env → World → Prop) : Prop :=
  pr.loop (S3 pr Q) (emb3 p_0 q_1 out_5 t13 t14 t15) w
def E (pr : Prims) (p_0 : Sl) (q_1 : Sl) (w : World) (R : Ending → World → Prop) : Prop :=
  wpC pr PP cfg (DD pr) (codeOf Try.f34) (retQ Try.f34.results.toList R) (argE 0 [Sl.v p_0, Sl.v q_1]) w
theorem B3_eq (pr : Prims) (p_0 : Sl) (q_1 : Sl) (out_5 : Sl) (t13 : Sl) (t14 : Int) (t15 : Int) (w : World) (k : Env → World → Prop) (Q : Exit → Env → World → Prop) : B3 pr p_0 q_1 out_5 t13 t14 t15 w k Q = (
  bif decide (t15 < t14) then (
  pr.idxK 1 t13 t15 fun (a6 : Addr) =>
  pr.load1 .sl a6 w fun (ξ7 : Sl) =>
  pr.call1 .bool PP F.impl_isOccurrence #[Sl.v p_0, Sl.v q_1, Sl.v ξ7] w fun (ρ8 : Bool) ω9 =>
  bif ρ8 then (
  pr.sem1 .sl PP (Instr.buildSlice T_SSint 1 #[(0, Sl.v ξ7)]) ω9 fun (ρ10 : Sl) ω11 =>
  pr.sem1 .sl PP (Builtin.append_ #[T_SSint, T_SSint] T_SSint #[Sl.v out_5, Sl.v ρ10]) ω11 fun (ρ12 : Sl) ω13 =>
  k (emb3 p_0 q_1 ρ12 t13 t14 (w64 (t15 + 1))) ω13)
  else (
  k (emb3 p_0 q_1 out_5 t13 t14 (w64 (t15 + 1))) ω9))
  else (
  Q (.exit 0) (x0 out_5) w)) := by kernel_rfl
theorem B3_s (p_0 : Sl) (q_1 : Sl) (out_5 : Sl) (t13 : Sl) (t14 : Int) (t15 : Int) (w : World) (k : Env → World → Prop) (Q : Exit → Env → World → Prop) : B3 std p_0 q_1 out_5 t13 t14 t15 w k Q = (
  bif decide (t15 < t14) then (
  idxK 1 t13 t15 fun (a6 : Addr) =>
  load1 .sl a6 w fun (ξ7 : Sl) =>
  call1 .bool PP F.impl_isOccurrence #[Sl.v p_0, Sl.v q_1, Sl.v ξ7] w fun (ρ8 : Bool) ω9 =>
  bif ρ8 then (
  sem1 .sl PP (Instr.buildSlice T_SSint 1 #[(0, Sl.v ξ7)]) ω9 fun (ρ10 : Sl) ω11 =>
  sem1 .sl PP (Builtin.append_ #[T_SSint, T_SSint] T_SSint #[Sl.v out_5, Sl.v ρ10]) ω11 fun (ρ12 : Sl) ω13 =>
  k (emb3 p_0 q_1 ρ12 t13 t14 (w64 (t15 + 1))) ω13)
  else (
  k (emb3 p_0 q_1 out_5 t13 t14 (w64 (t15 + 1))) ω9))
  else (
  Q (.exit 0) (x0 out_5) w)) := B3_eq std p_0 q_1 out_5 t13 t14 t15 w k Q
theorem L3_rule (p_0 : Sl) (q_1 : Sl) (out_5 : Sl) (t13 : Sl) (t14 : Int) (t15 : Int) (w : World) (Q : Exit → Env → World → Prop) (I : Sl → Int → World → Prop) (μ : Sl → Int → World → Nat) (h0 : I out_5 t15 w)
    (h : ∀ (out_5 : Sl) (t15 : Int) (w' : World), I out_5 t15 w' → B3 std p_0 q_1 out_5 t13 t14 t15 w' (fun e2 w2 => ∃ out_5_n t15_n, e2 = emb3 p_0 q_1 out_5_n t13 t14 t15_n ∧ I out_5_n t15_n w2 ∧ μ out_5_n t15_n w2 < μ out_5 t15 w') Q) :
    L3 std p_0 q_1 out_5 t13 t14 t15 w Q := by
  unfold L3
  refine LoopE.intro (σ := Sl × Int) (step := S3 std Q) (fun s => emb3 p_0 q_1 s.1 t13 t14 s.2) (fun s w => I s.1 s.2 w) (fun s w => μ s.1 s.2 w) (out_5, t15) rfl h0 ?_
  intro s w' hI
  have h1 := h s.1 s.2 w' hI
  unfold B3 at h1
  simp only [Prod.exists]
  exact h1
theorem A3_0_eq (pr : Prims) (out_5 : Sl) (w : World) (R : Ending → World → Prop) : (q5 pr R) (.exit 0) (x0 out_5) w = (
  R (.returned (Sl.v out_5)) w) := by kernel_rfl
theorem A3_0_s (out_5 : Sl) (w : World) (R : Ending → World → Prop) : (q5 std R) (.exit 0) (x0 out_5) w = (
  R (.returned (Sl.v out_5)) w) := A3_0_eq std out_5 w R
theorem E_eq (pr : Prims) (p_0 : Sl) (q_1 : Sl) (w : World) (R : Ending → World → Prop) : E pr p_0 q_1 w R = (
  pr.sem1 .sl PP (Instr.buildSlice T_SSint 0 #[]) w fun (ρ0 : Sl) ω1 =>
  pr.call1 .sl PP F.impl_places #[vI (p_0.n : Int), vI (q_1.n : Int)] ω1 fun (ρ3 : Sl) ω4 =>
  L3 pr p_0 q_1 ρ0 ρ3 (ρ3.n : Int) 0 ω4 (q5 pr R)) := by kernel_rfl
theorem E_s (p_0 : Sl) (q_1 : Sl) (w : World) (R : Ending → World → Prop) : E std p_0 q_1 w R = (
  sem1 .sl PP (Instr.buildSlice T_SSint 0 #[]) w fun (ρ0 : Sl) ω1 =>
  call1 .sl PP F.impl_places #[vI (p_0.n : Int), vI (q_1.n : Int)] ω1 fun (ρ3 : Sl) ω4 =>
  L3 std p_0 q_1 ρ0 ρ3 (ρ3.n : Int) 0 ω4 (q5 std R)) := E_eq std p_0 q_1 w R
theorem drawsOk : drawsOk PP cfg okD (codeOf Try.f34) = true := by kernel_rfl
theorem calls (p_0 : Sl) (q_1 : Sl) {w : World} {R : Ending → World → Prop} (h : E std p_0 q_1 w R) : Calls PP F.impl_occurrences #[Sl.v p_0, Sl.v q_1] w R :=
  calls_of noCount mixed drawOk Try.func34 rfl (c := cfg) (args := [Sl.v p_0, Sl.v q_1]) rfl (Nat.le_of_ble_eq_true (by kernel_rfl)) drawsOk h
end impl_occurrences

namespace impl_places
@[reducible] def cfg : Cfg := ⟨51, [(12, [0, 6, 8, 10, 13, 14, 17, 18, 19]), (6, [0, 6, 13, 14, 17, 18, 19]), (3, [0, 5, 13, 14])], [(5, [0, 6, 8, 10, 13, 14, 17, 18, 19]), (4, [0, 6, 13, 14, 17, 18, 19]), (3, [0, 6, 13, 14, 17, 18, 19]), (2, [0, 6, 13, 14]), (1, [0, 5, 13, 14]), (0, [5])], [(11, [0, 6, 8, 9, 13, 14, 17, 18, 19])], [4], [], [62, 10, 22, 58, 24, 44, 18, 70, 43, 85, 25, 71, 59, 37, 63], [82, 113, 102, 38, 103, 26, 60]⟩
def q4 (pr : Prims) (R : Ending → World → Prop) : Exit → Env → World → Prop := fun ex e w => normQ ex (fun e w => contE pr cfg (sub (codeOf Try.f66) [1, 1, 1]) (fun e w => wpC pr PP cfg (DD pr) (sub (codeOf Try.f66) [1, 1, 1]) (retQ Try.f66.results.toList R) e w) e w) (retQ Try.f66.results.toList R) e w
def q5 (pr : Prims) (R : Ending → World → Prop) : Exit → Env → World → Prop := fun ex e w => blockQ ex 0 (q4 pr R) e w
def q6 (pr : Prims) (k : Env → World → Prop) (Q : Exit → Env → World → Prop) : Exit → Env → World → Prop := fun ex e w => normQ ex (fun e w => contE pr cfg (sub (codeOf Try.f66) [1, 1, 0, 1, 0, 0, 1, 1, 1]) (fun e w => wpC pr PP cfg (DD pr) (sub (codeOf Try.f66) [1, 1, 0, 1, 0, 0, 1, 1, 1]) (fun ex e w => normQ ex (fun e' w' => k (Env.restr e' (lookN cfg.loops (keyOf (sub (codeOf Try.f66) [1, 1, 0, 1, 0, 0])))) w') Q e w) e w) e w) (fun ex e w => normQ ex (fun e' w' => k (Env.restr e' (lookN cfg.loops (keyOf (sub (codeOf Try.f66) [1, 1, 0, 1, 0, 0])))) w') Q e w) e w
def q7 (pr : Prims) (k : Env → World → Prop) (Q : Exit → Env → World → Prop) : Exit → Env → World → Prop := fun ex e w => blockQ ex 1 (q6 pr k Q) e w
def q10 (pr : Prims) (k : Env → World → Prop) (Q : Exit → Env → World → Prop) : Exit → Env → World → Prop := fun ex e w => normQ ex (fun e w => contE pr cfg (sub (codeOf Try.f66) [1, 1, 0, 1, 0, 0, 1, 1, 0, 0, 1, 1]) (fun e w => wpC pr PP cfg (DD pr) (sub (codeOf Try.f66) [1, 1, 0, 1, 0, 0, 1, 1, 0, 0, 1, 1]) (q7 pr k Q) e w) e w) (q7 pr k Q) e w
def q11 (pr : Prims) (k : Env → World → Prop) (Q : Exit → Env → World → Prop) : Exit → Env → World → Prop := fun ex e w => blockQ ex 2 (q10 pr k Q) e w
def q12 (pr : Prims) (k : Env → World → Prop) (Q : Exit → Env → World → Prop) : Exit → Env → World → Prop := fun ex e w => normQ ex (fun e w => contE pr cfg (sub (codeOf Try.f66) [1, 1, 0, 1, 0, 0, 1, 1, 0, 0, 1, 0, 1, 0, 0, 1, 1, 1]) (fun e w => wpC pr PP cfg (DD pr) (sub (codeOf Try.f66) [1, 1, 0, 1, 0, 0, 1, 1, 0, 0, 1, 0, 1, 0, 0, 1, 1, 1]) (fun ex e w => normQ ex (fun e' w' => k (Env.restr e' (lookN cfg.loops (keyOf (sub (codeOf Try.f66) [1, 1, 0, 1, 0, 0, 1, 1, 0, 0, 1, 0, 1, 0, 0])))) w') Q e w) e w) e w) (fun ex e w => normQ ex (fun e' w' => k (Env.restr e' (lookN cfg.loops (keyOf (sub (codeOf Try.f66) [1, 1, 0, 1, 0, 0, 1, 1, 0, 0, 1, 0, 1, 0, 0])))) w') Q e w) e w
def q13 (pr : Prims) (k : Env → World → Prop) (Q : Exit → Env → World → Prop) : Exit → Env → World → Prop := fun ex e w => blockQ ex 3 (q12 pr k Q) e w
def q16 (pr : Prims) (k : Env → World → Prop) (Q : Exit → Env → World → Prop) : Exit → Env → World → Prop := fun ex e w => normQ ex (fun e w => contE pr cfg (sub (codeOf Try.f66) [1, 1, 0, 1, 0, 0, 1, 1, 0, 0, 1, 0, 1, 0, 0, 1, 1, 0, 0, 1, 1, 1]) (fun e w => wpC pr PP cfg (DD pr) (sub (codeOf Try.f66) [1, 1, 0, 1, 0, 0, 1, 1, 0, 0, 1, 0, 1, 0, 0, 1, 1, 0, 0, 1, 1, 1]) (q13 pr k Q) e w) e w) (q13 pr k Q) e w
def q19 (pr : Prims) (k : Env → World → Prop) (Q : Exit → Env → World → Prop) : Exit → Env → World → Prop := fun ex e w => blockQ ex 4 (q13 pr k Q) e w
def emb3 (n_0 : Int) (out_5 : Sl) (t13 : Int) (t14 : Int) : Env := [(0, vI n_0), (5, Sl.v out_5), (13, vI t13), (14, vI t14)]
def emb6 (n_0 : Int) (longer_6 : Sl) (t13 : Int) (t14 : Int) (t17 : Sl) (t18 : Int) (t19 : Int) : Env := [(0, vI n_0), (6, Sl.v longer_6), (13, vI t13), (14, vI t14), (17, Sl.v t17), (18, vI t18), (19, vI t19)]
def j11 (n_0 : Int) (longer_6 : Sl) (list_8 : Sl) (from_9 : Int) (t13 : Int) (t14 : Int) (t17 : Sl) (t18 : Int) (t19 : Int) : Env := [(0, vI n_0), (6, Sl.v longer_6), (8, Sl.v list_8), (9, vI from_9), (13, vI t13), (14, vI t14), (17, Sl.v t17), (18, vI t18), (19, vI t19)]
def emb12 (n_0 : Int) (longer_6 : Sl) (list_8 : Sl) (i_10 : Int) (t13 : Int) (t14 : Int) (t17 : Sl) (t18 : Int) (t19 : Int) : Env := [(0, vI n_0), (6, Sl.v longer_6), (8, Sl.v list_8), (10, vI i_10), (13, vI t13), (14, vI t14), (17, Sl.v t17), (18, vI t18), (19, vI t19)]
def x4 (n_0 : Int) (longer_6 : Sl) (t13 : Int) (t14 : Int) (t17 : Sl) (t18 : Int) (t19 : Int) : Env := [(0, vI n_0), (6, Sl.v longer_6), (13, vI t13), (14, vI t14), (17, Sl.v t17), (18, vI t18), (19, vI t19)]
def x2 (n_0 : Int) (longer_6 : Sl) (t13 : Int) (t14 : Int) : Env := [(0, vI n_0), (6, Sl.v longer_6), (13, vI t13), (14, vI t14)]
def x0 (out_5 : Sl) : Env := [(5, Sl.v out_5)]
def S12 (pr : Prims) (Q : Exit → Env → World → Prop) : (Env → World → Prop) → Env → World → Prop := fun k e w => wpC pr PP cfg (DD pr) (sub (codeOf Try.f66) [1, 1, 0, 1, 0, 0, 1, 1, 0, 0, 1, 0, 1, 0, 0, 1, 1, 0, 0, 1, 1, 1, 1, 0, 0]) (fun ex e w => normQ ex (fun e' w' => k (Env.restr e' (lookN cfg.loops (keyOf (sub (codeOf Try.f66) [1, 1, 0, 1, 0, 0, 1, 1, 0, 0, 1, 0, 1, 0, 0, 1, 1, 0, 0, 1, 1, 1, 1, 0, 0])))) w') Q e w) e w
def S6 (pr : Prims) (Q : Exit → Env → World → Prop) : (Env → World → Prop) → Env → World → Prop := fun k e w => wpC pr PP cfg (DD pr) (sub (codeOf Try.f66) [1, 1, 0, 1, 0, 0, 1, 1, 0, 0, 1, 0, 1, 0, 0]) (fun ex e w => normQ ex (fun e' w' => k (Env.restr e' (lookN cfg.loops (keyOf (sub (codeOf Try.f66) [1, 1, 0, 1, 0, 0, 1, 1, 0, 0, 1, 0, 1, 0, 0])))) w') Q e w) e w
def S3 (pr : Prims) (Q : Exit → Env → World → Prop) : (Env → World → Prop) → Env → World → Prop := fun k e w => wpC pr PP cfg (DD pr) (sub (codeOf Try.f66) [1, 1, 0, 1, 0, 0]) (fun ex e w => normQ ex (fun e' w' => k (Env.restr e' (lookN cfg.loops (keyOf (sub (codeOf Try.f66) [1, 1, 0, 1, 0, 0])))) w') Q e w) e w
def B12 (pr : Prims) (n_0 : Int) (longer_6 : Sl) (list_8 : Sl) (i_10 : Int) (t13 : Int) (t14 : Int) (t17 : Sl) (t18 : Int) (t19 : Int) (w : World) (k : Env → World → Prop) (Q : Exit → Env → World → Prop) : Prop :=
  S12 pr Q k (emb12 n_0 longer_6 list_8 i_10 t13 t14 t17 t18 t19) w
def L12 (pr : Prims) (n_0 : Int) (longer_6 : Sl) (list_8 : Sl) (i_10 : Int) (t13 : Int) (t14 : Int) (t17 : Sl) (t18 : Int) (t19 : Int) (w : World) (Q : Exit → Env → World → Prop) : Prop :=
  pr.loop (S12 pr Q) (emb12 n_0 longer_6 list_8 i_10 t13 t14 t17 t18 t19) w
def J11 (pr : Prims) (n_0 : Int) (longer_6 : Sl) (list_8 : Sl) (from_9 : Int) (t13 : Int) (t14 : Int) (t17 : Sl) (t18 : Int) (t19 : Int) (w : World) (k : Env → World → Prop) (Q : Exit → Env → World → Prop) : Prop :=
  pr.seg (fun e w => wpC pr PP cfg (DD pr) (sub (codeOf Try.f66) [1, 1, 0, 1, 0, 0, 1, 1, 0, 0, 1, 0, 1, 0, 0, 1, 1, 0, 0, 1, 1, 1]) (q13 pr k Q) e w) (j11 n_0 longer_6 list_8 from_9 t13 t14 t17 t18 t19) w
def B6 (pr : Prims) (n_0 : Int) (longer_6 : Sl) (t13 : Int) (t14 : Int) (t17 : Sl) (t18 : Int) (t19 : Int) (w : World) (k : Env → World → Prop) (Q : Exit → Env → World → Prop) : Prop :=
  S6 pr Q k (emb6 n_0 longer_6 t13 t14 t17 t18 t19) w
def L6 (pr : Prims) (n_0 : Int) (longer_6 : Sl) (t13 : Int) (t14 : Int) (t17 : Sl) (t18 : Int) (t19 : Int) (w : World) (Q : Exit → Env → World → Prop) : Prop :=
  pr.loop (S6 pr Q) (emb6 n_0 longer_6 t13 t14 t17 t18 t19) w
def B3 (pr : Prims) (n_0 : Int) (out_5 : Sl) (t13 : Int) (t14 : Int) (w : World) (k : Env → World → Prop) (Q : Exit → Env → World → Prop) : Prop :=
  S3 pr Q k (emb3 n_0 out_5 t13 t14) w
def L3 (pr : Prims) (n_0 : Int) (out_5 : Sl) (t13 : Int) (t14 : Int) (w : World) (Q : Exit → Env → World → Prop) : Prop :=
  pr.loop (S3 pr Q) (emb3 n_0 out_5 t13 t14) w
def E (pr : Prims) (n_0 : Int) (k_1 : Int) (w : World) (R : Ending → World → Prop) : Prop :=
  wpC pr PP cfg (DD pr) (codeOf Try.f66) (retQ Try.f66.results.toList R) (argE 0 [vI n_0, vI k_1]) w
theorem B12_eq (pr : Prims) (n_0 : Int) (longer_6 : Sl) (list_8 : Sl) (i_10 : Int) (t13 : Int) (t14 : Int) (t17 : Sl) (t18 : Int) (t19 : Int) (w : World) (k : Env → World → Prop) (Q : Exit → Env → World → Prop) : B12 pr n_0 longer_6 list_8 i_10 t13 t14 t17 t18 t19 w k Q = (
  bif decide (i_10 ≤ n_0) then (
  pr.call1 .sl PP F.slices_Clone___int_int_ #[Sl.v list_8] w fun (ρ20 : Sl) ω21 =>
  pr.sem1 .sl PP (Instr.buildSlice T_Sint 1 #[(0, vI i_10)]) ω21 fun (ρ22 : Sl) ω23 =>
  pr.sem1 .sl PP (Builtin.append_ #[T_Sint, T_Sint] T_Sint #[Sl.v ρ20, Sl.v ρ22]) ω23 fun (ρ24 : Sl) ω25 =>
  pr.sem1 .sl PP (Instr.buildSlice T_SSint 1 #[(0, Sl.v ρ24)]) ω25 fun (ρ26 : Sl) ω27 =>
  pr.sem1 .sl PP (Builtin.append_ #[T_SSint, T_SSint] T_SSint #[Sl.v longer_6, Sl.v ρ26]) ω27 fun (ρ28 : Sl) ω29 =>
  k (emb12 n_0 ρ28 list_8 (w64 (i_10 + 1)) t13 t14 t17 t18 t19) ω29)
  else (
  Q (.exit 4) (x4 n_0 longer_6 t13 t14 t17 t18 t19) w)) := by kernel_rfl
theorem B12_s (n_0 : Int) (longer_6 : Sl) (list_8 : Sl) (i_10 : Int) (t13 : Int) (t14 : Int) (t17 : Sl) (t18 : Int) (t19 : Int) (w : World) (k : Env → World → Prop) (Q : Exit → Env → World → Prop) : B12 std n_0 longer_6 list_8 i_10 t13 t14 t17 t18 t19 w k Q = (
  bif decide (i_10 ≤ n_0) then (
  call1 .sl PP F.slices_Clone___int_int_ #[Sl.v list_8] w fun (ρ20 : Sl) ω21 =>
  sem1 .sl PP (Instr.buildSlice T_Sint 1 #[(0, vI i_10)]) ω21 fun (ρ22 : Sl) ω23 =>
  sem1 .sl PP (Builtin.append_ #[T_Sint, T_Sint] T_Sint #[Sl.v ρ20, Sl.v ρ22]) ω23 fun (ρ24 : Sl) ω25 =>
  sem1 .sl PP (Instr.buildSlice T_SSint 1 #[(0, Sl.v ρ24)]) ω25 fun (ρ26 : Sl) ω27 =>
  sem1 .sl PP (Builtin.append_ #[T_SSint, T_SSint] T_SSint #[Sl.v longer_6, Sl.v ρ26]) ω27 fun (ρ28 : Sl) ω29 =>
  k (emb12 n_0 ρ28 list_8 (w64 (i_10 + 1)) t13 t14 t17 t18 t19) ω29)
  else (
  Q (.exit 4) (x4 n_0 longer_6 t13 t14 t17 t18 t19) w)) := B12_eq std n_0 longer_6 list_8 i_10 t13 t14 t17 t18 t19 w k Q
theorem L12_rule (n_0 : Int) (longer_6 : Sl) (list_8 : Sl) (i_10 : Int) (t13 : Int) (t14 : Int) (t17 : Sl) (t18 : Int) (t19 : Int) (w : World) (Q : Exit → Env → World → Prop) (I : Sl → Int → World → Prop) (μ : Sl → Int → World → Nat) (h0 : I longer_6 i_10 w)
    (h : ∀ (longer_6 : Sl) (i_10 : Int) (w' : World), I longer_6 i_10 w' → B12 std n_0 longer_6 list_8 i_10 t13 t14 t17 t18 t19 w' (fun e2 w2 => ∃ longer_6_n i_10_n, e2 = emb12 n_0 longer_6_n list_8 i_10_n t13 t14 t17 t18 t19 ∧ I longer_6_n i_10_n w2 ∧ μ longer_6_n i_10_n w2 < μ longer_6 i_10 w') Q) :
    L12 std n_0 longer_6 list_8 i_10 t13 t14 t17 t18 t19 w Q := by
  unfold L12
  refine LoopE.intro (σ := Sl × Int) (step := S12 std Q) (fun s => emb12 n_0 s.1 list_8 s.2 t13 t14 t17 t18 t19) (fun s w => I s.1 s.2 w) (fun s w => μ s.1 s.2 w) (longer_6, i_10) rfl h0 ?_
  intro s w' hI
  have h1 := h s.1 s.2 w' hI
  unfold B12 at h1
  simp only [Prod.exists]
  exact h1
theorem A12_4_eq (pr : Prims) (n_0 : Int) (longer_6 : Sl) (t13 : Int) (t14 : Int) (t17 : Sl) (t18 : Int) (t19 : Int) (w : World) (k : Env → World → Prop) (Q : Exit → Env → World → Prop) : (q19 pr k Q) (.exit 4) (x4 n_0 longer_6 t13 t14 t17 t18 t19) w = (
  k (emb6 n_0 longer_6 t13 t14 t17 t18 (w64 (t19 + 1))) w) := by kernel_rfl
theorem A12_4_s (n_0 : Int) (longer_6 : Sl) (t13 : Int) (t14 : Int) (t17 : Sl) (t18 : Int) (t19 : Int) (w : World) (k : Env → World → Prop) (Q : Exit → Env → World → Prop) : (q19 std k Q) (.exit 4) (x4 n_0 longer_6 t13 t14 t17 t18 t19) w = (
  k (emb6 n_0 longer_6 t13 t14 t17 t18 (w64 (t19 + 1))) w) := A12_4_eq std n_0 longer_6 t13 t14 t17 t18 t19 w k Q
theorem J11_gen (pr : Prims) (n_0 : Int) (longer_6 : Sl) (list_8 : Sl) (from_9 : Int) (t13 : Int) (t14 : Int) (t17 : Sl) (t18 : Int) (t19 : Int) (w : World) (k : Env → World → Prop) (Q : Exit → Env → World → Prop) : wpC pr PP cfg (DD pr) (sub (codeOf Try.f66) [1, 1, 0, 1, 0, 0, 1, 1, 0, 0, 1, 0, 1, 0, 0, 1, 1, 0, 0, 1, 1, 1]) (q13 pr k Q) (j11 n_0 longer_6 list_8 from_9 t13 t14 t17 t18 t19) w = (
  L12 pr n_0 longer_6 list_8 from_9 t13 t14 t17 t18 t19 w (q19 pr k Q)) := by kernel_rfl
theorem J11_s (n_0 : Int) (longer_6 : Sl) (list_8 : Sl) (from_9 : Int) (t13 : Int) (t14 : Int) (t17 : Sl) (t18 : Int) (t19 : Int) (w : World) (k : Env → World → Prop) (Q : Exit → Env → World → Prop) : J11 std n_0 longer_6 list_8 from_9 t13 t14 t17 t18 t19 w k Q = (
  L12 std n_0 longer_6 list_8 from_9 t13 t14 t17 t18 t19 w (q19 std k Q)) := J11_gen std n_0 longer_6 list_8 from_9 t13 t14 t17 t18 t19 w k Q
theorem B6_eq (pr : Prims) (n_0 : Int) (longer_6 : Sl) (t13 : Int) (t14 : Int) (t17 : Sl) (t18 : Int) (t19 : Int) (w : World) (k : Env → World → Prop) (Q : Exit → Env → World → Prop) : B6 pr n_0 longer_6 t13 t14 t17 t18 t19 w k Q = (
  bif decide (t19 < t18) then (
  pr.idxK 1 t17 t19 fun (a14 : Addr) =>
  pr.load1 .sl a14 w fun (ξ15 : Sl) =>
  bif decide ((ξ15.n : Int) > 0) then (
  pr.idxK 1 ξ15 (w64 ((ξ15.n : Int) - 1)) fun (a17 : Addr) =>
  pr.load1 (.int .i64) a17 w fun (ξ18 : Int) =>
  J11 pr n_0 longer_6 ξ15 (w64 (ξ18 + 1)) t13 t14 t17 t18 t19 w k Q)
  else (
  J11 pr n_0 longer_6 ξ15 1 t13 t14 t17 t18 t19 w k Q))
  else (
  Q (.exit 2) (x2 n_0 longer_6 t13 t14) w)) := by kernel_rfl
theorem B6_s (n_0 : Int) (longer_6 : Sl) (t13 : Int) (t14 : Int) (t17 : Sl) (t18 : Int) (t19 : Int) (w : World) (k : Env → World → Prop) (Q : Exit → Env → World → Prop) : B6 std n_0 longer_6 t13 t14 t17 t18 t19 w k Q = (
  bif decide (t19 < t18) then (
  idxK 1 t17 t19 fun (a14 : Addr) =>
  load1 .sl a14 w fun (ξ15 : Sl) =>
  bif decide ((ξ15.n : Int) > 0) then (
  idxK 1 ξ15 (w64 ((ξ15.n : Int) - 1)) fun (a17 : Addr) =>
  load1 (.int .i64) a17 w fun (ξ18 : Int) =>
  J11 std n_0 longer_6 ξ15 (w64 (ξ18 + 1)) t13 t14 t17 t18 t19 w k Q)
  else (
  J11 std n_0 longer_6 ξ15 1 t13 t14 t17 t18 t19 w k Q))
  else (
  Q (.exit 2) (x2 n_0 longer_6 t13 t14) w)) := B6_eq std n_0 longer_6 t13 t14 t17 t18 t19 w k Q
theorem L6_rule (n_0 : Int) (longer_6 : Sl) (t13 : Int) (t14 : Int) (t17 : Sl) (t18 : Int) (t19 : Int) (w : World) (Q : Exit → Env → World → Prop) (I : Sl → Int → World → Prop) (μ : Sl → Int → World → Nat) (h0 : I longer_6 t19 w)
    (h : ∀ (longer_6 : Sl) (t19 : Int) (w' : World), I longer_6 t19 w' → B6 std n_0 longer_6 t13 t14 t17 t18 t19 w' (fun e2 w2 => ∃ longer_6_n t19_n, e2 = emb6 n_0 longer_6_n t13 t14 t17 t18 t19_n ∧ I longer_6_n t19_n w2 ∧ μ longer_6_n t19_n w2 < μ longer_6 t19 w') Q) :
    L6 std n_0 longer_6 t13 t14 t17 t18 t19 w Q := by
  unfold L6
  refine LoopE.intro (σ := Sl × Int) (step := S6 std Q) (fun s => emb6 n_0 s.1 t13 t14 t17 t18 s.2) (fun s w => I s.1 s.2 w) (fun s w => μ s.1 s.2 w) (longer_6, t19) rfl h0 ?_
  intro s w' hI
  have h1 := h s.1 s.2 w' hI
  unfold B6 at h1
  simp only [Prod.exists]
  exact h1
theorem A6_2_eq (pr : Prims) (n_0 : Int) (longer_6 : Sl) (t13 : Int) (t14 : Int) (w : World) (k : Env → World → Prop) (Q : Exit → Env → World → Prop) : (q11 pr k Q) (.exit 2) (x2 n_0 longer_6 t13 t14) w = (
  k (emb3 n_0 longer_6 t13 (w64 (t14 + 1))) w) := by kernel_rfl
theorem A6_2_s (n_0 : Int) (longer_6 : Sl) (t13 : Int) (t14 : Int) (w : World) (k : Env → World → Prop) (Q : Exit → Env → World → Prop) : (q11 std k Q) (.exit 2) (x2 n_0 longer_6 t13 t14) w = (
  k (emb3 n_0 longer_6 t13 (w64 (t14 + 1))) w) := A6_2_eq std n_0 longer_6 t13 t14 w k Q
theorem A6_4_eq (pr : Prims) (n_0 : Int) (longer_6 : Sl) (t13 : Int) (t14 : Int) (t17 : Sl) (t18 : Int) (t19 : Int) (w : World) (k : Env → World → Prop) (Q : Exit → Env → World → Prop) : (q11 pr k Q) (.exit 4) (x4 n_0 longer_6 t13 t14 t17 t18 t19) w = (
  Q (.exit 4) (x4 n_0 longer_6 t13 t14 t17 t18 t19) w) := by kernel_rfl
theorem A6_4_s (n_0 : Int) (longer_6 : Sl) (t13 : Int) (t14 : Int) (t17 : Sl) (t18 : Int) (t19 : Int) (w : World) (k : Env → World → Prop) (Q : Exit → Env → World → Prop) : (q11 std k Q) (.exit 4) (x4 n_0 longer_6 t13 t14 t17 t18 t19) w = (
  Q (.exit 4) (x4 n_0 longer_6 t13 t14 t17 t18 t19) w) := A6_4_eq std n_0 longer_6 t13 t14 t17 t18 t19 w k Q
theorem B3_eq (pr : Prims) (n_0 : Int) (out_5 : Sl) (t13 : Int) (t14 : Int) (w : World) (k : Env → World → Prop) (Q : Exit → Env → World → Prop) : B3 pr n_0 out_5 t13 t14 w k Q = (
  bif decide (t14 < t13) then (
  pr.sem1 .sl PP (Instr.buildSlice T_SSint 0 #[]) w fun (ρ8 : Sl) ω9 =>
  L6 pr n_0 ρ8 t13 t14 out_5 (out_5.n : Int) 0 ω9 (q11 pr k Q))
  else (
  Q (.exit 0) (x0 out_5) w)) := by kernel_rfl
theorem B3_s (n_0 : Int) (out_5 : Sl) (t13 : Int) (t14 : Int) (w : World) (k : Env → World → Prop) (Q : Exit → Env → World → Prop) : B3 std n_0 out_5 t13 t14 w k Q = (
  bif decide (t14 < t13) then (
  sem1 .sl PP (Instr.buildSlice T_SSint 0 #[]) w fun (ρ8 : Sl) ω9 =>
  L6 std n_0 ρ8 t13 t14 out_5 (out_5.n : Int) 0 ω9 (q11 std k Q))
  else (
  Q (.exit 0) (x0 out_5) w)) := B3_eq std n_0 out_5 t13 t14 w k Q
theorem L3_rule (n_0 : Int) (out_5 : Sl) (t13 : Int) (t14 : Int) (w : World) (Q : Exit → Env → World → Prop) (I : Sl → Int → World → Prop) (μ : Sl → Int → World → Nat) (h0 : I out_5 t14 w)
    (h : ∀ (out_5 : Sl) (t14 : Int) (w' : World), I out_5 t14 w' → B3 std n_0 out_5 t13 t14 w' (fun e2 w2 => ∃ out_5_n t14_n, e2 = emb3 n_0 out_5_n t13 t14_n ∧ I out_5_n t14_n w2 ∧ μ out_5_n t14_n w2 < μ out_5 t14 w') Q) :
    L3 std n_0 out_5 t13 t14 w Q := by
  unfold L3
  refine LoopE.intro (σ := Sl × Int) (step := S3 std Q) (fun s => emb3 n_0 s.1 t13 s.2) (fun s w => I s.1 s.2 w) (fun s w => μ s.1 s.2 w) (out_5, t14) rfl h0 ?_
  intro s w' hI
  have h1 := h s.1 s.2 w' hI
  unfold B3 at h1
  simp only [Prod.exists]
  exact h1
theorem A3_0_eq (pr : Prims) (out_5 : Sl) (w : World) (R : Ending → World → Prop) : (q5 pr R) (.exit 0) (x0 out_5) w = (
  R (.returned (Sl.v out_5)) w) := by kernel_rfl
theorem A3_0_s (out_5 : Sl) (w : World) (R : Ending → World → Prop) : (q5 std R) (.exit 0) (x0 out_5) w = (
  R (.returned (Sl.v out_5)) w) := A3_0_eq std out_5 w R
theorem E_eq (pr : Prims) (n_0 : Int) (k_1 : Int) (w : World) (R : Ending → World → Prop) : E pr n_0 k_1 w R = (
  pr.sem1 .sl PP (Instr.buildSlice T_Sint 0 #[]) w fun (ρ0 : Sl) ω1 =>
  pr.sem1 .sl PP (Instr.buildSlice T_SSint 1 #[(0, Sl.v ρ0)]) ω1 fun (ρ2 : Sl) ω3 =>
  L3 pr n_0 ρ2 k_1 0 ω3 (q5 pr R)) := by kernel_rfl
theorem E_s (n_0 : Int) (k_1 : Int) (w : World) (R : Ending → World → Prop) : E std n_0 k_1 w R = (
  sem1 .sl PP (Instr.buildSlice T_Sint 0 #[]) w fun (ρ0 : Sl) ω1 =>
  sem1 .sl PP (Instr.buildSlice T_SSint 1 #[(0, Sl.v ρ0)]) ω1 fun (ρ2 : Sl) ω3 =>
  L3 std n_0 ρ2 k_1 0 ω3 (q5 std R)) := E_eq std n_0 k_1 w R
theorem drawsOk : drawsOk PP cfg okD (codeOf Try.f66) = true := by kernel_rfl
theorem calls (n_0 : Int) (k_1 : Int) {w : World} {R : Ending → World → Prop} (h : E std n_0 k_1 w R) : Calls PP F.impl_places #[vI n_0, vI k_1] w R :=
  calls_of noCount mixed drawOk Try.func66 rfl (c := cfg) (args := [vI n_0, vI k_1]) rfl (Nat.le_of_ble_eq_true (by kernel_rfl)) drawsOk h
end impl_places

namespace impl_isOccurrence
@[reducible] def cfg : Cfg := ⟨30, [(3, [0, 1, 7, 11, 12, 13])], [(1, [0, 1, 7, 11, 12, 13]), (0, [1, 7])], [], [6], [], [62, 10, 22, 58, 24, 44, 18, 70, 43, 85, 25, 71, 59, 37, 63], [82, 113, 102, 38, 103, 26, 60]⟩
def q2 (pr : Prims) (R : Ending → World → Prop) : Exit → Env → World → Prop := fun ex e w => normQ ex (fun e w => contE pr cfg (sub (codeOf Try.f67) [1, 1, 1]) (fun e w => wpC pr PP cfg (DD pr) (sub (codeOf Try.f67) [1, 1, 1]) (retQ Try.f67.results.toList R) e w) e w) (retQ Try.f67.results.toList R) e w
def q3 (pr : Prims) (R : Ending → World → Prop) : Exit → Env → World → Prop := fun ex e w => blockQ ex 0 (q2 pr R) e w
def emb3 (p_0 : Sl) (q_1 : Sl) (list_7 : Sl) (t11 : Sl) (t12 : Int) (t13 : Int) : Env := [(0, Sl.v p_0), (1, Sl.v q_1), (7, Sl.v list_7), (11, Sl.v t11), (12, vI t12), (13, vI t13)]
def x0 (q_1 : Sl) (list_7 : Sl) : Env := [(1, Sl.v q_1), (7, Sl.v list_7)]
def S3 (pr : Prims) (Q : Exit → Env → World → Prop) : (Env → World → Prop) → Env → World → Prop := fun k e w => wpC pr PP cfg (DD pr) (sub (codeOf Try.f67) [1, 1, 0, 1, 0, 0]) (fun ex e w => normQ ex (fun e' w' => k (Env.restr e' (lookN cfg.loops (keyOf (sub (codeOf Try.f67) [1, 1, 0, 1, 0, 0])))) w') Q e w) e w
def B3 (pr : Prims) (p_0 : Sl) (q_1 : Sl) (list_7 : Sl) (t11 : Sl) (t12 : Int) (t13 : Int) (w : World) (k : Env → World → Prop) (Q : Exit → Env → World → Prop) : Prop :=
  S3 pr Q k (emb3 p_0 q_1 list_7 t11 t12 t13) w
def L3 (pr : Prims) (p_0 : Sl) (q_1 : Sl) (list_7 : Sl) (t11 : Sl) (t12 : Int) (t13 : Int) (w : World) (Q : Exit → Env → World → Prop) : Prop :=
  pr.loop (S3 pr Q) (emb3 p_0 q_1 list_7 t11 t12 t13) w
def E (pr : Prims) (p_0 : Sl) (q_1 : Sl) (places_2 : Sl) (w : World) (R : Ending → World → Prop) : Prop :=
  wpC pr PP cfg (DD pr) (codeOf Try.f67) (retQ Try.f67.results.toList R) (argE 0 [Sl.v p_0, Sl.v q_1, Sl.v places_2]) w
theorem B3_eq (pr : Prims) (p_0 : Sl) (q_1 : Sl) (list_7 : Sl) (t11 : Sl) (t12 : Int) (t13 : Int) (w : World) (k : Env → World → Prop) (Q : Exit → Env → World → Prop) : B3 pr p_0 q_1 list_7 t11 t12 t13 w k Q = (
  bif decide (t13 < t12) then (
  pr.idxK 1 t11 t13 fun (a4 : Addr) =>
  pr.load1 (.int .i64) a4 w fun (ξ5 : Int) =>
  pr.idxK 1 p_0 (w64 (ξ5 - 1)) fun (a6 : Addr) =>
  pr.load1 (.int .i64) a6 w fun (ξ7 : Int) =>
  pr.sem1 .sl PP (Instr.buildSlice T_Sint 1 #[(0, vI ξ7)]) w fun (ρ8 : Sl) ω9 =>
  pr.sem1 .sl PP (Builtin.append_ #[T_Sint, T_Sint] T_Sint #[Sl.v list_7, Sl.v ρ8]) ω9 fun (ρ10 : Sl) ω11 =>
  k (emb3 p_0 q_1 ρ10 t11 t12 (w64 (t13 + 1))) ω11)
  else (
  Q (.exit 0) (x0 q_1 list_7) w)) := by kernel_rfl
theorem B3_s (p_0 : Sl) (q_1 : Sl) (list_7 : Sl) (t11 : Sl) (t12 : Int) (t13 : Int) (w : World) (k : Env → World → Prop) (Q : Exit → Env → World → Prop) : B3 std p_0 q_1 list_7 t11 t12 t13 w k Q = (
  bif decide (t13 < t12) then (
  idxK 1 t11 t13 fun (a4 : Addr) =>
  load1 (.int .i64) a4 w fun (ξ5 : Int) =>
  idxK 1 p_0 (w64 (ξ5 - 1)) fun (a6 : Addr) =>
  load1 (.int .i64) a6 w fun (ξ7 : Int) =>
  sem1 .sl PP (Instr.buildSlice T_Sint 1 #[(0, vI ξ7)]) w fun (ρ8 : Sl) ω9 =>
  sem1 .sl PP (Builtin.append_ #[T_Sint, T_Sint] T_Sint #[Sl.v list_7, Sl.v ρ8]) ω9 fun (ρ10 : Sl) ω11 =>
  k (emb3 p_0 q_1 ρ10 t11 t12 (w64 (t13 + 1))) ω11)
  else (
  Q (.exit 0) (x0 q_1 list_7) w)) := B3_eq std p_0 q_1 list_7 t11 t12 t13 w k Q
theorem L3_rule (p_0 : Sl) (q_1 : Sl) (list_7 : Sl) (t11 : Sl) (t12 : Int) (t13 : Int) (w : World) (Q : Exit → Env → World → Prop) (I : Sl → Int → World → Prop) (μ : Sl → Int → World → Nat) (h0 : I list_7 t13 w)
    (h : ∀ (list_7 : Sl) (t13 : Int) (w' : World), I list_7 t13 w' → B3 std p_0 q_1 list_7 t11 t12 t13 w' (fun e2 w2 => ∃ list_7_n t13_n, e2 = emb3 p_0 q_1 list_7_n t11 t12 t13_n ∧ I list_7_n t13_n w2 ∧ μ list_7_n t13_n w2 < μ list_7 t13 w') Q) :
    L3 std p_0 q_1 list_7 t11 t12 t13 w Q := by
  unfold L3
  refine LoopE.intro (σ := Sl × Int) (step := S3 std Q) (fun s => emb3 p_0 q_1 s.1 t11 t12 s.2) (fun s w => I s.1 s.2 w) (fun s w => μ s.1 s.2 w) (list_7, t13) rfl h0 ?_
  intro s w' hI
  have h1 := h s.1 s.2 w' hI
  unfold B3 at h1
  simp only [Prod.exists]
  exact h1
theorem A3_0_eq (pr : Prims) (q_1 : Sl) (list_7 : Sl) (w : World) (R : Ending → World → Prop) : (q3 pr R) (.exit 0) (x0 q_1 list_7) w = (
  pr.call1 .sl PP F.impl_pattern #[Sl.v list_7] w fun (ρ12 : Sl) ω13 =>
  pr.call1 .bool PP F.slices_Equal___int_int_ #[Sl.v ρ12, Sl.v q_1] ω13 fun (ρ14 : Bool) ω15 =>
  R (.returned (.bool ρ14)) ω15) := by kernel_rfl
theorem A3_0_s (q_1 : Sl) (list_7 : Sl) (w : World) (R : Ending → World → Prop) : (q3 std R) (.exit 0) (x0 q_1 list_7) w = (
  call1 .sl PP F.impl_pattern #[Sl.v list_7] w fun (ρ12 : Sl) ω13 =>
  call1 .bool PP F.slices_Equal___int_int_ #[Sl.v ρ12, Sl.v q_1] ω13 fun (ρ14 : Bool) ω15 =>
  R (.returned (.bool ρ14)) ω15) := A3_0_eq std q_1 list_7 w R
theorem E_eq (pr : Prims) (p_0 : Sl) (q_1 : Sl) (places_2 : Sl) (w : World) (R : Ending → World → Prop) : E pr p_0 q_1 places_2 w R = (
  pr.sem1 .sl PP (Instr.buildSlice T_Sint 0 #[]) w fun (ρ0 : Sl) ω1 =>
  L3 pr p_0 q_1 ρ0 places_2 (places_2.n : Int) 0 ω1 (q3 pr R)) := by kernel_rfl
theorem E_s (p_0 : Sl) (q_1 : Sl) (places_2 : Sl) (w : World) (R : Ending → World → Prop) : E std p_0 q_1 places_2 w R = (
  sem1 .sl PP (Instr.buildSlice T_Sint 0 #[]) w fun (ρ0 : Sl) ω1 =>
  L3 std p_0 q_1 ρ0 places_2 (places_2.n : Int) 0 ω1 (q3 std R)) := E_eq std p_0 q_1 places_2 w R
theorem drawsOk : drawsOk PP cfg okD (codeOf Try.f67) = true := by kernel_rfl
theorem calls (p_0 : Sl) (q_1 : Sl) (places_2 : Sl) {w : World} {R : Ending → World → Prop} (h : E std p_0 q_1 places_2 w R) : Calls PP F.impl_isOccurrence #[Sl.v p_0, Sl.v q_1, Sl.v places_2] w R :=
  calls_of noCount mixed drawOk Try.func67 rfl (c := cfg) (args := [Sl.v p_0, Sl.v q_1, Sl.v places_2]) rfl (Nat.le_of_ble_eq_true (by kernel_rfl)) drawsOk h
end impl_isOccurrence

namespace impl_pattern
@[reducible] def cfg : Cfg := ⟨34, [(7, [0, 3, 5, 6, 10, 11, 12, 16, 17, 18]), (3, [0, 3, 10, 11, 12])], [(3, [0, 3, 5, 6, 10, 11, 12, 16, 17, 18]), (2, [0, 3, 6, 10, 11, 12]), (1, [0, 3, 10, 11, 12]), (0, [3])], [], [2], [], [62, 10, 22, 58, 24, 44, 18, 70, 43, 85, 25, 71, 59, 37, 63], [82, 113, 102, 38, 103, 26, 60]⟩
def q2 (pr : Prims) (R : Ending → World → Prop) : Exit → Env → World → Prop := fun ex e w => normQ ex (fun e w => contE pr cfg (sub (codeOf Try.f83) [1, 1, 1]) (fun e w => wpC pr PP cfg (DD pr) (sub (codeOf Try.f83) [1, 1, 1]) (retQ Try.f83.results.toList R) e w) e w) (retQ Try.f83.results.toList R) e w
def q3 (pr : Prims) (R : Ending → World → Prop) : Exit → Env → World → Prop := fun ex e w => blockQ ex 0 (q2 pr R) e w
def q4 (pr : Prims) (k : Env → World → Prop) (Q : Exit → Env → World → Prop) : Exit → Env → World → Prop := fun ex e w => normQ ex (fun e w => contE pr cfg (sub (codeOf Try.f83) [1, 1, 0, 1, 0, 0, 1, 1, 1]) (fun e w => wpC pr PP cfg (DD pr) (sub (codeOf Try.f83) [1, 1, 0, 1, 0, 0, 1, 1, 1]) (fun ex e w => normQ ex (fun e' w' => k (Env.restr e' (lookN cfg.loops (keyOf (sub (codeOf Try.f83) [1, 1, 0, 1, 0, 0])))) w') Q e w) e w) e w) (fun ex e w => normQ ex (fun e' w' => k (Env.restr e' (lookN cfg.loops (keyOf (sub (codeOf Try.f83) [1, 1, 0, 1, 0, 0])))) w') Q e w) e w
def q5 (pr : Prims) (k : Env → World → Prop) (Q : Exit → Env → World → Prop) : Exit → Env → World → Prop := fun ex e w => blockQ ex 1 (q4 pr k Q) e w
def q8 (pr : Prims) (k : Env → World → Prop) (Q : Exit → Env → World → Prop) : Exit → Env → World → Prop := fun ex e w => normQ ex (fun e w => contE pr cfg (sub (codeOf Try.f83) [1, 1, 0, 1, 0, 0, 1, 1, 0, 0, 1, 1, 1]) (fun e w => wpC pr PP cfg (DD pr) (sub (codeOf Try.f83) [1, 1, 0, 1, 0, 0, 1, 1, 0, 0, 1, 1, 1]) (q5 pr k Q) e w) e w) (q5 pr k Q) e w
def q9 (pr : Prims) (k : Env → World → Prop) (Q : Exit → Env → World → Prop) : Exit → Env → World → Prop := fun ex e w => blockQ ex 2 (q8 pr k Q) e w
def emb3 (list_0 : Sl) (out_3 : Sl) (t10 : Sl) (t11 : Int) (t12 : Int) : Env := [(0, Sl.v list_0), (3, Sl.v out_3), (10, Sl.v t10), (11, vI t11), (12, vI t12)]
def emb7 (list_0 : Sl) (out_3 : Sl) (x_5 : Int) (v_6 : Int) (t10 : Sl) (t11 : Int) (t12 : Int) (t16 : Sl) (t17 : Int) (t18 : Int) : Env := [(0, Sl.v list_0), (3, Sl.v out_3), (5, vI x_5), (6, vI v_6), (10, Sl.v t10), (11, vI t11), (12, vI t12), (16, Sl.v t16), (17, vI t17), (18, vI t18)]
def x2 (list_0 : Sl) (out_3 : Sl) (v_6 : Int) (t10 : Sl) (t11 : Int) (t12 : Int) : Env := [(0, Sl.v list_0), (3, Sl.v out_3), (6, vI v_6), (10, Sl.v t10), (11, vI t11), (12, vI t12)]
def x0 (out_3 : Sl) : Env := [(3, Sl.v out_3)]
def S7 (pr : Prims) (Q : Exit → Env → World → Prop) : (Env → World → Prop) → Env → World → Prop := fun k e w => wpC pr PP cfg (DD pr) (sub (codeOf Try.f83) [1, 1, 0, 1, 0, 0, 1, 1, 0, 0, 1, 1, 0, 1, 0, 0]) (fun ex e w => normQ ex (fun e' w' => k (Env.restr e' (lookN cfg.loops (keyOf (sub (codeOf Try.f83) [1, 1, 0, 1, 0, 0, 1, 1, 0, 0, 1, 1, 0, 1, 0, 0])))) w') Q e w) e w
def S3 (pr : Prims) (Q : Exit → Env → World → Prop) : (Env → World → Prop) → Env → World → Prop := fun k e w => wpC pr PP cfg (DD pr) (sub (codeOf Try.f83) [1, 1, 0, 1, 0, 0]) (fun ex e w => normQ ex (fun e' w' => k (Env.restr e' (lookN cfg.loops (keyOf (sub (codeOf Try.f83) [1, 1, 0, 1, 0, 0])))) w') Q e w) e w
def B7 (pr : Prims) (list_0 : Sl) (out_3 : Sl) (x_5 : Int) (v_6 : Int) (t10 : Sl) (t11 : Int) (t12 : Int) (t16 : Sl) (t17 : Int) (t18 : Int) (w : World) (k : Env → World → Prop) (Q : Exit → Env → World → Prop) : Prop :=
  S7 pr Q k (emb7 list_0 out_3 x_5 v_6 t10 t11 t12 t16 t17 t18) w
def L7 (pr : Prims) (list_0 : Sl) (out_3 : Sl) (x_5 : Int) (v_6 : Int) (t10 : Sl) (t11 : Int) (t12 : Int) (t16 : Sl) (t17 : Int) (t18 : Int) (w : World) (Q : Exit → Env → World → Prop) : Prop :=
  pr.loop (S7 pr Q) (emb7 list_0 out_3 x_5 v_6 t10 t11 t12 t16 t17 t18) w
def B3 (pr : Prims) (list_0 : Sl) (out_3 : Sl) (t10 : Sl) (t11 : Int) (t12 : Int) (w : World) (k : Env → World → Prop) (Q : Exit → Env → World → Prop) : Prop :=
  S3 pr Q k (emb3 list_0 out_3 t10 t11 t12) w
def L3 (pr : Prims) (list_0 : Sl) (out_3 : Sl) (t10 : Sl) (t11 : Int) (t12 : Int) (w : World) (Q : Exit → Env → World → Prop) : Prop :=
  pr.loop (S3 pr Q) (emb3 list_0 out_3 t10 t11 t12) w
def E (pr : Prims) (list_0 : Sl) (w : World) (R : Ending → World → Prop) : Prop :=
  wpC pr PP cfg (DD pr) (codeOf Try.f83) (retQ Try.f83.results.toList R) (argE 0 [Sl.v list_0]) w
theorem B7_eq (pr : Prims) (list_0 : Sl) (out_3 : Sl) (x_5 : Int) (v_6 : Int) (t10 : Sl) (t11 : Int) (t12 : Int) (t16 : Sl) (t17 : Int) (t18 : Int) (w : World) (k : Env → World → Prop) (Q : Exit → Env → World → Prop) : B7 pr list_0 out_3 x_5 v_6 t10 t11 t12 t16 t17 t18 w k Q = (
  bif decide (t18 < t17) then (
  pr.idxK 1 t16 t18 fun (a10 : Addr) =>
  pr.load1 (.int .i64) a10 w fun (ξ11 : Int) =>
  bif decide (ξ11 < x_5) then (
  k (emb7 list_0 out_3 x_5 (w64 (v_6 + 1)) t10 t11 t12 t16 t17 (w64 (t18 + 1))) w)
  else (
  k (emb7 list_0 out_3 x_5 v_6 t10 t11 t12 t16 t17 (w64 (t18 + 1))) w))
  else (
  Q (.exit 2) (x2 list_0 out_3 v_6 t10 t11 t12) w)) := by kernel_rfl
theorem B7_s (list_0 : Sl) (out_3 : Sl) (x_5 : Int) (v_6 : Int) (t10 : Sl) (t11 : Int) (t12 : Int) (t16 : Sl) (t17 : Int) (t18 : Int) (w : World) (k : Env → World → Prop) (Q : Exit → Env → World → Prop) : B7 std list_0 out_3 x_5 v_6 t10 t11 t12 t16 t17 t18 w k Q = (
  bif decide (t18 < t17) then (
  idxK 1 t16 t18 fun (a10 : Addr) =>
  load1 (.int .i64) a10 w fun (ξ11 : Int) =>
  bif decide (ξ11 < x_5) then (
  k (emb7 list_0 out_3 x_5 (w64 (v_6 + 1)) t10 t11 t12 t16 t17 (w64 (t18 + 1))) w)
  else (
  k (emb7 list_0 out_3 x_5 v_6 t10 t11 t12 t16 t17 (w64 (t18 + 1))) w))
  else (
  Q (.exit 2) (x2 list_0 out_3 v_6 t10 t11 t12) w)) := B7_eq std list_0 out_3 x_5 v_6 t10 t11 t12 t16 t17 t18 w k Q
theorem L7_rule (list_0 : Sl) (out_3 : Sl) (x_5 : Int) (v_6 : Int) (t10 : Sl) (t11 : Int) (t12 : Int) (t16 : Sl) (t17 : Int) (t18 : Int) (w : World) (Q : Exit → Env → World → Prop) (I : Int → Int → World → Prop) (μ : Int → Int → World → Nat) (h0 : I v_6 t18 w)
    (h : ∀ (v_6 : Int) (t18 : Int) (w' : World), I v_6 t18 w' → B7 std list_0 out_3 x_5 v_6 t10 t11 t12 t16 t17 t18 w' (fun e2 w2 => ∃ v_6_n t18_n, e2 = emb7 list_0 out_3 x_5 v_6_n t10 t11 t12 t16 t17 t18_n ∧ I v_6_n t18_n w2 ∧ μ v_6_n t18_n w2 < μ v_6 t18 w') Q) :
    L7 std list_0 out_3 x_5 v_6 t10 t11 t12 t16 t17 t18 w Q := by
  unfold L7
  refine LoopE.intro (σ := Int × Int) (step := S7 std Q) (fun s => emb7 list_0 out_3 x_5 s.1 t10 t11 t12 t16 t17 s.2) (fun s w => I s.1 s.2 w) (fun s w => μ s.1 s.2 w) (v_6, t18) rfl h0 ?_
  intro s w' hI
  have h1 := h s.1 s.2 w' hI
  unfold B7 at h1
  simp only [Prod.exists]
  exact h1
theorem A7_2_eq (pr : Prims) (list_0 : Sl) (out_3 : Sl) (v_6 : Int) (t10 : Sl) (t11 : Int) (t12 : Int) (w : World) (k : Env → World → Prop) (Q : Exit → Env → World → Prop) : (q9 pr k Q) (.exit 2) (x2 list_0 out_3 v_6 t10 t11 t12) w = (
  pr.sem1 .sl PP (Instr.buildSlice T_Sint 1 #[(0, vI v_6)]) w fun (ρ12 : Sl) ω13 =>
  pr.sem1 .sl PP (Builtin.append_ #[T_Sint, T_Sint] T_Sint #[Sl.v out_3, Sl.v ρ12]) ω13 fun (ρ14 : Sl) ω15 =>
  k (emb3 list_0 ρ14 t10 t11 (w64 (t12 + 1))) ω15) := by kernel_rfl
theorem A7_2_s (list_0 : Sl) (out_3 : Sl) (v_6 : Int) (t10 : Sl) (t11 : Int) (t12 : Int) (w : World) (k : Env → World → Prop) (Q : Exit → Env → World → Prop) : (q9 std k Q) (.exit 2) (x2 list_0 out_3 v_6 t10 t11 t12) w = (
  sem1 .sl PP (Instr.buildSlice T_Sint 1 #[(0, vI v_6)]) w fun (ρ12 : Sl) ω13 =>
  sem1 .sl PP (Builtin.append_ #[T_Sint, T_Sint] T_Sint #[Sl.v out_3, Sl.v ρ12]) ω13 fun (ρ14 : Sl) ω15 =>
  k (emb3 list_0 ρ14 t10 t11 (w64 (t12 + 1))) ω15) := A7_2_eq std list_0 out_3 v_6 t10 t11 t12 w k Q
theorem B3_eq (pr : Prims) (list_0 : Sl) (out_3 : Sl) (t10 : Sl) (t11 : Int) (t12 : Int) (w : World) (k : Env → World → Prop) (Q : Exit → Env → World → Prop) : B3 pr list_0 out_3 t10 t11 t12 w k Q = (
  bif decide (t12 < t11) then (
  pr.idxK 1 t10 t12 fun (a6 : Addr) =>
  pr.load1 (.int .i64) a6 w fun (ξ7 : Int) =>
  L7 pr list_0 out_3 ξ7 1 t10 t11 t12 list_0 (list_0.n : Int) 0 w (q9 pr k Q))
  else (
  Q (.exit 0) (x0 out_3) w)) := by kernel_rfl
theorem B3_s (list_0 : Sl) (out_3 : Sl) (t10 : Sl) (t11 : Int) (t12 : Int) (w : World) (k : Env → World → Prop) (Q : Exit → Env → World → Prop) : B3 std list_0 out_3 t10 t11 t12 w k Q = (
  bif decide (t12 < t11) then (
  idxK 1 t10 t12 fun (a6 : Addr) =>
  load1 (.int .i64) a6 w fun (ξ7 : Int) =>
  L7 std list_0 out_3 ξ7 1 t10 t11 t12 list_0 (list_0.n : Int) 0 w (q9 std k Q))
  else (
  Q (.exit 0) (x0 out_3) w)) := B3_eq std list_0 out_3 t10 t11 t12 w k Q
theorem L3_rule (list_0 : Sl) (out_3 : Sl) (t10 : Sl) (t11 : Int) (t12 : Int) (w : World) (Q : Exit → Env → World → Prop) (I : Sl → Int → World → Prop) (μ : Sl → Int → World → Nat) (h0 : I out_3 t12 w)
    (h : ∀ (out_3 : Sl) (t12 : Int) (w' : World), I out_3 t12 w' → B3 std list_0 out_3 t10 t11 t12 w' (fun e2 w2 => ∃ out_3_n t12_n, e2 = emb3 list_0 out_3_n t10 t11 t12_n ∧ I out_3_n t12_n w2 ∧ μ out_3_n t12_n w2 < μ out_3 t12 w') Q) :
    L3 std list_0 out_3 t10 t11 t12 w Q := by
  unfold L3
  refine LoopE.intro (σ := Sl × Int) (step := S3 std Q) (fun s => emb3 list_0 s.1 t10 t11 s.2) (fun s w => I s.1 s.2 w) (fun s w => μ s.1 s.2 w) (out_3, t12) rfl h0 ?_
  intro s w' hI
  have h1 := h s.1 s.2 w' hI
  unfold B3 at h1
  simp only [Prod.exists]
  exact h1
theorem A3_0_eq (pr : Prims) (out_3 : Sl) (w : World) (R : Ending → World → Prop) : (q3 pr R) (.exit 0) (x0 out_3) w = (
  R (.returned (Sl.v out_3)) w) := by kernel_rfl
theorem A3_0_s (out_3 : Sl) (w : World) (R : Ending → World → Prop) : (q3 std R) (.exit 0) (x0 out_3) w = (
  R (.returned (Sl.v out_3)) w) := A3_0_eq std out_3 w R
theorem E_eq (pr : Prims) (list_0 : Sl) (w : World) (R : Ending → World → Prop) : E pr list_0 w R = (
  pr.sem1 .sl PP (Instr.buildSlice T_Sint 0 #[]) w fun (ρ0 : Sl) ω1 =>
  L3 pr list_0 ρ0 list_0 (list_0.n : Int) 0 ω1 (q3 pr R)) := by kernel_rfl
theorem E_s (list_0 : Sl) (w : World) (R : Ending → World → Prop) : E std list_0 w R = (
  sem1 .sl PP (Instr.buildSlice T_Sint 0 #[]) w fun (ρ0 : Sl) ω1 =>
  L3 std list_0 ρ0 list_0 (list_0.n : Int) 0 ω1 (q3 std R)) := E_eq std list_0 w R
theorem drawsOk : drawsOk PP cfg okD (codeOf Try.f83) = true := by kernel_rfl
theorem calls (list_0 : Sl) {w : World} {R : Ending → World → Prop} (h : E std list_0 w R) : Calls PP F.impl_pattern #[Sl.v list_0] w R :=
  calls_of noCount mixed drawOk Try.func83 rfl (c := cfg) (args := [Sl.v list_0]) rfl (Nat.le_of_ble_eq_true (by kernel_rfl)) drawsOk h
end impl_pattern

end Go.Proofs.Ytmhgjfahgemblaa
