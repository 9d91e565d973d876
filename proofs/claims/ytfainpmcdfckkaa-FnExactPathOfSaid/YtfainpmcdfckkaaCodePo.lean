/- What each function does, step by step, written by a program (Gen.lean); each equation is checked by the kernel. -/
import Derived.Test.YtfainpmcdfckkaaHead
namespace Go.Proofs.Ytfainpmcdfckkaa
open Go
set_option linter.unusedVariables false
set_option maxRecDepth 100000
namespace impl_PathOf
@[reducible] def cfg : Cfg := ⟨58, [(10, [0, 4, 5, 7, 8, 19, 20, 21, 29, 30, 31]), (6, [0, 4, 5, 19, 20, 21])], [(3, [0, 4, 5, 7, 8, 19, 20, 21, 29, 30, 31]), (2, [0, 4, 5, 8, 19, 20, 21]), (1, [0, 4, 5, 19, 20, 21]), (0, [4])], [(17, [0, 4, 5, 8, 19, 20, 21])], [2, 3], [], [91, 60, 17, 21, 24, 26, 65, 27, 82, 64, 85, 108, 78, 53, 51], [86, 52, 88]⟩
def q6 (pr : Prims) (R : Ending → World → Prop) : Exit → Env → World → Prop := fun ex e w => normQ ex (fun e w => contE pr cfg (sub (codeOf Try.f43) [1, 1, 1, 1, 1]) (fun e w => wpC pr PP cfg (DD pr) (sub (codeOf Try.f43) [1, 1, 1, 1, 1]) (retQ Try.f43.results.toList R) e w) e w) (retQ Try.f43.results.toList R) e w
def q7 (pr : Prims) (R : Ending → World → Prop) : Exit → Env → World → Prop := fun ex e w => blockQ ex 0 (q6 pr R) e w
def q8 (pr : Prims) (k : Env → World → Prop) (Q : Exit → Env → World → Prop) : Exit → Env → World → Prop := fun ex e w => normQ ex (fun e w => contE pr cfg (sub (codeOf Try.f43) [1, 1, 1, 1, 0, 1, 0, 0, 1, 1, 1]) (fun e w => wpC pr PP cfg (DD pr) (sub (codeOf Try.f43) [1, 1, 1, 1, 0, 1, 0, 0, 1, 1, 1]) (fun ex e w => normQ ex (fun e' w' => k (Env.restr e' (lookN cfg.loops (keyOf (sub (codeOf Try.f43) [1, 1, 1, 1, 0, 1, 0, 0])))) w') Q e w) e w) e w) (fun ex e w => normQ ex (fun e' w' => k (Env.restr e' (lookN cfg.loops (keyOf (sub (codeOf Try.f43) [1, 1, 1, 1, 0, 1, 0, 0])))) w') Q e w) e w
def q9 (pr : Prims) (k : Env → World → Prop) (Q : Exit → Env → World → Prop) : Exit → Env → World → Prop := fun ex e w => blockQ ex 1 (q8 pr k Q) e w
def q12 (pr : Prims) (k : Env → World → Prop) (Q : Exit → Env → World → Prop) : Exit → Env → World → Prop := fun ex e w => normQ ex (fun e w => contE pr cfg (sub (codeOf Try.f43) [1, 1, 1, 1, 0, 1, 0, 0, 1, 1, 0, 0, 1, 1, 1]) (fun e w => wpC pr PP cfg (DD pr) (sub (codeOf Try.f43) [1, 1, 1, 1, 0, 1, 0, 0, 1, 1, 0, 0, 1, 1, 1]) (q9 pr k Q) e w) e w) (q9 pr k Q) e w
def q14 (pr : Prims) (k : Env → World → Prop) (Q : Exit → Env → World → Prop) : Exit → Env → World → Prop := fun ex e w => blockQ ex 2 (q12 pr k Q) e w
def q17 (pr : Prims) (k : Env → World → Prop) (Q : Exit → Env → World → Prop) : Exit → Env → World → Prop := fun ex e w => normQ ex (fun e w => contE pr cfg (sub (codeOf Try.f43) [1, 1, 1, 1, 0, 1, 0, 0, 1, 1, 0, 0, 1, 1, 1, 1]) (fun e w => wpC pr PP cfg (DD pr) (sub (codeOf Try.f43) [1, 1, 1, 1, 0, 1, 0, 0, 1, 1, 0, 0, 1, 1, 1, 1]) (q9 pr k Q) e w) e w) (q9 pr k Q) e w
def emb6 (p_0 : Sl) (out_4 : ByteArray) (h_5 : Int) (t19 : Sl) (t20 : Int) (t21 : Int) : Env := [(0, Sl.v p_0), (4, .string out_4), (5, vI h_5), (19, Sl.v t19), (20, vI t20), (21, vI t21)]
def emb10 (p_0 : Sl) (out_4 : ByteArray) (h_5 : Int) (v_7 : Int) (want_8 : Int) (t19 : Sl) (t20 : Int) (t21 : Int) (t29 : Sl) (t30 : Int) (t31 : Int) : Env := [(0, Sl.v p_0), (4, .string out_4), (5, vI h_5), (7, vI v_7), (8, vI want_8), (19, Sl.v t19), (20, vI t20), (21, vI t21), (29, Sl.v t29), (30, vI t30), (31, vI t31)]
def x2 (p_0 : Sl) (out_4 : ByteArray) (h_5 : Int) (want_8 : Int) (t19 : Sl) (t20 : Int) (t21 : Int) : Env := [(0, Sl.v p_0), (4, .string out_4), (5, vI h_5), (8, vI want_8), (19, Sl.v t19), (20, vI t20), (21, vI t21)]
def j17 (p_0 : Sl) (out_4 : ByteArray) (h_5 : Int) (want_8 : Int) (t19 : Sl) (t20 : Int) (t21 : Int) : Env := [(0, Sl.v p_0), (4, .string out_4), (5, vI h_5), (8, vI want_8), (19, Sl.v t19), (20, vI t20), (21, vI t21)]
def x0 (out_4 : ByteArray) : Env := [(4, .string out_4)]
def S10 (pr : Prims) (Q : Exit → Env → World → Prop) : (Env → World → Prop) → Env → World → Prop := fun k e w => wpC pr PP cfg (DD pr) (sub (codeOf Try.f43) [1, 1, 1, 1, 0, 1, 0, 0, 1, 1, 0, 0, 1, 1, 0, 1, 0, 0]) (fun ex e w => normQ ex (fun e' w' => k (Env.restr e' (lookN cfg.loops (keyOf (sub (codeOf Try.f43) [1, 1, 1, 1, 0, 1, 0, 0, 1, 1, 0, 0, 1, 1, 0, 1, 0, 0])))) w') Q e w) e w
def S6 (pr : Prims) (Q : Exit → Env → World → Prop) : (Env → World → Prop) → Env → World → Prop := fun k e w => wpC pr PP cfg (DD pr) (sub (codeOf Try.f43) [1, 1, 1, 1, 0, 1, 0, 0]) (fun ex e w => normQ ex (fun e' w' => k (Env.restr e' (lookN cfg.loops (keyOf (sub (codeOf Try.f43) [1, 1, 1, 1, 0, 1, 0, 0])))) w') Q e w) e w
def B10 (pr : Prims) (p_0 : Sl) (out_4 : ByteArray) (h_5 : Int) (v_7 : Int) (want_8 : Int) (t19 : Sl) (t20 : Int) (t21 : Int) (t29 : Sl) (t30 : Int) (t31 : Int) (w : World) (k : Env → World → Prop) (Q : Exit → Env → World → Prop) : Prop :=
  S10 pr Q k (emb10 p_0 out_4 h_5 v_7 want_8 t19 t20 t21 t29 t30 t31) w
def L10 (pr : Prims) (p_0 : Sl) (out_4 : ByteArray) (h_5 : Int) (v_7 : Int) (want_8 : Int) (t19 : Sl) (t20 : Int) (t21 : Int) (t29 : Sl) (t30 : Int) (t31 : Int) (w : World) (Q : Exit → Env → World → Prop) : Prop :=
  pr.loop (S10 pr Q) (emb10 p_0 out_4 h_5 v_7 want_8 t19 t20 t21 t29 t30 t31) w
def J17 (pr : Prims) (p_0 : Sl) (out_4 : ByteArray) (h_5 : Int) (want_8 : Int) (t19 : Sl) (t20 : Int) (t21 : Int) (w : World) (k : Env → World → Prop) (Q : Exit → Env → World → Prop) : Prop :=
  pr.seg (fun e w => wpC pr PP cfg (DD pr) (sub (codeOf Try.f43) [1, 1, 1, 1, 0, 1, 0, 0, 1, 1, 0, 0, 1, 1, 1, 1]) (q9 pr k Q) e w) (j17 p_0 out_4 h_5 want_8 t19 t20 t21) w
def B6 (pr : Prims) (p_0 : Sl) (out_4 : ByteArray) (h_5 : Int) (t19 : Sl) (t20 : Int) (t21 : Int) (w : World) (k : Env → World → Prop) (Q : Exit → Env → World → Prop) : Prop :=
  S6 pr Q k (emb6 p_0 out_4 h_5 t19 t20 t21) w
def L6 (pr : Prims) (p_0 : Sl) (out_4 : ByteArray) (h_5 : Int) (t19 : Sl) (t20 : Int) (t21 : Int) (w : World) (Q : Exit → Env → World → Prop) : Prop :=
  pr.loop (S6 pr Q) (emb6 p_0 out_4 h_5 t19 t20 t21) w
def E (pr : Prims) (p_0 : Sl) (w : World) (R : Ending → World → Prop) : Prop :=
  wpC pr PP cfg (DD pr) (codeOf Try.f43) (retQ Try.f43.results.toList R) (argE 0 [Sl.v p_0]) w
theorem B10_eq (pr : Prims) (p_0 : Sl) (out_4 : ByteArray) (h_5 : Int) (v_7 : Int) (want_8 : Int) (t19 : Sl) (t20 : Int) (t21 : Int) (t29 : Sl) (t30 : Int) (t31 : Int) (w : World) (k : Env → World → Prop) (Q : Exit → Env → World → Prop) : B10 pr p_0 out_4 h_5 v_7 want_8 t19 t20 t21 t29 t30 t31 w k Q = (
  bif decide (t31 < t30) then (
  pr.idxK 1 t29 t31 fun (a15 : Addr) =>
  pr.load1 (.int .i64) a15 w fun (ξ16 : Int) =>
  bif decide (ξ16 > v_7) then (
  k (emb10 p_0 out_4 h_5 v_7 (w64 (want_8 + 1)) t19 t20 t21 t29 t30 (w64 (t31 + 1))) w)
  else (
  k (emb10 p_0 out_4 h_5 v_7 want_8 t19 t20 t21 t29 t30 (w64 (t31 + 1))) w))
  else (
  Q (.exit 2) (x2 p_0 out_4 h_5 want_8 t19 t20 t21) w)) := by kernel_rfl
theorem B10_s (p_0 : Sl) (out_4 : ByteArray) (h_5 : Int) (v_7 : Int) (want_8 : Int) (t19 : Sl) (t20 : Int) (t21 : Int) (t29 : Sl) (t30 : Int) (t31 : Int) (w : World) (k : Env → World → Prop) (Q : Exit → Env → World → Prop) : B10 std p_0 out_4 h_5 v_7 want_8 t19 t20 t21 t29 t30 t31 w k Q = (
  bif decide (t31 < t30) then (
  idxK 1 t29 t31 fun (a15 : Addr) =>
  load1 (.int .i64) a15 w fun (ξ16 : Int) =>
  bif decide (ξ16 > v_7) then (
  k (emb10 p_0 out_4 h_5 v_7 (w64 (want_8 + 1)) t19 t20 t21 t29 t30 (w64 (t31 + 1))) w)
  else (
  k (emb10 p_0 out_4 h_5 v_7 want_8 t19 t20 t21 t29 t30 (w64 (t31 + 1))) w))
  else (
  Q (.exit 2) (x2 p_0 out_4 h_5 want_8 t19 t20 t21) w)) := B10_eq std p_0 out_4 h_5 v_7 want_8 t19 t20 t21 t29 t30 t31 w k Q
theorem L10_rule (p_0 : Sl) (out_4 : ByteArray) (h_5 : Int) (v_7 : Int) (want_8 : Int) (t19 : Sl) (t20 : Int) (t21 : Int) (t29 : Sl) (t30 : Int) (t31 : Int) (w : World) (Q : Exit → Env → World → Prop) (I : Int → Int → World → Prop) (μ : Int → Int → World → Nat) (h0 : I want_8 t31 w)
    (h : ∀ (want_8 : Int) (t31 : Int) (w' : World), I want_8 t31 w' → B10 std p_0 out_4 h_5 v_7 want_8 t19 t20 t21 t29 t30 t31 w' (fun e2 w2 => ∃ want_8_n t31_n, e2 = emb10 p_0 out_4 h_5 v_7 want_8_n t19 t20 t21 t29 t30 t31_n ∧ I want_8_n t31_n w2 ∧ μ want_8_n t31_n w2 < μ want_8 t31 w') Q) :
    L10 std p_0 out_4 h_5 v_7 want_8 t19 t20 t21 t29 t30 t31 w Q := by
  unfold L10
  refine LoopE.intro (σ := Int × Int) (step := S10 std Q) (fun s => emb10 p_0 out_4 h_5 v_7 s.1 t19 t20 t21 t29 t30 s.2) (fun s w => I s.1 s.2 w) (fun s w => μ s.1 s.2 w) (want_8, t31) rfl h0 ?_
  intro s w' hI
  have h1 := h s.1 s.2 w' hI
  unfold B10 at h1
  simp only [Prod.exists]
  exact h1
theorem J17_gen (pr : Prims) (p_0 : Sl) (out_4 : ByteArray) (h_5 : Int) (want_8 : Int) (t19 : Sl) (t20 : Int) (t21 : Int) (w : World) (k : Env → World → Prop) (Q : Exit → Env → World → Prop) : wpC pr PP cfg (DD pr) (sub (codeOf Try.f43) [1, 1, 1, 1, 0, 1, 0, 0, 1, 1, 0, 0, 1, 1, 1, 1]) (q9 pr k Q) (j17 p_0 out_4 h_5 want_8 t19 t20 t21) w = (
  ((out_4.size + (⟨#[68]⟩ : ByteArray).size : Nat) : Int) ≤ IntKind.i64.max ∧
  k (emb6 p_0 (out_4 ++ (⟨#[68]⟩ : ByteArray)) (w64 ((if want_8 > h_5 then want_8 else h_5) - 1)) t19 t20 (w64 (t21 + 1))) w) := by kernel_rfl
theorem J17_s (p_0 : Sl) (out_4 : ByteArray) (h_5 : Int) (want_8 : Int) (t19 : Sl) (t20 : Int) (t21 : Int) (w : World) (k : Env → World → Prop) (Q : Exit → Env → World → Prop) : J17 std p_0 out_4 h_5 want_8 t19 t20 t21 w k Q = (
  ((out_4.size + (⟨#[68]⟩ : ByteArray).size : Nat) : Int) ≤ IntKind.i64.max ∧
  k (emb6 p_0 (out_4 ++ (⟨#[68]⟩ : ByteArray)) (w64 ((if want_8 > h_5 then want_8 else h_5) - 1)) t19 t20 (w64 (t21 + 1))) w) := J17_gen std p_0 out_4 h_5 want_8 t19 t20 t21 w k Q
theorem A10_2_eq (pr : Prims) (p_0 : Sl) (out_4 : ByteArray) (h_5 : Int) (want_8 : Int) (t19 : Sl) (t20 : Int) (t21 : Int) (w : World) (k : Env → World → Prop) (Q : Exit → Env → World → Prop) : (q14 pr k Q) (.exit 2) (x2 p_0 out_4 h_5 want_8 t19 t20 t21) w = (
  bif decide (want_8 > h_5) then (
  pr.call1 .str PP F.strings_Repeat #[.string (⟨#[85]⟩ : ByteArray), vI (w64 (want_8 - h_5))] w fun (ρ18 : ByteArray) ω19 =>
  ((out_4.size + ρ18.size : Nat) : Int) ≤ IntKind.i64.max ∧
  J17 pr p_0 (out_4 ++ ρ18) h_5 want_8 t19 t20 t21 ω19 k Q)
  else (
  J17 pr p_0 out_4 h_5 want_8 t19 t20 t21 w k Q)) := by kernel_rfl
theorem A10_2_s (p_0 : Sl) (out_4 : ByteArray) (h_5 : Int) (want_8 : Int) (t19 : Sl) (t20 : Int) (t21 : Int) (w : World) (k : Env → World → Prop) (Q : Exit → Env → World → Prop) : (q14 std k Q) (.exit 2) (x2 p_0 out_4 h_5 want_8 t19 t20 t21) w = (
  bif decide (want_8 > h_5) then (
  call1 .str PP F.strings_Repeat #[.string (⟨#[85]⟩ : ByteArray), vI (w64 (want_8 - h_5))] w fun (ρ18 : ByteArray) ω19 =>
  ((out_4.size + ρ18.size : Nat) : Int) ≤ IntKind.i64.max ∧
  J17 std p_0 (out_4 ++ ρ18) h_5 want_8 t19 t20 t21 ω19 k Q)
  else (
  J17 std p_0 out_4 h_5 want_8 t19 t20 t21 w k Q)) := A10_2_eq std p_0 out_4 h_5 want_8 t19 t20 t21 w k Q
theorem B6_eq (pr : Prims) (p_0 : Sl) (out_4 : ByteArray) (h_5 : Int) (t19 : Sl) (t20 : Int) (t21 : Int) (w : World) (k : Env → World → Prop) (Q : Exit → Env → World → Prop) : B6 pr p_0 out_4 h_5 t19 t20 t21 w k Q = (
  bif decide (t21 < t20) then (
  pr.idxK 1 t19 t21 fun (a10 : Addr) =>
  pr.load1 (.int .i64) a10 w fun (ξ11 : Int) =>
  pr.cutK 1 p_0 (some (w64 (t21 + 1))) none fun (s13 : Sl) =>
  L10 pr p_0 out_4 h_5 ξ11 1 t19 t20 t21 s13 (s13.n : Int) 0 w (q14 pr k Q))
  else (
  Q (.exit 0) (x0 out_4) w)) := by kernel_rfl
theorem B6_s (p_0 : Sl) (out_4 : ByteArray) (h_5 : Int) (t19 : Sl) (t20 : Int) (t21 : Int) (w : World) (k : Env → World → Prop) (Q : Exit → Env → World → Prop) : B6 std p_0 out_4 h_5 t19 t20 t21 w k Q = (
  bif decide (t21 < t20) then (
  idxK 1 t19 t21 fun (a10 : Addr) =>
  load1 (.int .i64) a10 w fun (ξ11 : Int) =>
  cutK 1 p_0 (some (w64 (t21 + 1))) none fun (s13 : Sl) =>
  L10 std p_0 out_4 h_5 ξ11 1 t19 t20 t21 s13 (s13.n : Int) 0 w (q14 std k Q))
  else (
  Q (.exit 0) (x0 out_4) w)) := B6_eq std p_0 out_4 h_5 t19 t20 t21 w k Q
theorem L6_rule (p_0 : Sl) (out_4 : ByteArray) (h_5 : Int) (t19 : Sl) (t20 : Int) (t21 : Int) (w : World) (Q : Exit → Env → World → Prop) (I : ByteArray → Int → Int → World → Prop) (μ : ByteArray → Int → Int → World → Nat) (h0 : I out_4 h_5 t21 w)
    (h : ∀ (out_4 : ByteArray) (h_5 : Int) (t21 : Int) (w' : World), I out_4 h_5 t21 w' → B6 std p_0 out_4 h_5 t19 t20 t21 w' (fun e2 w2 => ∃ out_4_n h_5_n t21_n, e2 = emb6 p_0 out_4_n h_5_n t19 t20 t21_n ∧ I out_4_n h_5_n t21_n w2 ∧ μ out_4_n h_5_n t21_n w2 < μ out_4 h_5 t21 w') Q) :
    L6 std p_0 out_4 h_5 t19 t20 t21 w Q := by
  unfold L6
  refine LoopE.intro (σ := ByteArray × Int × Int) (step := S6 std Q) (fun s => emb6 p_0 s.1 s.2.1 t19 t20 s.2.2) (fun s w => I s.1 s.2.1 s.2.2 w) (fun s w => μ s.1 s.2.1 s.2.2 w) (out_4, h_5, t21) rfl h0 ?_
  intro s w' hI
  have h1 := h s.1 s.2.1 s.2.2 w' hI
  unfold B6 at h1
  simp only [Prod.exists]
  exact h1
theorem A6_0_eq (pr : Prims) (out_4 : ByteArray) (w : World) (R : Ending → World → Prop) : (q7 pr R) (.exit 0) (x0 out_4) w = (
  R (.returned (.tuple #[.string out_4, .bool true])) w) := by kernel_rfl
theorem A6_0_s (out_4 : ByteArray) (w : World) (R : Ending → World → Prop) : (q7 std R) (.exit 0) (x0 out_4) w = (
  R (.returned (.tuple #[.string out_4, .bool true])) w) := A6_0_eq std out_4 w R
theorem E_eq (pr : Prims) (p_0 : Sl) (w : World) (R : Ending → World → Prop) : E pr p_0 w R = (
  pr.call1 .bool PP F.impl_IsPerm #[Sl.v p_0] w fun (ρ0 : Bool) ω1 =>
  bif !ρ0 then (
  R (.returned (.tuple #[.string (⟨#[]⟩ : ByteArray), .bool false])) ω1)
  else (
  pr.sem1 .sl PP (Instr.buildSlice T_Sint 3 #[(0, vI 1), (1, vI 3), (2, vI 2)]) ω1 fun (ρ2 : Sl) ω3 =>
  pr.call1 .bool PP F.impl_has #[Sl.v p_0, Sl.v ρ2, Sl.v Sl.nil] ω3 fun (ρ4 : Bool) ω5 =>
  bif ρ4 then (
  R (.returned (.tuple #[.string (⟨#[]⟩ : ByteArray), .bool false])) ω5)
  else (
  L6 pr p_0 (⟨#[]⟩ : ByteArray) 0 p_0 (p_0.n : Int) 0 ω5 (q7 pr R)))) := by kernel_rfl
theorem E_s (p_0 : Sl) (w : World) (R : Ending → World → Prop) : E std p_0 w R = (
  call1 .bool PP F.impl_IsPerm #[Sl.v p_0] w fun (ρ0 : Bool) ω1 =>
  bif !ρ0 then (
  R (.returned (.tuple #[.string (⟨#[]⟩ : ByteArray), .bool false])) ω1)
  else (
  sem1 .sl PP (Instr.buildSlice T_Sint 3 #[(0, vI 1), (1, vI 3), (2, vI 2)]) ω1 fun (ρ2 : Sl) ω3 =>
  call1 .bool PP F.impl_has #[Sl.v p_0, Sl.v ρ2, Sl.v Sl.nil] ω3 fun (ρ4 : Bool) ω5 =>
  bif ρ4 then (
  R (.returned (.tuple #[.string (⟨#[]⟩ : ByteArray), .bool false])) ω5)
  else (
  L6 std p_0 (⟨#[]⟩ : ByteArray) 0 p_0 (p_0.n : Int) 0 ω5 (q7 std R)))) := E_eq std p_0 w R
theorem drawsOk : drawsOk PP cfg okD (codeOf Try.f43) = true := by kernel_rfl
theorem calls (p_0 : Sl) {w : World} {R : Ending → World → Prop} (h : E std p_0 w R) : Calls PP F.impl_PathOf #[Sl.v p_0] w R :=
  calls_of noCount mixed drawOk Try.func43 rfl (c := cfg) (args := [Sl.v p_0]) rfl (Nat.le_of_ble_eq_true (by kernel_rfl)) drawsOk h
end impl_PathOf

namespace spec_PathOf
@[reducible] def cfg : Cfg := ⟨36, [(8, [0, 4, 5, 6]), (6, [0, 4, 5, 6])], [(3, [0, 4, 5, 6]), (2, [0, 4, 5, 6]), (1, [0, 4, 5, 6]), (0, [4])], [], [2, 3], [], [91, 60, 17, 21, 24, 26, 65, 27, 82, 64, 85, 108, 78, 53, 51], [86, 52, 88]⟩
def q6 (pr : Prims) (R : Ending → World → Prop) : Exit → Env → World → Prop := fun ex e w => normQ ex (fun e w => contE pr cfg (sub (codeOf Try.f42) [1, 1, 1, 1, 1]) (fun e w => wpC pr PP cfg (DD pr) (sub (codeOf Try.f42) [1, 1, 1, 1, 1]) (retQ Try.f42.results.toList R) e w) e w) (retQ Try.f42.results.toList R) e w
def q7 (pr : Prims) (R : Ending → World → Prop) : Exit → Env → World → Prop := fun ex e w => blockQ ex 0 (q6 pr R) e w
def q8 (pr : Prims) (k : Env → World → Prop) (Q : Exit → Env → World → Prop) : Exit → Env → World → Prop := fun ex e w => normQ ex (fun e w => contE pr cfg (sub (codeOf Try.f42) [1, 1, 1, 1, 0, 1, 0, 0, 1, 1]) (fun e w => wpC pr PP cfg (DD pr) (sub (codeOf Try.f42) [1, 1, 1, 1, 0, 1, 0, 0, 1, 1]) (fun ex e w => normQ ex (fun e' w' => k (Env.restr e' (lookN cfg.loops (keyOf (sub (codeOf Try.f42) [1, 1, 1, 1, 0, 1, 0, 0])))) w') Q e w) e w) e w) (fun ex e w => normQ ex (fun e' w' => k (Env.restr e' (lookN cfg.loops (keyOf (sub (codeOf Try.f42) [1, 1, 1, 1, 0, 1, 0, 0])))) w') Q e w) e w
def q9 (pr : Prims) (k : Env → World → Prop) (Q : Exit → Env → World → Prop) : Exit → Env → World → Prop := fun ex e w => blockQ ex 1 (q8 pr k Q) e w
def q10 (pr : Prims) (k : Env → World → Prop) (Q : Exit → Env → World → Prop) : Exit → Env → World → Prop := fun ex e w => normQ ex (fun e w => contE pr cfg (sub (codeOf Try.f42) [1, 1, 1, 1, 0, 1, 0, 0, 1, 0, 0, 1]) (fun e w => wpC pr PP cfg (DD pr) (sub (codeOf Try.f42) [1, 1, 1, 1, 0, 1, 0, 0, 1, 0, 0, 1]) (q9 pr k Q) e w) e w) (q9 pr k Q) e w
def q11 (pr : Prims) (k : Env → World → Prop) (Q : Exit → Env → World → Prop) : Exit → Env → World → Prop := fun ex e w => blockQ ex 2 (q10 pr k Q) e w
def emb6 (p_0 : Sl) (out_4 : ByteArray) (h_5 : Int) (k_6 : Int) : Env := [(0, Sl.v p_0), (4, .string out_4), (5, vI h_5), (6, vI k_6)]
def emb8 (p_0 : Sl) (out_4 : ByteArray) (h_5 : Int) (k_6 : Int) : Env := [(0, Sl.v p_0), (4, .string out_4), (5, vI h_5), (6, vI k_6)]
def x2 (p_0 : Sl) (out_4 : ByteArray) (h_5 : Int) (k_6 : Int) : Env := [(0, Sl.v p_0), (4, .string out_4), (5, vI h_5), (6, vI k_6)]
def x0 (out_4 : ByteArray) : Env := [(4, .string out_4)]
def S8 (pr : Prims) (Q : Exit → Env → World → Prop) : (Env → World → Prop) → Env → World → Prop := fun k e w => wpC pr PP cfg (DD pr) (sub (codeOf Try.f42) [1, 1, 1, 1, 0, 1, 0, 0, 1, 0, 0, 0, 0, 0]) (fun ex e w => normQ ex (fun e' w' => k (Env.restr e' (lookN cfg.loops (keyOf (sub (codeOf Try.f42) [1, 1, 1, 1, 0, 1, 0, 0, 1, 0, 0, 0, 0, 0])))) w') Q e w) e w
def S6 (pr : Prims) (Q : Exit → Env → World → Prop) : (Env → World → Prop) → Env → World → Prop := fun k e w => wpC pr PP cfg (DD pr) (sub (codeOf Try.f42) [1, 1, 1, 1, 0, 1, 0, 0]) (fun ex e w => normQ ex (fun e' w' => k (Env.restr e' (lookN cfg.loops (keyOf (sub (codeOf Try.f42) [1, 1, 1, 1, 0, 1, 0, 0])))) w') Q e w) e w
def B8 (pr : Prims) (p_0 : Sl) (out_4 : ByteArray) (h_5 : Int) (k_6 : Int) (w : World) (k : Env → World → Prop) (Q : Exit → Env → World → Prop) : Prop :=
  S8 pr Q k (emb8 p_0 out_4 h_5 k_6) w
def L8 (pr : Prims) (p_0 : Sl) (out_4 : ByteArray) (h_5 : Int) (k_6 : Int) (w : World) (Q : Exit → Env → World → Prop) : Prop :=
  pr.loop (S8 pr Q) (emb8 p_0 out_4 h_5 k_6) w
def B6 (pr : Prims) (p_0 : Sl) (out_4 : ByteArray) (h_5 : Int) (k_6 : Int) (w : World) (k : Env → World → Prop) (Q : Exit → Env → World → Prop) : Prop :=
  S6 pr Q k (emb6 p_0 out_4 h_5 k_6) w
def L6 (pr : Prims) (p_0 : Sl) (out_4 : ByteArray) (h_5 : Int) (k_6 : Int) (w : World) (Q : Exit → Env → World → Prop) : Prop :=
  pr.loop (S6 pr Q) (emb6 p_0 out_4 h_5 k_6) w
def E (pr : Prims) (p_0 : Sl) (w : World) (R : Ending → World → Prop) : Prop :=
  wpC pr PP cfg (DD pr) (codeOf Try.f42) (retQ Try.f42.results.toList R) (argE 0 [Sl.v p_0]) w
theorem B8_eq (pr : Prims) (p_0 : Sl) (out_4 : ByteArray) (h_5 : Int) (k_6 : Int) (w : World) (k : Env → World → Prop) (Q : Exit → Env → World → Prop) : B8 pr p_0 out_4 h_5 k_6 w k Q = (
  pr.call1 (.int .i64) PP F.spec_l18Later #[Sl.v p_0, vI k_6] w fun (ρ12 : Int) ω13 =>
  bif decide (h_5 < (w64 (ρ12 + 1))) then (
  ((out_4.size + (⟨#[85]⟩ : ByteArray).size : Nat) : Int) ≤ IntKind.i64.max ∧
  k (emb8 p_0 (out_4 ++ (⟨#[85]⟩ : ByteArray)) (w64 (h_5 + 1)) k_6) ω13)
  else (
  Q (.exit 2) (x2 p_0 out_4 h_5 k_6) ω13)) := by kernel_rfl
theorem B8_s (p_0 : Sl) (out_4 : ByteArray) (h_5 : Int) (k_6 : Int) (w : World) (k : Env → World → Prop) (Q : Exit → Env → World → Prop) : B8 std p_0 out_4 h_5 k_6 w k Q = (
  call1 (.int .i64) PP F.spec_l18Later #[Sl.v p_0, vI k_6] w fun (ρ12 : Int) ω13 =>
  bif decide (h_5 < (w64 (ρ12 + 1))) then (
  ((out_4.size + (⟨#[85]⟩ : ByteArray).size : Nat) : Int) ≤ IntKind.i64.max ∧
  k (emb8 p_0 (out_4 ++ (⟨#[85]⟩ : ByteArray)) (w64 (h_5 + 1)) k_6) ω13)
  else (
  Q (.exit 2) (x2 p_0 out_4 h_5 k_6) ω13)) := B8_eq std p_0 out_4 h_5 k_6 w k Q
theorem L8_rule (p_0 : Sl) (out_4 : ByteArray) (h_5 : Int) (k_6 : Int) (w : World) (Q : Exit → Env → World → Prop) (I : ByteArray → Int → World → Prop) (μ : ByteArray → Int → World → Nat) (h0 : I out_4 h_5 w)
    (h : ∀ (out_4 : ByteArray) (h_5 : Int) (w' : World), I out_4 h_5 w' → B8 std p_0 out_4 h_5 k_6 w' (fun e2 w2 => ∃ out_4_n h_5_n, e2 = emb8 p_0 out_4_n h_5_n k_6 ∧ I out_4_n h_5_n w2 ∧ μ out_4_n h_5_n w2 < μ out_4 h_5 w') Q) :
    L8 std p_0 out_4 h_5 k_6 w Q := by
  unfold L8
  refine LoopE.intro (σ := ByteArray × Int) (step := S8 std Q) (fun s => emb8 p_0 s.1 s.2 k_6) (fun s w => I s.1 s.2 w) (fun s w => μ s.1 s.2 w) (out_4, h_5) rfl h0 ?_
  intro s w' hI
  have h1 := h s.1 s.2 w' hI
  unfold B8 at h1
  simp only [Prod.exists]
  exact h1
theorem A8_2_eq (pr : Prims) (p_0 : Sl) (out_4 : ByteArray) (h_5 : Int) (k_6 : Int) (w : World) (k : Env → World → Prop) (Q : Exit → Env → World → Prop) : (q11 pr k Q) (.exit 2) (x2 p_0 out_4 h_5 k_6) w = (
  ((out_4.size + (⟨#[68]⟩ : ByteArray).size : Nat) : Int) ≤ IntKind.i64.max ∧
  k (emb6 p_0 (out_4 ++ (⟨#[68]⟩ : ByteArray)) (w64 (h_5 - 1)) (w64 (k_6 + 1))) w) := by kernel_rfl
theorem A8_2_s (p_0 : Sl) (out_4 : ByteArray) (h_5 : Int) (k_6 : Int) (w : World) (k : Env → World → Prop) (Q : Exit → Env → World → Prop) : (q11 std k Q) (.exit 2) (x2 p_0 out_4 h_5 k_6) w = (
  ((out_4.size + (⟨#[68]⟩ : ByteArray).size : Nat) : Int) ≤ IntKind.i64.max ∧
  k (emb6 p_0 (out_4 ++ (⟨#[68]⟩ : ByteArray)) (w64 (h_5 - 1)) (w64 (k_6 + 1))) w) := A8_2_eq std p_0 out_4 h_5 k_6 w k Q
theorem B6_eq (pr : Prims) (p_0 : Sl) (out_4 : ByteArray) (h_5 : Int) (k_6 : Int) (w : World) (k : Env → World → Prop) (Q : Exit → Env → World → Prop) : B6 pr p_0 out_4 h_5 k_6 w k Q = (
  bif decide (k_6 < (p_0.n : Int)) then (
  L8 pr p_0 out_4 h_5 k_6 w (q11 pr k Q))
  else (
  Q (.exit 0) (x0 out_4) w)) := by kernel_rfl
theorem B6_s (p_0 : Sl) (out_4 : ByteArray) (h_5 : Int) (k_6 : Int) (w : World) (k : Env → World → Prop) (Q : Exit → Env → World → Prop) : B6 std p_0 out_4 h_5 k_6 w k Q = (
  bif decide (k_6 < (p_0.n : Int)) then (
  L8 std p_0 out_4 h_5 k_6 w (q11 std k Q))
  else (
  Q (.exit 0) (x0 out_4) w)) := B6_eq std p_0 out_4 h_5 k_6 w k Q
theorem L6_rule (p_0 : Sl) (out_4 : ByteArray) (h_5 : Int) (k_6 : Int) (w : World) (Q : Exit → Env → World → Prop) (I : ByteArray → Int → Int → World → Prop) (μ : ByteArray → Int → Int → World → Nat) (h0 : I out_4 h_5 k_6 w)
    (h : ∀ (out_4 : ByteArray) (h_5 : Int) (k_6 : Int) (w' : World), I out_4 h_5 k_6 w' → B6 std p_0 out_4 h_5 k_6 w' (fun e2 w2 => ∃ out_4_n h_5_n k_6_n, e2 = emb6 p_0 out_4_n h_5_n k_6_n ∧ I out_4_n h_5_n k_6_n w2 ∧ μ out_4_n h_5_n k_6_n w2 < μ out_4 h_5 k_6 w') Q) :
    L6 std p_0 out_4 h_5 k_6 w Q := by
  unfold L6
  refine LoopE.intro (σ := ByteArray × Int × Int) (step := S6 std Q) (fun s => emb6 p_0 s.1 s.2.1 s.2.2) (fun s w => I s.1 s.2.1 s.2.2 w) (fun s w => μ s.1 s.2.1 s.2.2 w) (out_4, h_5, k_6) rfl h0 ?_
  intro s w' hI
  have h1 := h s.1 s.2.1 s.2.2 w' hI
  unfold B6 at h1
  simp only [Prod.exists]
  exact h1
theorem A6_0_eq (pr : Prims) (out_4 : ByteArray) (w : World) (R : Ending → World → Prop) : (q7 pr R) (.exit 0) (x0 out_4) w = (
  R (.returned (.tuple #[.string out_4, .bool true])) w) := by kernel_rfl
theorem A6_0_s (out_4 : ByteArray) (w : World) (R : Ending → World → Prop) : (q7 std R) (.exit 0) (x0 out_4) w = (
  R (.returned (.tuple #[.string out_4, .bool true])) w) := A6_0_eq std out_4 w R
theorem E_eq (pr : Prims) (p_0 : Sl) (w : World) (R : Ending → World → Prop) : E pr p_0 w R = (
  pr.call1 .bool PP F.spec_IsPerm #[Sl.v p_0] w fun (ρ0 : Bool) ω1 =>
  bif !ρ0 then (
  R (.returned (.tuple #[.string (⟨#[]⟩ : ByteArray), .bool false])) ω1)
  else (
  pr.sem1 .sl PP (Instr.buildSlice T_Sint 3 #[(0, vI 1), (1, vI 3), (2, vI 2)]) ω1 fun (ρ2 : Sl) ω3 =>
  pr.call1 .bool PP F.spec_l7Has #[Sl.v p_0, Sl.v ρ2] ω3 fun (ρ4 : Bool) ω5 =>
  bif ρ4 then (
  R (.returned (.tuple #[.string (⟨#[]⟩ : ByteArray), .bool false])) ω5)
  else (
  L6 pr p_0 (⟨#[]⟩ : ByteArray) 0 0 ω5 (q7 pr R)))) := by kernel_rfl
theorem E_s (p_0 : Sl) (w : World) (R : Ending → World → Prop) : E std p_0 w R = (
  call1 .bool PP F.spec_IsPerm #[Sl.v p_0] w fun (ρ0 : Bool) ω1 =>
  bif !ρ0 then (
  R (.returned (.tuple #[.string (⟨#[]⟩ : ByteArray), .bool false])) ω1)
  else (
  sem1 .sl PP (Instr.buildSlice T_Sint 3 #[(0, vI 1), (1, vI 3), (2, vI 2)]) ω1 fun (ρ2 : Sl) ω3 =>
  call1 .bool PP F.spec_l7Has #[Sl.v p_0, Sl.v ρ2] ω3 fun (ρ4 : Bool) ω5 =>
  bif ρ4 then (
  R (.returned (.tuple #[.string (⟨#[]⟩ : ByteArray), .bool false])) ω5)
  else (
  L6 std p_0 (⟨#[]⟩ : ByteArray) 0 0 ω5 (q7 std R)))) := E_eq std p_0 w R
theorem drawsOk : drawsOk PP cfg okD (codeOf Try.f42) = true := by kernel_rfl
theorem calls (p_0 : Sl) {w : World} {R : Ending → World → Prop} (h : E std p_0 w R) : Calls PP F.spec_PathOf #[Sl.v p_0] w R :=
  calls_of noCount mixed drawOk Try.func42 rfl (c := cfg) (args := [Sl.v p_0]) rfl (Nat.le_of_ble_eq_true (by kernel_rfl)) drawsOk h
end spec_PathOf

namespace spec_l18Later
@[reducible] def cfg : Cfg := ⟨28, [(3, [0, 1, 5, 6])], [(1, [0, 1, 5, 6]), (0, [5])], [], [4], [5], [91, 60, 17, 21, 24, 26, 65, 27, 82, 64, 85, 108, 78, 53, 51], [86, 52, 88]⟩
def q0 (pr : Prims) (R : Ending → World → Prop) : Exit → Env → World → Prop := fun ex e w => normQ ex (fun e w => contE pr cfg (sub (codeOf Try.f75) [1, 1, 1]) (fun e w => wpC pr PP cfg (DD pr) (sub (codeOf Try.f75) [1, 1, 1]) (retQ Try.f75.results.toList R) e w) e w) (retQ Try.f75.results.toList R) e w
def q1 (pr : Prims) (R : Ending → World → Prop) : Exit → Env → World → Prop := fun ex e w => blockQ ex 0 (q0 pr R) e w
def emb3 (p_0 : Sl) (k_1 : Int) (n_5 : Int) (i_6 : Int) : Env := [(0, Sl.v p_0), (1, vI k_1), (5, vI n_5), (6, vI i_6)]
def x0 (n_5 : Int) : Env := [(5, vI n_5)]
def S3 (pr : Prims) (Q : Exit → Env → World → Prop) : (Env → World → Prop) → Env → World → Prop := fun k e w => wpC pr PP cfg (DD pr) (sub (codeOf Try.f75) [1, 1, 0, 1, 0, 0]) (fun ex e w => normQ ex (fun e' w' => k (Env.restr e' (lookN cfg.loops (keyOf (sub (codeOf Try.f75) [1, 1, 0, 1, 0, 0])))) w') Q e w) e w
def B3 (pr : Prims) (p_0 : Sl) (k_1 : Int) (n_5 : Int) (i_6 : Int) (w : World) (k : Env → World → Prop) (Q : Exit → Env → World → Prop) : Prop :=
  S3 pr Q k (emb3 p_0 k_1 n_5 i_6) w
def L3 (pr : Prims) (p_0 : Sl) (k_1 : Int) (n_5 : Int) (i_6 : Int) (w : World) (Q : Exit → Env → World → Prop) : Prop :=
  pr.loop (S3 pr Q) (emb3 p_0 k_1 n_5 i_6) w
def E (pr : Prims) (p_0 : Sl) (k_1 : Int) (w : World) (R : Ending → World → Prop) : Prop :=
  wpC pr PP cfg (DD pr) (codeOf Try.f75) (retQ Try.f75.results.toList R) (argE 0 [Sl.v p_0, vI k_1]) w
theorem B3_eq (pr : Prims) (p_0 : Sl) (k_1 : Int) (n_5 : Int) (i_6 : Int) (w : World) (k : Env → World → Prop) (Q : Exit → Env → World → Prop) : B3 pr p_0 k_1 n_5 i_6 w k Q = (
  bif decide (i_6 < (p_0.n : Int)) then (
  pr.idxK 1 p_0 i_6 fun (a2 : Addr) =>
  pr.load1 (.int .i64) a2 w fun (ξ3 : Int) =>
  pr.idxK 1 p_0 k_1 fun (a4 : Addr) =>
  pr.load1 (.int .i64) a4 w fun (ξ5 : Int) =>
  pr.pcall1 (.int .i64) PP F.spec_l1Bit #[.bool (decide (ξ3 > ξ5))] fun (ρ6 : Int) =>
  pr.drewAll w fun ω7 =>
  k (emb3 p_0 k_1 (w64 (n_5 + ρ6)) (w64 (i_6 + 1))) ω7)
  else (
  Q (.exit 0) (x0 n_5) w)) := by kernel_rfl
theorem B3_s (p_0 : Sl) (k_1 : Int) (n_5 : Int) (i_6 : Int) (w : World) (k : Env → World → Prop) (Q : Exit → Env → World → Prop) : B3 std p_0 k_1 n_5 i_6 w k Q = (
  bif decide (i_6 < (p_0.n : Int)) then (
  idxK 1 p_0 i_6 fun (a2 : Addr) =>
  load1 (.int .i64) a2 w fun (ξ3 : Int) =>
  idxK 1 p_0 k_1 fun (a4 : Addr) =>
  load1 (.int .i64) a4 w fun (ξ5 : Int) =>
  pcall1 (.int .i64) PP F.spec_l1Bit #[.bool (decide (ξ3 > ξ5))] fun (ρ6 : Int) =>
  drewAll w fun ω7 =>
  k (emb3 p_0 k_1 (w64 (n_5 + ρ6)) (w64 (i_6 + 1))) ω7)
  else (
  Q (.exit 0) (x0 n_5) w)) := B3_eq std p_0 k_1 n_5 i_6 w k Q
theorem L3_rule (p_0 : Sl) (k_1 : Int) (n_5 : Int) (i_6 : Int) (w : World) (Q : Exit → Env → World → Prop) (I : Int → Int → World → Prop) (μ : Int → Int → World → Nat) (h0 : I n_5 i_6 w)
    (h : ∀ (n_5 : Int) (i_6 : Int) (w' : World), I n_5 i_6 w' → B3 std p_0 k_1 n_5 i_6 w' (fun e2 w2 => ∃ n_5_n i_6_n, e2 = emb3 p_0 k_1 n_5_n i_6_n ∧ I n_5_n i_6_n w2 ∧ μ n_5_n i_6_n w2 < μ n_5 i_6 w') Q) :
    L3 std p_0 k_1 n_5 i_6 w Q := by
  unfold L3
  refine LoopE.intro (σ := Int × Int) (step := S3 std Q) (fun s => emb3 p_0 k_1 s.1 s.2) (fun s w => I s.1 s.2 w) (fun s w => μ s.1 s.2 w) (n_5, i_6) rfl h0 ?_
  intro s w' hI
  have h1 := h s.1 s.2 w' hI
  unfold B3 at h1
  simp only [Prod.exists]
  exact h1
theorem A3_0_eq (pr : Prims) (n_5 : Int) (w : World) (R : Ending → World → Prop) : (q1 pr R) (.exit 0) (x0 n_5) w = (
  R (.returned (vI n_5)) w) := by kernel_rfl
theorem A3_0_s (n_5 : Int) (w : World) (R : Ending → World → Prop) : (q1 std R) (.exit 0) (x0 n_5) w = (
  R (.returned (vI n_5)) w) := A3_0_eq std n_5 w R
theorem E_eq (pr : Prims) (p_0 : Sl) (k_1 : Int) (w : World) (R : Ending → World → Prop) : E pr p_0 k_1 w R = (
  L3 pr p_0 k_1 0 (w64 (k_1 + 1)) w (q1 pr R)) := by kernel_rfl
theorem E_s (p_0 : Sl) (k_1 : Int) (w : World) (R : Ending → World → Prop) : E std p_0 k_1 w R = (
  L3 std p_0 k_1 0 (w64 (k_1 + 1)) w (q1 std R)) := E_eq std p_0 k_1 w R
theorem drawsOk : drawsOk PP cfg okD (codeOf Try.f75) = true := by kernel_rfl
theorem calls (p_0 : Sl) (k_1 : Int) {w : World} {R : Ending → World → Prop} (h : E std p_0 k_1 w R) : Calls PP F.spec_l18Later #[Sl.v p_0, vI k_1] w R :=
  calls_of noCount mixed drawOk Try.func75 rfl (c := cfg) (args := [Sl.v p_0, vI k_1]) rfl (Nat.le_of_ble_eq_true (by kernel_rfl)) drawsOk h
end spec_l18Later

namespace laws_FnExactPathOf
@[reducible] def cfg : Cfg := ⟨37, [], [], [], [2], [], [91, 60, 17, 21, 24, 26, 65, 27, 82, 64, 85, 108, 78, 53, 51], [86, 52, 88]⟩
def E (pr : Prims) (aP_0 : Sl) (w : World) (R : Ending → World → Prop) : Prop :=
  wpC pr PP cfg (DD pr) (codeOf Try.f11) (retQ Try.f11.results.toList R) (argE 0 [Sl.v aP_0]) w
theorem E_eq (pr : Prims) (aP_0 : Sl) (w : World) (R : Ending → World → Prop) : E pr aP_0 w R = (
  bif decide ((aP_0.n : Int) > 1048576) then (
  R (.returned (.bool true)) w)
  else (
  pr.call1 .sl PP F.laws_toIntS #[Sl.v aP_0] w fun (ρ0 : Sl) ω1 =>
  pr.call2 .str .bool PP F.spec_PathOf #[Sl.v ρ0] ω1 fun (ρ2 : ByteArray) (ρ3 : Bool) ω4 =>
  pr.call1 .sl PP F.laws_toIntS #[Sl.v aP_0] ω4 fun (ρ5 : Sl) ω6 =>
  pr.call2 .str .bool PP F.impl_PathOf #[Sl.v ρ5] ω6 fun (ρ7 : ByteArray) (ρ8 : Bool) ω9 =>
  bif !(ρ7.toList == ρ2.toList) then (
  R (.returned (.bool false)) ω9)
  else (
  bif !(ρ8 == ρ3) then (
  R (.returned (.bool false)) ω9)
  else (
  pr.call1 .sl PP F.laws_toIntS #[Sl.v aP_0] ω9 fun (ρ10 : Sl) ω11 =>
  pr.call1 .bool PP F.laws_eqIntS #[Sl.v ρ5, Sl.v ρ10] ω11 fun (ρ12 : Bool) ω13 =>
  bif !ρ12 then (
  R (.returned (.bool false)) ω13)
  else (
  R (.returned (.bool true)) ω13))))) := by kernel_rfl
theorem E_s (aP_0 : Sl) (w : World) (R : Ending → World → Prop) : E std aP_0 w R = (
  bif decide ((aP_0.n : Int) > 1048576) then (
  R (.returned (.bool true)) w)
  else (
  call1 .sl PP F.laws_toIntS #[Sl.v aP_0] w fun (ρ0 : Sl) ω1 =>
  call2 .str .bool PP F.spec_PathOf #[Sl.v ρ0] ω1 fun (ρ2 : ByteArray) (ρ3 : Bool) ω4 =>
  call1 .sl PP F.laws_toIntS #[Sl.v aP_0] ω4 fun (ρ5 : Sl) ω6 =>
  call2 .str .bool PP F.impl_PathOf #[Sl.v ρ5] ω6 fun (ρ7 : ByteArray) (ρ8 : Bool) ω9 =>
  bif !(ρ7.toList == ρ2.toList) then (
  R (.returned (.bool false)) ω9)
  else (
  bif !(ρ8 == ρ3) then (
  R (.returned (.bool false)) ω9)
  else (
  call1 .sl PP F.laws_toIntS #[Sl.v aP_0] ω9 fun (ρ10 : Sl) ω11 =>
  call1 .bool PP F.laws_eqIntS #[Sl.v ρ5, Sl.v ρ10] ω11 fun (ρ12 : Bool) ω13 =>
  bif !ρ12 then (
  R (.returned (.bool false)) ω13)
  else (
  R (.returned (.bool true)) ω13))))) := E_eq std aP_0 w R
theorem drawsOk : drawsOk PP cfg okD (codeOf Try.f11) = true := by kernel_rfl
theorem calls (aP_0 : Sl) {w : World} {R : Ending → World → Prop} (h : E std aP_0 w R) : Calls PP F.laws_FnExactPathOf #[Sl.v aP_0] w R :=
  calls_of noCount mixed drawOk Try.func11 rfl (c := cfg) (args := [Sl.v aP_0]) rfl (Nat.le_of_ble_eq_true (by kernel_rfl)) drawsOk h
end laws_FnExactPathOf

end Go.Proofs.Ytfainpmcdfckkaa
