/- The texts CodeFi, CodeCl, TabFn, Clo, Code, L1, Law1, Perm, PermMath, FindMath, Find, CmpMath, Basis, CodeSa, Same, Db, CodeCl2 in one (gmerge.py). -/
import Derived.Test.YteplokddaebbeaaGreatRuM2
/- What each function does, step by step, written by a program (Gen.lean); each equation is checked by the kernel. -/
namespace Go.Proofs.YteplokddaebbeaaGreat
open Go
set_option linter.unusedVariables false
set_option maxRecDepth 100000
namespace spec_l7Find
@[reducible] def cfg : Cfg := ⟨54, [(7, [0, 1, 2, 3, 10])], [(1, [0, 1, 2, 3, 10]), (0, [3])], [(6, [0, 1, 2, 3, 9])], [8], [], [13, 12, 21, 89, 36, 108, 74, 75, 104, 78, 125], [73, 117, 103, 46, 4, 30, 40]⟩
def q4 (pr : Prims) (R : Ending → World → Prop) : Exit → Env → World → Prop := fun ex e w => normQ ex (fun e w => contE pr cfg (sub (codeOf Tryz.f105) [1, 1, 1, 1]) (fun e w => wpC pr PP cfg (DD pr) (sub (codeOf Tryz.f105) [1, 1, 1, 1]) (retQ Tryz.f105.results.toList R) e w) e w) (retQ Tryz.f105.results.toList R) e w
def q7 (pr : Prims) (R : Ending → World → Prop) : Exit → Env → World → Prop := fun ex e w => normQ ex (fun e w => contE pr cfg (sub (codeOf Tryz.f105) [1, 1, 1, 1, 1]) (fun e w => wpC pr PP cfg (DD pr) (sub (codeOf Tryz.f105) [1, 1, 1, 1, 1]) (retQ Tryz.f105.results.toList R) e w) e w) (retQ Tryz.f105.results.toList R) e w
def q8 (pr : Prims) (R : Ending → World → Prop) : Exit → Env → World → Prop := fun ex e w => blockQ ex 0 (q7 pr R) e w
def j6 (p_0 : Sl) (q_1 : Sl) (head_2 : Sl) (out_3 : Sl) (from_9 : Int) : Env := [(0, Sl.v p_0), (1, Sl.v q_1), (2, Sl.v head_2), (3, Sl.v out_3), (9, vI from_9)]
def emb7 (p_0 : Sl) (q_1 : Sl) (head_2 : Sl) (out_3 : Sl) (x_10 : Int) : Env := [(0, Sl.v p_0), (1, Sl.v q_1), (2, Sl.v head_2), (3, Sl.v out_3), (10, vI x_10)]
def x0 (out_3 : Sl) : Env := [(3, Sl.v out_3)]
def S7 (pr : Prims) (Q : Exit → Env → World → Prop) : (Env → World → Prop) → Env → World → Prop := fun k e w => wpC pr PP cfg (DD pr) (sub (codeOf Tryz.f105) [1, 1, 1, 1, 0, 1, 0, 0]) (fun ex e w => normQ ex (fun e' w' => k (Env.restr e' (lookN cfg.loops (keyOf (sub (codeOf Tryz.f105) [1, 1, 1, 1, 0, 1, 0, 0])))) w') Q e w) e w
def B7 (pr : Prims) (p_0 : Sl) (q_1 : Sl) (head_2 : Sl) (out_3 : Sl) (x_10 : Int) (w : World) (k : Env → World → Prop) (Q : Exit → Env → World → Prop) : Prop :=
  S7 pr Q k (emb7 p_0 q_1 head_2 out_3 x_10) w
def L7 (pr : Prims) (p_0 : Sl) (q_1 : Sl) (head_2 : Sl) (out_3 : Sl) (x_10 : Int) (w : World) (Q : Exit → Env → World → Prop) : Prop :=
  pr.loop (S7 pr Q) (emb7 p_0 q_1 head_2 out_3 x_10) w
def J6 (pr : Prims) (p_0 : Sl) (q_1 : Sl) (head_2 : Sl) (out_3 : Sl) (from_9 : Int) (w : World) (R : Ending → World → Prop) : Prop :=
  pr.seg (fun e w => wpC pr PP cfg (DD pr) (sub (codeOf Tryz.f105) [1, 1, 1, 1]) (retQ Tryz.f105.results.toList R) e w) (j6 p_0 q_1 head_2 out_3 from_9) w
def E (pr : Prims) (p_0 : Sl) (q_1 : Sl) (head_2 : Sl) (out_3 : Sl) (w : World) (R : Ending → World → Prop) : Prop :=
  wpC pr PP cfg (DD pr) (codeOf Tryz.f105) (retQ Tryz.f105.results.toList R) (argE 0 [Sl.v p_0, Sl.v q_1, Sl.v head_2, Sl.v out_3]) w
theorem B7_eq (pr : Prims) (p_0 : Sl) (q_1 : Sl) (head_2 : Sl) (out_3 : Sl) (x_10 : Int) (w : World) (k : Env → World → Prop) (Q : Exit → Env → World → Prop) : B7 pr p_0 q_1 head_2 out_3 x_10 w k Q = (
  bif decide (x_10 ≤ (p_0.n : Int)) then (
  pr.sem1 .sl PP (Instr.buildSlice T_Sint 0 #[]) w fun (ρ9 : Sl) ω10 =>
  pr.sem1 .sl PP (Builtin.append_ #[T_Sint, T_Sint] T_Sint #[Sl.v ρ9, Sl.v head_2]) ω10 fun (ρ11 : Sl) ω12 =>
  pr.sem1 .sl PP (Instr.buildSlice T_Sint 1 #[(0, vI x_10)]) ω12 fun (ρ13 : Sl) ω14 =>
  pr.sem1 .sl PP (Builtin.append_ #[T_Sint, T_Sint] T_Sint #[Sl.v ρ11, Sl.v ρ13]) ω14 fun (ρ15 : Sl) ω16 =>
  pr.call1 .bool PP F.spec_l7Fits #[Sl.v p_0, Sl.v q_1, Sl.v ρ15] ω16 fun (ρ17 : Bool) ω18 =>
  bif ρ17 then (
  pr.call1 .sl PP F.spec_l7Find #[Sl.v p_0, Sl.v q_1, Sl.v ρ15, Sl.v out_3] ω18 fun (ρ19 : Sl) ω20 =>
  k (emb7 p_0 q_1 head_2 ρ19 (w64 (x_10 + 1))) ω20)
  else (
  k (emb7 p_0 q_1 head_2 out_3 (w64 (x_10 + 1))) ω18))
  else (
  Q (.exit 0) (x0 out_3) w)) := by kernel_rfl
theorem B7_s (p_0 : Sl) (q_1 : Sl) (head_2 : Sl) (out_3 : Sl) (x_10 : Int) (w : World) (k : Env → World → Prop) (Q : Exit → Env → World → Prop) : B7 std p_0 q_1 head_2 out_3 x_10 w k Q = (
  bif decide (x_10 ≤ (p_0.n : Int)) then (
  sem1 .sl PP (Instr.buildSlice T_Sint 0 #[]) w fun (ρ9 : Sl) ω10 =>
  sem1 .sl PP (Builtin.append_ #[T_Sint, T_Sint] T_Sint #[Sl.v ρ9, Sl.v head_2]) ω10 fun (ρ11 : Sl) ω12 =>
  sem1 .sl PP (Instr.buildSlice T_Sint 1 #[(0, vI x_10)]) ω12 fun (ρ13 : Sl) ω14 =>
  sem1 .sl PP (Builtin.append_ #[T_Sint, T_Sint] T_Sint #[Sl.v ρ11, Sl.v ρ13]) ω14 fun (ρ15 : Sl) ω16 =>
  call1 .bool PP F.spec_l7Fits #[Sl.v p_0, Sl.v q_1, Sl.v ρ15] ω16 fun (ρ17 : Bool) ω18 =>
  bif ρ17 then (
  call1 .sl PP F.spec_l7Find #[Sl.v p_0, Sl.v q_1, Sl.v ρ15, Sl.v out_3] ω18 fun (ρ19 : Sl) ω20 =>
  k (emb7 p_0 q_1 head_2 ρ19 (w64 (x_10 + 1))) ω20)
  else (
  k (emb7 p_0 q_1 head_2 out_3 (w64 (x_10 + 1))) ω18))
  else (
  Q (.exit 0) (x0 out_3) w)) := B7_eq std p_0 q_1 head_2 out_3 x_10 w k Q
theorem L7_rule (p_0 : Sl) (q_1 : Sl) (head_2 : Sl) (out_3 : Sl) (x_10 : Int) (w : World) (Q : Exit → Env → World → Prop) (I : Sl → Int → World → Prop) (μ : Sl → Int → World → Nat) (h0 : I out_3 x_10 w)
    (h : ∀ (out_3 : Sl) (x_10 : Int) (w' : World), I out_3 x_10 w' → B7 std p_0 q_1 head_2 out_3 x_10 w' (fun e2 w2 => ∃ out_3_n x_10_n, e2 = emb7 p_0 q_1 head_2 out_3_n x_10_n ∧ I out_3_n x_10_n w2 ∧ μ out_3_n x_10_n w2 < μ out_3 x_10 w') Q) :
    L7 std p_0 q_1 head_2 out_3 x_10 w Q := by
  unfold L7
  refine LoopE.intro (σ := Sl × Int) (step := S7 std Q) (fun s => emb7 p_0 q_1 head_2 s.1 s.2) (fun s w => I s.1 s.2 w) (fun s w => μ s.1 s.2 w) (out_3, x_10) rfl h0 ?_
  intro s w' hI
  have h1 := h s.1 s.2 w' hI
  unfold B7 at h1
  simp only [Prod.exists]
  exact h1
theorem A7_0_eq (pr : Prims) (out_3 : Sl) (w : World) (R : Ending → World → Prop) : (q8 pr R) (.exit 0) (x0 out_3) w = (
  R (.returned (Sl.v out_3)) w) := by kernel_rfl
theorem A7_0_s (out_3 : Sl) (w : World) (R : Ending → World → Prop) : (q8 std R) (.exit 0) (x0 out_3) w = (
  R (.returned (Sl.v out_3)) w) := A7_0_eq std out_3 w R
theorem J6_gen (pr : Prims) (p_0 : Sl) (q_1 : Sl) (head_2 : Sl) (out_3 : Sl) (from_9 : Int) (w : World) (R : Ending → World → Prop) : wpC pr PP cfg (DD pr) (sub (codeOf Tryz.f105) [1, 1, 1, 1]) (retQ Tryz.f105.results.toList R) (j6 p_0 q_1 head_2 out_3 from_9) w = (
  L7 pr p_0 q_1 head_2 out_3 from_9 w (q8 pr R)) := by kernel_rfl
theorem J6_s (p_0 : Sl) (q_1 : Sl) (head_2 : Sl) (out_3 : Sl) (from_9 : Int) (w : World) (R : Ending → World → Prop) : J6 std p_0 q_1 head_2 out_3 from_9 w R = (
  L7 std p_0 q_1 head_2 out_3 from_9 w (q8 std R)) := J6_gen std p_0 q_1 head_2 out_3 from_9 w R
theorem E_eq (pr : Prims) (p_0 : Sl) (q_1 : Sl) (head_2 : Sl) (out_3 : Sl) (w : World) (R : Ending → World → Prop) : E pr p_0 q_1 head_2 out_3 w R = (
  bif (head_2.n : Int) == (q_1.n : Int) then (
  pr.sem1 .sl PP (Instr.buildSlice T_SSint 1 #[(0, Sl.v head_2)]) w fun (ρ0 : Sl) ω1 =>
  pr.sem1 .sl PP (Builtin.append_ #[T_SSint, T_SSint] T_SSint #[Sl.v out_3, Sl.v ρ0]) ω1 fun (ρ2 : Sl) ω3 =>
  R (.returned (Sl.v ρ2)) ω3)
  else (
  bif decide ((head_2.n : Int) > 0) then (
  pr.idxK 1 head_2 (w64 ((head_2.n : Int) - 1)) fun (a5 : Addr) =>
  pr.load1 (.int .i64) a5 w fun (ξ6 : Int) =>
  J6 pr p_0 q_1 head_2 out_3 (w64 (ξ6 + 1)) w R)
  else (
  J6 pr p_0 q_1 head_2 out_3 1 w R))) := by kernel_rfl
theorem E_s (p_0 : Sl) (q_1 : Sl) (head_2 : Sl) (out_3 : Sl) (w : World) (R : Ending → World → Prop) : E std p_0 q_1 head_2 out_3 w R = (
  bif (head_2.n : Int) == (q_1.n : Int) then (
  sem1 .sl PP (Instr.buildSlice T_SSint 1 #[(0, Sl.v head_2)]) w fun (ρ0 : Sl) ω1 =>
  sem1 .sl PP (Builtin.append_ #[T_SSint, T_SSint] T_SSint #[Sl.v out_3, Sl.v ρ0]) ω1 fun (ρ2 : Sl) ω3 =>
  R (.returned (Sl.v ρ2)) ω3)
  else (
  bif decide ((head_2.n : Int) > 0) then (
  idxK 1 head_2 (w64 ((head_2.n : Int) - 1)) fun (a5 : Addr) =>
  load1 (.int .i64) a5 w fun (ξ6 : Int) =>
  J6 std p_0 q_1 head_2 out_3 (w64 (ξ6 + 1)) w R)
  else (
  J6 std p_0 q_1 head_2 out_3 1 w R))) := E_eq std p_0 q_1 head_2 out_3 w R
theorem drawsOk : drawsOk PP cfg okD (codeOf Tryz.f105) = true := by kernel_rfl
theorem calls (p_0 : Sl) (q_1 : Sl) (head_2 : Sl) (out_3 : Sl) {w : World} {R : Ending → World → Prop} (h : E std p_0 q_1 head_2 out_3 w R) : Calls PP F.spec_l7Find #[Sl.v p_0, Sl.v q_1, Sl.v head_2, Sl.v out_3] w R :=
  calls_of noCount mixed drawOk Tryz.func105 rfl (c := cfg) (args := [Sl.v p_0, Sl.v q_1, Sl.v head_2, Sl.v out_3]) rfl (Nat.le_of_ble_eq_true (by kernel_rfl)) drawsOk h
end spec_l7Find

namespace spec_l7Has
@[reducible] def cfg : Cfg := ⟨12, [], [], [], [4], [], [13, 12, 21, 89, 36, 108, 74, 75, 104, 78, 125], [73, 117, 103, 46, 4, 30, 40]⟩
def E (pr : Prims) (p_0 : Sl) (q_1 : Sl) (w : World) (R : Ending → World → Prop) : Prop :=
  wpC pr PP cfg (DD pr) (codeOf Tryz.f76) (retQ Tryz.f76.results.toList R) (argE 0 [Sl.v p_0, Sl.v q_1]) w
theorem E_eq (pr : Prims) (p_0 : Sl) (q_1 : Sl) (w : World) (R : Ending → World → Prop) : E pr p_0 q_1 w R = (
  pr.sem1 .sl PP (Instr.buildSlice T_Sint 0 #[]) w fun (ρ0 : Sl) ω1 =>
  pr.sem1 .sl PP (Instr.buildSlice T_SSint 0 #[]) ω1 fun (ρ2 : Sl) ω3 =>
  pr.call1 .sl PP F.spec_l7Find #[Sl.v p_0, Sl.v q_1, Sl.v ρ0, Sl.v ρ2] ω3 fun (ρ4 : Sl) ω5 =>
  R (.returned (.bool (decide ((ρ4.n : Int) > 0)))) ω5) := by kernel_rfl
theorem E_s (p_0 : Sl) (q_1 : Sl) (w : World) (R : Ending → World → Prop) : E std p_0 q_1 w R = (
  sem1 .sl PP (Instr.buildSlice T_Sint 0 #[]) w fun (ρ0 : Sl) ω1 =>
  sem1 .sl PP (Instr.buildSlice T_SSint 0 #[]) ω1 fun (ρ2 : Sl) ω3 =>
  call1 .sl PP F.spec_l7Find #[Sl.v p_0, Sl.v q_1, Sl.v ρ0, Sl.v ρ2] ω3 fun (ρ4 : Sl) ω5 =>
  R (.returned (.bool (decide ((ρ4.n : Int) > 0)))) ω5) := E_eq std p_0 q_1 w R
theorem drawsOk : drawsOk PP cfg okD (codeOf Tryz.f76) = true := by kernel_rfl
theorem calls (p_0 : Sl) (q_1 : Sl) {w : World} {R : Ending → World → Prop} (h : E std p_0 q_1 w R) : Calls PP F.spec_l7Has #[Sl.v p_0, Sl.v q_1] w R :=
  calls_of noCount mixed drawOk Tryz.func76 rfl (c := cfg) (args := [Sl.v p_0, Sl.v q_1]) rfl (Nat.le_of_ble_eq_true (by kernel_rfl)) drawsOk h
end spec_l7Has

namespace spec_l7Fits
@[reducible] def cfg : Cfg := ⟨44, [(3, [0, 1, 2, 7, 8])], [(1, [0, 1, 2, 7, 8]), (0, [])], [], [6], [5], [13, 12, 21, 89, 36, 108, 74, 75, 104, 78, 125], [73, 117, 103, 46, 4, 30, 40]⟩
def q0 (pr : Prims) (R : Ending → World → Prop) : Exit → Env → World → Prop := fun ex e w => normQ ex (fun e w => contE pr cfg (sub (codeOf Tryz.f125) [1, 1, 1]) (fun e w => wpC pr PP cfg (DD pr) (sub (codeOf Tryz.f125) [1, 1, 1]) (retQ Tryz.f125.results.toList R) e w) e w) (retQ Tryz.f125.results.toList R) e w
def q1 (pr : Prims) (R : Ending → World → Prop) : Exit → Env → World → Prop := fun ex e w => blockQ ex 0 (q0 pr R) e w
def emb3 (p_0 : Sl) (q_1 : Sl) (places_2 : Sl) (last_7 : Int) (k_8 : Int) : Env := [(0, Sl.v p_0), (1, Sl.v q_1), (2, Sl.v places_2), (7, vI last_7), (8, vI k_8)]
def x0 : Env := []
def S3 (pr : Prims) (Q : Exit → Env → World → Prop) : (Env → World → Prop) → Env → World → Prop := fun k e w => wpC pr PP cfg (DD pr) (sub (codeOf Tryz.f125) [1, 1, 0, 1, 0, 0]) (fun ex e w => normQ ex (fun e' w' => k (Env.restr e' (lookN cfg.loops (keyOf (sub (codeOf Tryz.f125) [1, 1, 0, 1, 0, 0])))) w') Q e w) e w
def B3 (pr : Prims) (p_0 : Sl) (q_1 : Sl) (places_2 : Sl) (last_7 : Int) (k_8 : Int) (w : World) (k : Env → World → Prop) (Q : Exit → Env → World → Prop) : Prop :=
  S3 pr Q k (emb3 p_0 q_1 places_2 last_7 k_8) w
def L3 (pr : Prims) (p_0 : Sl) (q_1 : Sl) (places_2 : Sl) (last_7 : Int) (k_8 : Int) (w : World) (Q : Exit → Env → World → Prop) : Prop :=
  pr.loop (S3 pr Q) (emb3 p_0 q_1 places_2 last_7 k_8) w
def E (pr : Prims) (p_0 : Sl) (q_1 : Sl) (places_2 : Sl) (w : World) (R : Ending → World → Prop) : Prop :=
  wpC pr PP cfg (DD pr) (codeOf Tryz.f125) (retQ Tryz.f125.results.toList R) (argE 0 [Sl.v p_0, Sl.v q_1, Sl.v places_2]) w
theorem B3_eq (pr : Prims) (p_0 : Sl) (q_1 : Sl) (places_2 : Sl) (last_7 : Int) (k_8 : Int) (w : World) (k : Env → World → Prop) (Q : Exit → Env → World → Prop) : B3 pr p_0 q_1 places_2 last_7 k_8 w k Q = (
  bif decide (k_8 < last_7) then (
  pr.idxK 1 q_1 k_8 fun (a2 : Addr) =>
  pr.load1 (.int .i64) a2 w fun (ξ3 : Int) =>
  pr.idxK 1 q_1 last_7 fun (a4 : Addr) =>
  pr.load1 (.int .i64) a4 w fun (ξ5 : Int) =>
  pr.idxK 1 places_2 k_8 fun (a6 : Addr) =>
  pr.load1 (.int .i64) a6 w fun (ξ7 : Int) =>
  pr.idxK 1 p_0 (w64 (ξ7 - 1)) fun (a8 : Addr) =>
  pr.load1 (.int .i64) a8 w fun (ξ9 : Int) =>
  pr.idxK 1 places_2 last_7 fun (a10 : Addr) =>
  pr.load1 (.int .i64) a10 w fun (ξ11 : Int) =>
  pr.idxK 1 p_0 (w64 (ξ11 - 1)) fun (a12 : Addr) =>
  pr.load1 (.int .i64) a12 w fun (ξ13 : Int) =>
  pr.drewAll w fun ω14 =>
  bif !((decide (ξ3 < ξ5)) == (decide (ξ9 < ξ13))) then (
  Q .ret [(6, .bool false)] ω14)
  else (
  k (emb3 p_0 q_1 places_2 last_7 (w64 (k_8 + 1))) ω14))
  else (
  Q (.exit 0) (x0) w)) := by kernel_rfl
theorem B3_s (p_0 : Sl) (q_1 : Sl) (places_2 : Sl) (last_7 : Int) (k_8 : Int) (w : World) (k : Env → World → Prop) (Q : Exit → Env → World → Prop) : B3 std p_0 q_1 places_2 last_7 k_8 w k Q = (
  bif decide (k_8 < last_7) then (
  idxK 1 q_1 k_8 fun (a2 : Addr) =>
  load1 (.int .i64) a2 w fun (ξ3 : Int) =>
  idxK 1 q_1 last_7 fun (a4 : Addr) =>
  load1 (.int .i64) a4 w fun (ξ5 : Int) =>
  idxK 1 places_2 k_8 fun (a6 : Addr) =>
  load1 (.int .i64) a6 w fun (ξ7 : Int) =>
  idxK 1 p_0 (w64 (ξ7 - 1)) fun (a8 : Addr) =>
  load1 (.int .i64) a8 w fun (ξ9 : Int) =>
  idxK 1 places_2 last_7 fun (a10 : Addr) =>
  load1 (.int .i64) a10 w fun (ξ11 : Int) =>
  idxK 1 p_0 (w64 (ξ11 - 1)) fun (a12 : Addr) =>
  load1 (.int .i64) a12 w fun (ξ13 : Int) =>
  drewAll w fun ω14 =>
  bif !((decide (ξ3 < ξ5)) == (decide (ξ9 < ξ13))) then (
  Q .ret [(6, .bool false)] ω14)
  else (
  k (emb3 p_0 q_1 places_2 last_7 (w64 (k_8 + 1))) ω14))
  else (
  Q (.exit 0) (x0) w)) := B3_eq std p_0 q_1 places_2 last_7 k_8 w k Q
theorem L3_rule (p_0 : Sl) (q_1 : Sl) (places_2 : Sl) (last_7 : Int) (k_8 : Int) (w : World) (Q : Exit → Env → World → Prop) (I : Int → World → Prop) (μ : Int → World → Nat) (h0 : I k_8 w)
    (h : ∀ (k_8 : Int) (w' : World), I k_8 w' → B3 std p_0 q_1 places_2 last_7 k_8 w' (fun e2 w2 => ∃ k_8_n, e2 = emb3 p_0 q_1 places_2 last_7 k_8_n ∧ I k_8_n w2 ∧ μ k_8_n w2 < μ k_8 w') Q) :
    L3 std p_0 q_1 places_2 last_7 k_8 w Q := by
  unfold L3
  refine LoopE.intro (σ := Int) (step := S3 std Q) (fun s => emb3 p_0 q_1 places_2 last_7 s) (fun s w => I s w) (fun s w => μ s w) k_8 rfl h0 ?_
  intro s w' hI
  have h1 := h s w' hI
  unfold B3 at h1
  exact h1
theorem A3_0_eq (pr : Prims) (w : World) (R : Ending → World → Prop) : (q1 pr R) (.exit 0) (x0) w = (
  R (.returned (.bool true)) w) := by kernel_rfl
theorem A3_0_s (w : World) (R : Ending → World → Prop) : (q1 std R) (.exit 0) (x0) w = (
  R (.returned (.bool true)) w) := A3_0_eq std w R
theorem R3_eq (pr : Prims) (v6 : Value) (w : World) (R : Ending → World → Prop) : (q1 pr R) .ret [(6, v6)] w = (
  R (.returned (v6)) w) := by kernel_rfl
theorem R3_s (v6 : Value) (w : World) (R : Ending → World → Prop) : (q1 std R) .ret [(6, v6)] w = (
  R (.returned (v6)) w) := R3_eq std v6 w R
theorem E_eq (pr : Prims) (p_0 : Sl) (q_1 : Sl) (places_2 : Sl) (w : World) (R : Ending → World → Prop) : E pr p_0 q_1 places_2 w R = (
  L3 pr p_0 q_1 places_2 (w64 ((places_2.n : Int) - 1)) 0 w (q1 pr R)) := by kernel_rfl
theorem E_s (p_0 : Sl) (q_1 : Sl) (places_2 : Sl) (w : World) (R : Ending → World → Prop) : E std p_0 q_1 places_2 w R = (
  L3 std p_0 q_1 places_2 (w64 ((places_2.n : Int) - 1)) 0 w (q1 std R)) := E_eq std p_0 q_1 places_2 w R
theorem drawsOk : drawsOk PP cfg okD (codeOf Tryz.f125) = true := by kernel_rfl
theorem calls (p_0 : Sl) (q_1 : Sl) (places_2 : Sl) {w : World} {R : Ending → World → Prop} (h : E std p_0 q_1 places_2 w R) : Calls PP F.spec_l7Fits #[Sl.v p_0, Sl.v q_1, Sl.v places_2] w R :=
  calls_of noCount mixed drawOk Tryz.func125 rfl (c := cfg) (args := [Sl.v p_0, Sl.v q_1, Sl.v places_2]) rfl (Nat.le_of_ble_eq_true (by kernel_rfl)) drawsOk h
end spec_l7Fits

namespace impl_has
@[reducible] def cfg : Cfg := ⟨83, [(12, [0, 1, 2, 8, 9, 10, 42, 43, 44]), (8, [0, 1, 2, 8, 9])], [(3, [0, 1, 2, 8, 9, 10, 42, 43, 44]), (2, [0, 1, 2, 8, 9, 10]), (1, [0, 1, 2, 8, 9]), (0, [])], [(6, [0, 1, 2, 7])], [6], [14], [13, 12, 21, 89, 36, 108, 74, 75, 104, 78, 125], [73, 117, 103, 46, 4, 30, 40]⟩
def q0 (pr : Prims) (R : Ending → World → Prop) : Exit → Env → World → Prop := fun ex e w => normQ ex (fun e w => contE pr cfg (sub (codeOf Tryz.f66) [1, 1, 1, 1]) (fun e w => wpC pr PP cfg (DD pr) (sub (codeOf Tryz.f66) [1, 1, 1, 1]) (retQ Tryz.f66.results.toList R) e w) e w) (retQ Tryz.f66.results.toList R) e w
def q3 (pr : Prims) (R : Ending → World → Prop) : Exit → Env → World → Prop := fun ex e w => normQ ex (fun e w => contE pr cfg (sub (codeOf Tryz.f66) [1, 1, 1, 1, 1, 1]) (fun e w => wpC pr PP cfg (DD pr) (sub (codeOf Tryz.f66) [1, 1, 1, 1, 1, 1]) (retQ Tryz.f66.results.toList R) e w) e w) (retQ Tryz.f66.results.toList R) e w
def q4 (pr : Prims) (R : Ending → World → Prop) : Exit → Env → World → Prop := fun ex e w => blockQ ex 0 (q3 pr R) e w
def q5 (pr : Prims) (k : Env → World → Prop) (Q : Exit → Env → World → Prop) : Exit → Env → World → Prop := fun ex e w => normQ ex (fun e w => contE pr cfg (sub (codeOf Tryz.f66) [1, 1, 1, 1, 1, 0, 1, 0, 0, 1, 1]) (fun e w => wpC pr PP cfg (DD pr) (sub (codeOf Tryz.f66) [1, 1, 1, 1, 1, 0, 1, 0, 0, 1, 1]) (fun ex e w => normQ ex (fun e' w' => k (Env.restr e' (lookN cfg.loops (keyOf (sub (codeOf Tryz.f66) [1, 1, 1, 1, 1, 0, 1, 0, 0])))) w') Q e w) e w) e w) (fun ex e w => normQ ex (fun e' w' => k (Env.restr e' (lookN cfg.loops (keyOf (sub (codeOf Tryz.f66) [1, 1, 1, 1, 1, 0, 1, 0, 0])))) w') Q e w) e w
def q6 (pr : Prims) (k : Env → World → Prop) (Q : Exit → Env → World → Prop) : Exit → Env → World → Prop := fun ex e w => blockQ ex 1 (q5 pr k Q) e w
def q7 (pr : Prims) (k : Env → World → Prop) (Q : Exit → Env → World → Prop) : Exit → Env → World → Prop := fun ex e w => normQ ex (fun e w => contE pr cfg (sub (codeOf Tryz.f66) [1, 1, 1, 1, 1, 0, 1, 0, 0, 1, 0, 0, 1, 1]) (fun e w => wpC pr PP cfg (DD pr) (sub (codeOf Tryz.f66) [1, 1, 1, 1, 1, 0, 1, 0, 0, 1, 0, 0, 1, 1]) (q6 pr k Q) e w) e w) (q6 pr k Q) e w
def q8 (pr : Prims) (k : Env → World → Prop) (Q : Exit → Env → World → Prop) : Exit → Env → World → Prop := fun ex e w => blockQ ex 2 (q7 pr k Q) e w
def j6 (p_0 : Sl) (q_1 : Sl) (chosen_2 : Sl) (from_7 : Int) : Env := [(0, Sl.v p_0), (1, Sl.v q_1), (2, Sl.v chosen_2), (7, vI from_7)]
def emb8 (p_0 : Sl) (q_1 : Sl) (chosen_2 : Sl) (k_8 : Int) (i_9 : Int) : Env := [(0, Sl.v p_0), (1, Sl.v q_1), (2, Sl.v chosen_2), (8, vI k_8), (9, vI i_9)]
def emb12 (p_0 : Sl) (q_1 : Sl) (chosen_2 : Sl) (k_8 : Int) (i_9 : Int) (fits_10 : Bool) (t42 : Sl) (t43 : Int) (t44 : Int) : Env := [(0, Sl.v p_0), (1, Sl.v q_1), (2, Sl.v chosen_2), (8, vI k_8), (9, vI i_9), (10, .bool fits_10), (42, Sl.v t42), (43, vI t43), (44, vI t44)]
def x2 (p_0 : Sl) (q_1 : Sl) (chosen_2 : Sl) (k_8 : Int) (i_9 : Int) (fits_10 : Bool) : Env := [(0, Sl.v p_0), (1, Sl.v q_1), (2, Sl.v chosen_2), (8, vI k_8), (9, vI i_9), (10, .bool fits_10)]
def x0 : Env := []
def S12 (pr : Prims) (Q : Exit → Env → World → Prop) : (Env → World → Prop) → Env → World → Prop := fun k e w => wpC pr PP cfg (DD pr) (sub (codeOf Tryz.f66) [1, 1, 1, 1, 1, 0, 1, 0, 0, 1, 0, 0, 1, 0, 1, 0, 0]) (fun ex e w => normQ ex (fun e' w' => k (Env.restr e' (lookN cfg.loops (keyOf (sub (codeOf Tryz.f66) [1, 1, 1, 1, 1, 0, 1, 0, 0, 1, 0, 0, 1, 0, 1, 0, 0])))) w') Q e w) e w
def S8 (pr : Prims) (Q : Exit → Env → World → Prop) : (Env → World → Prop) → Env → World → Prop := fun k e w => wpC pr PP cfg (DD pr) (sub (codeOf Tryz.f66) [1, 1, 1, 1, 1, 0, 1, 0, 0]) (fun ex e w => normQ ex (fun e' w' => k (Env.restr e' (lookN cfg.loops (keyOf (sub (codeOf Tryz.f66) [1, 1, 1, 1, 1, 0, 1, 0, 0])))) w') Q e w) e w
def B12 (pr : Prims) (p_0 : Sl) (q_1 : Sl) (chosen_2 : Sl) (k_8 : Int) (i_9 : Int) (fits_10 : Bool) (t42 : Sl) (t43 : Int) (t44 : Int) (w : World) (k : Env → World → Prop) (Q : Exit → Env → World → Prop) : Prop :=
  S12 pr Q k (emb12 p_0 q_1 chosen_2 k_8 i_9 fits_10 t42 t43 t44) w
def L12 (pr : Prims) (p_0 : Sl) (q_1 : Sl) (chosen_2 : Sl) (k_8 : Int) (i_9 : Int) (fits_10 : Bool) (t42 : Sl) (t43 : Int) (t44 : Int) (w : World) (Q : Exit → Env → World → Prop) : Prop :=
  pr.loop (S12 pr Q) (emb12 p_0 q_1 chosen_2 k_8 i_9 fits_10 t42 t43 t44) w
def B8 (pr : Prims) (p_0 : Sl) (q_1 : Sl) (chosen_2 : Sl) (k_8 : Int) (i_9 : Int) (w : World) (k : Env → World → Prop) (Q : Exit → Env → World → Prop) : Prop :=
  S8 pr Q k (emb8 p_0 q_1 chosen_2 k_8 i_9) w
def L8 (pr : Prims) (p_0 : Sl) (q_1 : Sl) (chosen_2 : Sl) (k_8 : Int) (i_9 : Int) (w : World) (Q : Exit → Env → World → Prop) : Prop :=
  pr.loop (S8 pr Q) (emb8 p_0 q_1 chosen_2 k_8 i_9) w
def J6 (pr : Prims) (p_0 : Sl) (q_1 : Sl) (chosen_2 : Sl) (from_7 : Int) (w : World) (R : Ending → World → Prop) : Prop :=
  pr.seg (fun e w => wpC pr PP cfg (DD pr) (sub (codeOf Tryz.f66) [1, 1, 1, 1]) (retQ Tryz.f66.results.toList R) e w) (j6 p_0 q_1 chosen_2 from_7) w
def E (pr : Prims) (p_0 : Sl) (q_1 : Sl) (chosen_2 : Sl) (w : World) (R : Ending → World → Prop) : Prop :=
  wpC pr PP cfg (DD pr) (codeOf Tryz.f66) (retQ Tryz.f66.results.toList R) (argE 0 [Sl.v p_0, Sl.v q_1, Sl.v chosen_2]) w
theorem B12_eq (pr : Prims) (p_0 : Sl) (q_1 : Sl) (chosen_2 : Sl) (k_8 : Int) (i_9 : Int) (fits_10 : Bool) (t42 : Sl) (t43 : Int) (t44 : Int) (w : World) (k : Env → World → Prop) (Q : Exit → Env → World → Prop) : B12 pr p_0 q_1 chosen_2 k_8 i_9 fits_10 t42 t43 t44 w k Q = (
  bif decide (t44 < t43) then (
  pr.idxK 1 t42 t44 fun (a9 : Addr) =>
  pr.load1 (.int .i64) a9 w fun (ξ10 : Int) =>
  bif fits_10 then (
  pr.idxK 1 p_0 ξ10 fun (a11 : Addr) =>
  pr.load1 (.int .i64) a11 w fun (ξ12 : Int) =>
  pr.idxK 1 p_0 i_9 fun (a13 : Addr) =>
  pr.load1 (.int .i64) a13 w fun (ξ14 : Int) =>
  pr.idxK 1 q_1 t44 fun (a15 : Addr) =>
  pr.load1 (.int .i64) a15 w fun (ξ16 : Int) =>
  pr.idxK 1 q_1 k_8 fun (a17 : Addr) =>
  pr.load1 (.int .i64) a17 w fun (ξ18 : Int) =>
  pr.drewAll w fun ω19 =>
  k (emb12 p_0 q_1 chosen_2 k_8 i_9 ((decide (ξ12 < ξ14)) == (decide (ξ16 < ξ18))) t42 t43 (w64 (t44 + 1))) ω19)
  else (
  pr.drewAll w fun ω20 =>
  k (emb12 p_0 q_1 chosen_2 k_8 i_9 false t42 t43 (w64 (t44 + 1))) ω20))
  else (
  Q (.exit 2) (x2 p_0 q_1 chosen_2 k_8 i_9 fits_10) w)) := by kernel_rfl
theorem B12_s (p_0 : Sl) (q_1 : Sl) (chosen_2 : Sl) (k_8 : Int) (i_9 : Int) (fits_10 : Bool) (t42 : Sl) (t43 : Int) (t44 : Int) (w : World) (k : Env → World → Prop) (Q : Exit → Env → World → Prop) : B12 std p_0 q_1 chosen_2 k_8 i_9 fits_10 t42 t43 t44 w k Q = (
  bif decide (t44 < t43) then (
  idxK 1 t42 t44 fun (a9 : Addr) =>
  load1 (.int .i64) a9 w fun (ξ10 : Int) =>
  bif fits_10 then (
  idxK 1 p_0 ξ10 fun (a11 : Addr) =>
  load1 (.int .i64) a11 w fun (ξ12 : Int) =>
  idxK 1 p_0 i_9 fun (a13 : Addr) =>
  load1 (.int .i64) a13 w fun (ξ14 : Int) =>
  idxK 1 q_1 t44 fun (a15 : Addr) =>
  load1 (.int .i64) a15 w fun (ξ16 : Int) =>
  idxK 1 q_1 k_8 fun (a17 : Addr) =>
  load1 (.int .i64) a17 w fun (ξ18 : Int) =>
  drewAll w fun ω19 =>
  k (emb12 p_0 q_1 chosen_2 k_8 i_9 ((decide (ξ12 < ξ14)) == (decide (ξ16 < ξ18))) t42 t43 (w64 (t44 + 1))) ω19)
  else (
  drewAll w fun ω20 =>
  k (emb12 p_0 q_1 chosen_2 k_8 i_9 false t42 t43 (w64 (t44 + 1))) ω20))
  else (
  Q (.exit 2) (x2 p_0 q_1 chosen_2 k_8 i_9 fits_10) w)) := B12_eq std p_0 q_1 chosen_2 k_8 i_9 fits_10 t42 t43 t44 w k Q
theorem L12_rule (p_0 : Sl) (q_1 : Sl) (chosen_2 : Sl) (k_8 : Int) (i_9 : Int) (fits_10 : Bool) (t42 : Sl) (t43 : Int) (t44 : Int) (w : World) (Q : Exit → Env → World → Prop) (I : Bool → Int → World → Prop) (μ : Bool → Int → World → Nat) (h0 : I fits_10 t44 w)
    (h : ∀ (fits_10 : Bool) (t44 : Int) (w' : World), I fits_10 t44 w' → B12 std p_0 q_1 chosen_2 k_8 i_9 fits_10 t42 t43 t44 w' (fun e2 w2 => ∃ fits_10_n t44_n, e2 = emb12 p_0 q_1 chosen_2 k_8 i_9 fits_10_n t42 t43 t44_n ∧ I fits_10_n t44_n w2 ∧ μ fits_10_n t44_n w2 < μ fits_10 t44 w') Q) :
    L12 std p_0 q_1 chosen_2 k_8 i_9 fits_10 t42 t43 t44 w Q := by
  unfold L12
  refine LoopE.intro (σ := Bool × Int) (step := S12 std Q) (fun s => emb12 p_0 q_1 chosen_2 k_8 i_9 s.1 t42 t43 s.2) (fun s w => I s.1 s.2 w) (fun s w => μ s.1 s.2 w) (fits_10, t44) rfl h0 ?_
  intro s w' hI
  have h1 := h s.1 s.2 w' hI
  unfold B12 at h1
  simp only [Prod.exists]
  exact h1
theorem A12_2_eq (pr : Prims) (p_0 : Sl) (q_1 : Sl) (chosen_2 : Sl) (k_8 : Int) (i_9 : Int) (fits_10 : Bool) (w : World) (k : Env → World → Prop) (Q : Exit → Env → World → Prop) : (q8 pr k Q) (.exit 2) (x2 p_0 q_1 chosen_2 k_8 i_9 fits_10) w = (
  bif fits_10 then (
  pr.call1 .sl PP F.slices_Clone___int_int_ #[Sl.v chosen_2] w fun (ρ21 : Sl) ω22 =>
  pr.sem1 .sl PP (Instr.buildSlice T_Sint 1 #[(0, vI i_9)]) ω22 fun (ρ23 : Sl) ω24 =>
  pr.sem1 .sl PP (Builtin.append_ #[T_Sint, T_Sint] T_Sint #[Sl.v ρ21, Sl.v ρ23]) ω24 fun (ρ25 : Sl) ω26 =>
  pr.call1 .bool PP F.impl_has #[Sl.v p_0, Sl.v q_1, Sl.v ρ25] ω26 fun (ρ27 : Bool) ω28 =>
  bif ρ27 then (
  Q .ret [(6, .bool true)] ω28)
  else (
  k (emb8 p_0 q_1 chosen_2 k_8 (w64 (i_9 + 1))) ω28))
  else (
  k (emb8 p_0 q_1 chosen_2 k_8 (w64 (i_9 + 1))) w)) := by kernel_rfl
theorem A12_2_s (p_0 : Sl) (q_1 : Sl) (chosen_2 : Sl) (k_8 : Int) (i_9 : Int) (fits_10 : Bool) (w : World) (k : Env → World → Prop) (Q : Exit → Env → World → Prop) : (q8 std k Q) (.exit 2) (x2 p_0 q_1 chosen_2 k_8 i_9 fits_10) w = (
  bif fits_10 then (
  call1 .sl PP F.slices_Clone___int_int_ #[Sl.v chosen_2] w fun (ρ21 : Sl) ω22 =>
  sem1 .sl PP (Instr.buildSlice T_Sint 1 #[(0, vI i_9)]) ω22 fun (ρ23 : Sl) ω24 =>
  sem1 .sl PP (Builtin.append_ #[T_Sint, T_Sint] T_Sint #[Sl.v ρ21, Sl.v ρ23]) ω24 fun (ρ25 : Sl) ω26 =>
  call1 .bool PP F.impl_has #[Sl.v p_0, Sl.v q_1, Sl.v ρ25] ω26 fun (ρ27 : Bool) ω28 =>
  bif ρ27 then (
  Q .ret [(6, .bool true)] ω28)
  else (
  k (emb8 p_0 q_1 chosen_2 k_8 (w64 (i_9 + 1))) ω28))
  else (
  k (emb8 p_0 q_1 chosen_2 k_8 (w64 (i_9 + 1))) w)) := A12_2_eq std p_0 q_1 chosen_2 k_8 i_9 fits_10 w k Q
theorem B8_eq (pr : Prims) (p_0 : Sl) (q_1 : Sl) (chosen_2 : Sl) (k_8 : Int) (i_9 : Int) (w : World) (k : Env → World → Prop) (Q : Exit → Env → World → Prop) : B8 pr p_0 q_1 chosen_2 k_8 i_9 w k Q = (
  bif decide (i_9 ≤ (w64 ((p_0.n : Int) - (w64 ((q_1.n : Int) - k_8))))) then (
  L12 pr p_0 q_1 chosen_2 k_8 i_9 true chosen_2 (chosen_2.n : Int) 0 w (q8 pr k Q))
  else (
  Q (.exit 0) (x0) w)) := by kernel_rfl
theorem B8_s (p_0 : Sl) (q_1 : Sl) (chosen_2 : Sl) (k_8 : Int) (i_9 : Int) (w : World) (k : Env → World → Prop) (Q : Exit → Env → World → Prop) : B8 std p_0 q_1 chosen_2 k_8 i_9 w k Q = (
  bif decide (i_9 ≤ (w64 ((p_0.n : Int) - (w64 ((q_1.n : Int) - k_8))))) then (
  L12 std p_0 q_1 chosen_2 k_8 i_9 true chosen_2 (chosen_2.n : Int) 0 w (q8 std k Q))
  else (
  Q (.exit 0) (x0) w)) := B8_eq std p_0 q_1 chosen_2 k_8 i_9 w k Q
theorem L8_rule (p_0 : Sl) (q_1 : Sl) (chosen_2 : Sl) (k_8 : Int) (i_9 : Int) (w : World) (Q : Exit → Env → World → Prop) (I : Int → World → Prop) (μ : Int → World → Nat) (h0 : I i_9 w)
    (h : ∀ (i_9 : Int) (w' : World), I i_9 w' → B8 std p_0 q_1 chosen_2 k_8 i_9 w' (fun e2 w2 => ∃ i_9_n, e2 = emb8 p_0 q_1 chosen_2 k_8 i_9_n ∧ I i_9_n w2 ∧ μ i_9_n w2 < μ i_9 w') Q) :
    L8 std p_0 q_1 chosen_2 k_8 i_9 w Q := by
  unfold L8
  refine LoopE.intro (σ := Int) (step := S8 std Q) (fun s => emb8 p_0 q_1 chosen_2 k_8 s) (fun s w => I s w) (fun s w => μ s w) i_9 rfl h0 ?_
  intro s w' hI
  have h1 := h s w' hI
  unfold B8 at h1
  exact h1
theorem A8_0_eq (pr : Prims) (w : World) (R : Ending → World → Prop) : (q4 pr R) (.exit 0) (x0) w = (
  R (.returned (.bool false)) w) := by kernel_rfl
theorem A8_0_s (w : World) (R : Ending → World → Prop) : (q4 std R) (.exit 0) (x0) w = (
  R (.returned (.bool false)) w) := A8_0_eq std w R
theorem R8_eq (pr : Prims) (v6 : Value) (w : World) (R : Ending → World → Prop) : (q4 pr R) .ret [(6, v6)] w = (
  R (.returned (v6)) w) := by kernel_rfl
theorem R8_s (v6 : Value) (w : World) (R : Ending → World → Prop) : (q4 std R) .ret [(6, v6)] w = (
  R (.returned (v6)) w) := R8_eq std v6 w R
theorem J6_gen (pr : Prims) (p_0 : Sl) (q_1 : Sl) (chosen_2 : Sl) (from_7 : Int) (w : World) (R : Ending → World → Prop) : wpC pr PP cfg (DD pr) (sub (codeOf Tryz.f66) [1, 1, 1, 1]) (retQ Tryz.f66.results.toList R) (j6 p_0 q_1 chosen_2 from_7) w = (
  L8 pr p_0 q_1 chosen_2 (chosen_2.n : Int) from_7 w (q4 pr R)) := by kernel_rfl
theorem J6_s (p_0 : Sl) (q_1 : Sl) (chosen_2 : Sl) (from_7 : Int) (w : World) (R : Ending → World → Prop) : J6 std p_0 q_1 chosen_2 from_7 w R = (
  L8 std p_0 q_1 chosen_2 (chosen_2.n : Int) from_7 w (q4 std R)) := J6_gen std p_0 q_1 chosen_2 from_7 w R
theorem E_eq (pr : Prims) (p_0 : Sl) (q_1 : Sl) (chosen_2 : Sl) (w : World) (R : Ending → World → Prop) : E pr p_0 q_1 chosen_2 w R = (
  bif (chosen_2.n : Int) == (q_1.n : Int) then (
  R (.returned (.bool true)) w)
  else (
  bif decide ((chosen_2.n : Int) > 0) then (
  pr.idxK 1 chosen_2 (w64 ((chosen_2.n : Int) - 1)) fun (a1 : Addr) =>
  pr.load1 (.int .i64) a1 w fun (ξ2 : Int) =>
  J6 pr p_0 q_1 chosen_2 (w64 (ξ2 + 1)) w R)
  else (
  J6 pr p_0 q_1 chosen_2 0 w R))) := by kernel_rfl
theorem E_s (p_0 : Sl) (q_1 : Sl) (chosen_2 : Sl) (w : World) (R : Ending → World → Prop) : E std p_0 q_1 chosen_2 w R = (
  bif (chosen_2.n : Int) == (q_1.n : Int) then (
  R (.returned (.bool true)) w)
  else (
  bif decide ((chosen_2.n : Int) > 0) then (
  idxK 1 chosen_2 (w64 ((chosen_2.n : Int) - 1)) fun (a1 : Addr) =>
  load1 (.int .i64) a1 w fun (ξ2 : Int) =>
  J6 std p_0 q_1 chosen_2 (w64 (ξ2 + 1)) w R)
  else (
  J6 std p_0 q_1 chosen_2 0 w R))) := E_eq std p_0 q_1 chosen_2 w R
theorem drawsOk : drawsOk PP cfg okD (codeOf Tryz.f66) = true := by kernel_rfl
theorem calls (p_0 : Sl) (q_1 : Sl) (chosen_2 : Sl) {w : World} {R : Ending → World → Prop} (h : E std p_0 q_1 chosen_2 w R) : Calls PP F.impl_has #[Sl.v p_0, Sl.v q_1, Sl.v chosen_2] w R :=
  calls_of noCount mixed drawOk Tryz.func66 rfl (c := cfg) (args := [Sl.v p_0, Sl.v q_1, Sl.v chosen_2]) rfl (Nat.le_of_ble_eq_true (by kernel_rfl)) drawsOk h
end impl_has

end Go.Proofs.YteplokddaebbeaaGreat

/- What each function does, step by step, written by a program (Gen.lean); each equation is checked by the kernel. -/
namespace Go.Proofs.YteplokddaebbeaaGreat
open Go
set_option linter.unusedVariables false
set_option maxRecDepth 100000
namespace slices_Clone___int_int_
@[reducible] def cfg : Cfg := ⟨8, [], [], [], [2], [], [13, 12, 21, 89, 36, 108, 74, 75, 104, 78, 125], [73, 117, 103, 46, 4, 30, 40]⟩
def E (pr : Prims) (s_0 : Sl) (w : World) (R : Ending → World → Prop) : Prop :=
  wpC pr PP cfg (DD pr) (codeOf Tryz.f88) (retQ Tryz.f88.results.toList R) (argE 0 [Sl.v s_0]) w
theorem E_eq (pr : Prims) (s_0 : Sl) (w : World) (R : Ending → World → Prop) : E pr s_0 w R = (
  bif s_0.a.isNone then (
  R (.returned (Sl.v Sl.nil)) w)
  else (
  pr.sem1 .sl PP (Instr.buildSlice T_Sint 0 #[]) w fun (ρ0 : Sl) ω1 =>
  pr.sem1 .sl PP (Builtin.append_ #[T_Sint, T_Sint] T_Sint #[Sl.v ρ0, Sl.v s_0]) ω1 fun (ρ2 : Sl) ω3 =>
  R (.returned (Sl.v ρ2)) ω3)) := by kernel_rfl
theorem E_s (s_0 : Sl) (w : World) (R : Ending → World → Prop) : E std s_0 w R = (
  bif s_0.a.isNone then (
  R (.returned (Sl.v Sl.nil)) w)
  else (
  sem1 .sl PP (Instr.buildSlice T_Sint 0 #[]) w fun (ρ0 : Sl) ω1 =>
  sem1 .sl PP (Builtin.append_ #[T_Sint, T_Sint] T_Sint #[Sl.v ρ0, Sl.v s_0]) ω1 fun (ρ2 : Sl) ω3 =>
  R (.returned (Sl.v ρ2)) ω3)) := E_eq std s_0 w R
theorem drawsOk : drawsOk PP cfg okD (codeOf Tryz.f88) = true := by kernel_rfl
theorem calls (s_0 : Sl) {w : World} {R : Ending → World → Prop} (h : E std s_0 w R) : Calls PP F.slices_Clone___int_int_ #[Sl.v s_0] w R :=
  calls_of noCount mixed drawOk Tryz.func88 rfl (c := cfg) (args := [Sl.v s_0]) rfl (Nat.le_of_ble_eq_true (by kernel_rfl)) drawsOk h
end slices_Clone___int_int_

end Go.Proofs.YteplokddaebbeaaGreat

/- Rows given by a function of the place. -/
namespace Go.Proofs.YteplokddaebbeaaGreat
open Go Go.RowKit
set_option maxRecDepth 100000

def tab (n : Nat) (f : Nat → Int) : List Int := (List.range n).map f
theorem tab_length (n : Nat) (f : Nat → Int) : (tab n f).length = n := by simp [tab]
theorem tab_getD {n : Nat} (f : Nat → Int) {i : Nat} (h : i < n) : (tab n f).getD i 0 = f i := by simp [tab, List.getD_eq_getElem?_getD, h]
theorem tab_set {n : Nat} (f : Nat → Int) (i : Nat) (v : Int) : (tab n f).set i v = tab n (fun j => if j = i then v else f j) := by
  apply List.ext_getElem?
  intro k
  simp only [tab, List.getElem?_set, List.getElem?_map, List.length_map, List.length_range]
  by_cases hk : k < n
  · rw [List.getElem?_range hk]
    by_cases hik : i = k
    · subst hik; simp [hk]
    · simp [hik, Ne.symm hik]
  · rw [List.getElem?_eq_none (by simpa using hk)]
    by_cases hik : i = k
    · subst hik; simp [hk]
    · simp [hik]
theorem tab_congr {n : Nat} {f g : Nat → Int} (h : ∀ j, j < n → f j = g j) : tab n f = tab n g := by
  unfold tab; apply List.map_congr_left; intro j hj; exact h j (by simpa using hj)
theorem grownBy_trans {a b c : World} {r : Option Nat} (h : a.grownBy b r) (k : b.grownBy c r) : a.grownBy c r :=
  ⟨k.os.trans h.os, k.tape.trans h.tape, k.output.trans h.output, Nat.le_trans h.size k.size, fun x hx hne => (k.block x (Nat.lt_of_lt_of_le hx h.size) hne).trans (h.block x hx hne)⟩
theorem grownBy_refl (a : World) (r : Option Nat) : a.grownBy a r := ⟨rfl, rfl, rfl, Nat.le_refl _, fun _ _ _ => rfl⟩
theorem Drew.grownBy {a b : World} (h : Drew a b) (r : Option Nat) : a.grownBy b r := by obtain ⟨n, rfl⟩ := h; exact ⟨rfl, rfl, rfl, Nat.le_refl _, fun _ _ _ => rfl⟩
theorem tab_succ (n : Nat) (f : Nat → Int) : tab (n + 1) f = tab n f ++ [f n] := by simp [tab, List.range_succ]
theorem tab_self (L : List Int) : tab L.length (fun k => L.getD k 0) = L := by
  apply List.ext_getElem?
  intro k
  by_cases hk : k < L.length
  · simp [tab, List.getElem?_range hk, List.getD_eq_getElem?_getD, List.getElem?_eq_getElem hk, hk]
  · rw [List.getElem?_eq_none (by simp [tab]; omega), List.getElem?_eq_none (by omega)]
theorem tab_reverse (L : List Int) : tab L.length (fun k => L.getD (L.length - 1 - k) 0) = L.reverse := by
  apply List.ext_getElem?
  intro k
  by_cases hk : k < L.length
  · rw [List.getElem?_reverse hk]
    simp [tab, List.getElem?_range hk, List.getD_eq_getElem?_getD, List.getElem?_eq_getElem (show L.length - 1 - k < L.length by omega)]
  · rw [List.getElem?_eq_none (by simp [tab]; omega), List.getElem?_eq_none (by simp; omega)]
end Go.Proofs.YteplokddaebbeaaGreat

/- The library's Clone of a row of ints. -/
namespace Go.Proofs.YteplokddaebbeaaGreat
open Go Go.RowKit
set_option maxRecDepth 100000

theorem c_Clone {w : World} {a : Sl} {L : List Int} (ha : RowI w a L) (hL : L.length < 2^38) :
    Calls PP F.slices_Clone___int_int_ #[a.v] w fun e w' => ∃ s : Sl, e = .returned s.v ∧ OwnI w' w.heap.size s L ∧ Below w.heap.size w w' := by
  refine slices_Clone___int_int_.calls a ?_
  rw [slices_Clone___int_int_.E_s]
  refine bif_intro (fun h => ?_) (fun h => ?_)
  · have : L = [] := by
      cases L with
      | nil => rfl
      | cons x r => obtain ⟨b, hb, _⟩ := ha.cell 0 (vI x) rfl; rw [hb] at h; cases h
    subst this
    exact ⟨Sl.nil, rfl, Own.nil _ _ _, Below.refl _ _⟩
  · refine lit0 oneInt (B := w.heap.size) (Nat.le_refl _) ?_
    intro t w1 ht hg _
    have hb := below_of_grow hg
    refine append_row oneInt ht hb.size (ha.grow hb) (fun v hv => by obtain ⟨x, _, rfl⟩ := List.mem_map.1 hv; exact One.int x) (by simp; omega) ?_
    intro s w2 hs hg2 _ _
    exact ⟨s, rfl, by simpa using hs, hb.grown hg2 hb.size (fun g hg => (ht.lt g hg).1)⟩
end Go.Proofs.YteplokddaebbeaaGreat

/- What each function does, step by step, written by a program (Gen.lean); each equation is checked by the kernel. -/
namespace Go.Proofs.YteplokddaebbeaaGreat
open Go
set_option linter.unusedVariables false
set_option maxRecDepth 100000
namespace spec_l1In
@[reducible] def cfg : Cfg := ⟨15, [], [], [], [6], [], [13, 12, 21, 89, 36, 108, 74, 75, 104, 78, 125], [73, 117, 103, 46, 4, 30, 40]⟩
def E (pr : Prims) (x_0 : Int) (lo_1 : Int) (hi_2 : Int) (w : World) (R : Ending → World → Prop) : Prop :=
  wpC pr PP cfg (DD pr) (codeOf Tryz.f40) (retQ Tryz.f40.results.toList R) (argE 0 [vI x_0, vI lo_1, vI hi_2]) w
theorem E_eq (pr : Prims) (x_0 : Int) (lo_1 : Int) (hi_2 : Int) (w : World) (R : Ending → World → Prop) : E pr x_0 lo_1 hi_2 w R = (
  bif decide (x_0 ≥ lo_1) then (
  R (.returned (.bool (decide (x_0 ≤ hi_2)))) w)
  else (
  R (.returned (.bool false)) w)) := by kernel_rfl
theorem E_s (x_0 : Int) (lo_1 : Int) (hi_2 : Int) (w : World) (R : Ending → World → Prop) : E std x_0 lo_1 hi_2 w R = (
  bif decide (x_0 ≥ lo_1) then (
  R (.returned (.bool (decide (x_0 ≤ hi_2)))) w)
  else (
  R (.returned (.bool false)) w)) := E_eq std x_0 lo_1 hi_2 w R
theorem drawsOk : drawsOk PP cfg okD (codeOf Tryz.f40) = true := by kernel_rfl
theorem calls (x_0 : Int) (lo_1 : Int) (hi_2 : Int) {w : World} {R : Ending → World → Prop} (h : E std x_0 lo_1 hi_2 w R) : Calls PP F.spec_l1In #[vI x_0, vI lo_1, vI hi_2] w R :=
  calls_of noCount mixed drawOk Tryz.func40 rfl (c := cfg) (args := [vI x_0, vI lo_1, vI hi_2]) rfl (Nat.le_of_ble_eq_true (by kernel_rfl)) drawsOk h
end spec_l1In

namespace spec_l1Bit
@[reducible] def cfg : Cfg := ⟨4, [], [], [], [2], [], [13, 12, 21, 89, 36, 108, 74, 75, 104, 78, 125], [73, 117, 103, 46, 4, 30, 40]⟩
def E (pr : Prims) (on_0 : Bool) (w : World) (R : Ending → World → Prop) : Prop :=
  wpC pr PP cfg (DD pr) (codeOf Tryz.f30) (retQ Tryz.f30.results.toList R) (argE 0 [.bool on_0]) w
theorem E_eq (pr : Prims) (on_0 : Bool) (w : World) (R : Ending → World → Prop) : E pr on_0 w R = (
  bif on_0 then (
  R (.returned (vI 1)) w)
  else (
  R (.returned (vI 0)) w)) := by kernel_rfl
theorem E_s (on_0 : Bool) (w : World) (R : Ending → World → Prop) : E std on_0 w R = (
  bif on_0 then (
  R (.returned (vI 1)) w)
  else (
  R (.returned (vI 0)) w)) := E_eq std on_0 w R
theorem drawsOk : drawsOk PP cfg okD (codeOf Tryz.f30) = true := by kernel_rfl
theorem calls (on_0 : Bool) {w : World} {R : Ending → World → Prop} (h : E std on_0 w R) : Calls PP F.spec_l1Bit #[.bool on_0] w R :=
  calls_of noCount mixed drawOk Tryz.func30 rfl (c := cfg) (args := [.bool on_0]) rfl (Nat.le_of_ble_eq_true (by kernel_rfl)) drawsOk h
end spec_l1Bit

namespace impl_isPerm
@[reducible] def cfg : Cfg := ⟨34, [(3, [0, 3, 10, 11, 12])], [(1, [0, 3, 10, 11, 12]), (0, [])], [], [2], [], [13, 12, 21, 89, 36, 108, 74, 75, 104, 78, 125], [73, 117, 103, 46, 4, 30, 40]⟩
def q2 (pr : Prims) (R : Ending → World → Prop) : Exit → Env → World → Prop := fun ex e w => normQ ex (fun e w => contE pr cfg (sub (codeOf Tryz.f86) [1, 1, 1]) (fun e w => wpC pr PP cfg (DD pr) (sub (codeOf Tryz.f86) [1, 1, 1]) (retQ Tryz.f86.results.toList R) e w) e w) (retQ Tryz.f86.results.toList R) e w
def q3 (pr : Prims) (R : Ending → World → Prop) : Exit → Env → World → Prop := fun ex e w => blockQ ex 0 (q2 pr R) e w
def emb3 (p_0 : Sl) (seen_3 : Sl) (t10 : Sl) (t11 : Int) (t12 : Int) : Env := [(0, Sl.v p_0), (3, Sl.v seen_3), (10, Sl.v t10), (11, vI t11), (12, vI t12)]
def x0 : Env := []
def S3 (pr : Prims) (Q : Exit → Env → World → Prop) : (Env → World → Prop) → Env → World → Prop := fun k e w => wpC pr PP cfg (DD pr) (sub (codeOf Tryz.f86) [1, 1, 0, 1, 0, 0]) (fun ex e w => normQ ex (fun e' w' => k (Env.restr e' (lookN cfg.loops (keyOf (sub (codeOf Tryz.f86) [1, 1, 0, 1, 0, 0])))) w') Q e w) e w
def B3 (pr : Prims) (p_0 : Sl) (seen_3 : Sl) (t10 : Sl) (t11 : Int) (t12 : Int) (w : World) (k : Env → World → Prop) (Q : Exit → Env → World → Prop) : Prop :=
  S3 pr Q k (emb3 p_0 seen_3 t10 t11 t12) w
def L3 (pr : Prims) (p_0 : Sl) (seen_3 : Sl) (t10 : Sl) (t11 : Int) (t12 : Int) (w : World) (Q : Exit → Env → World → Prop) : Prop :=
  pr.loop (S3 pr Q) (emb3 p_0 seen_3 t10 t11 t12) w
def E (pr : Prims) (p_0 : Sl) (w : World) (R : Ending → World → Prop) : Prop :=
  wpC pr PP cfg (DD pr) (codeOf Tryz.f86) (retQ Tryz.f86.results.toList R) (argE 0 [Sl.v p_0]) w
theorem B3_eq (pr : Prims) (p_0 : Sl) (seen_3 : Sl) (t10 : Sl) (t11 : Int) (t12 : Int) (w : World) (k : Env → World → Prop) (Q : Exit → Env → World → Prop) : B3 pr p_0 seen_3 t10 t11 t12 w k Q = (
  bif decide (t12 < t11) then (
  pr.idxK 1 t10 t12 fun (a4 : Addr) =>
  pr.load1 (.int .i64) a4 w fun (ξ5 : Int) =>
  bif decide (ξ5 < 1) then (
  Q .ret [(2, .bool false)] w)
  else (
  bif decide (ξ5 > (p_0.n : Int)) then (
  Q .ret [(2, .bool false)] w)
  else (
  pr.idxK 1 seen_3 ξ5 fun (a6 : Addr) =>
  pr.load1 .bool a6 w fun (ξ7 : Bool) =>
  bif ξ7 then (
  Q .ret [(2, .bool false)] w)
  else (
  pr.idxK 1 seen_3 ξ5 fun (a8 : Addr) =>
  pr.storeC a8 (.bool true) w fun ω9 =>
  k (emb3 p_0 seen_3 t10 t11 (w64 (t12 + 1))) ω9))))
  else (
  Q (.exit 0) (x0) w)) := by kernel_rfl
theorem B3_s (p_0 : Sl) (seen_3 : Sl) (t10 : Sl) (t11 : Int) (t12 : Int) (w : World) (k : Env → World → Prop) (Q : Exit → Env → World → Prop) : B3 std p_0 seen_3 t10 t11 t12 w k Q = (
  bif decide (t12 < t11) then (
  idxK 1 t10 t12 fun (a4 : Addr) =>
  load1 (.int .i64) a4 w fun (ξ5 : Int) =>
  bif decide (ξ5 < 1) then (
  Q .ret [(2, .bool false)] w)
  else (
  bif decide (ξ5 > (p_0.n : Int)) then (
  Q .ret [(2, .bool false)] w)
  else (
  idxK 1 seen_3 ξ5 fun (a6 : Addr) =>
  load1 .bool a6 w fun (ξ7 : Bool) =>
  bif ξ7 then (
  Q .ret [(2, .bool false)] w)
  else (
  idxK 1 seen_3 ξ5 fun (a8 : Addr) =>
  storeC a8 (.bool true) w fun ω9 =>
  k (emb3 p_0 seen_3 t10 t11 (w64 (t12 + 1))) ω9))))
  else (
  Q (.exit 0) (x0) w)) := B3_eq std p_0 seen_3 t10 t11 t12 w k Q
theorem L3_rule (p_0 : Sl) (seen_3 : Sl) (t10 : Sl) (t11 : Int) (t12 : Int) (w : World) (Q : Exit → Env → World → Prop) (I : Int → World → Prop) (μ : Int → World → Nat) (h0 : I t12 w)
    (h : ∀ (t12 : Int) (w' : World), I t12 w' → B3 std p_0 seen_3 t10 t11 t12 w' (fun e2 w2 => ∃ t12_n, e2 = emb3 p_0 seen_3 t10 t11 t12_n ∧ I t12_n w2 ∧ μ t12_n w2 < μ t12 w') Q) :
    L3 std p_0 seen_3 t10 t11 t12 w Q := by
  unfold L3
  refine LoopE.intro (σ := Int) (step := S3 std Q) (fun s => emb3 p_0 seen_3 t10 t11 s) (fun s w => I s w) (fun s w => μ s w) t12 rfl h0 ?_
  intro s w' hI
  have h1 := h s w' hI
  unfold B3 at h1
  exact h1
theorem A3_0_eq (pr : Prims) (w : World) (R : Ending → World → Prop) : (q3 pr R) (.exit 0) (x0) w = (
  R (.returned (.bool true)) w) := by kernel_rfl
theorem A3_0_s (w : World) (R : Ending → World → Prop) : (q3 std R) (.exit 0) (x0) w = (
  R (.returned (.bool true)) w) := A3_0_eq std w R
theorem R3_eq (pr : Prims) (v2 : Value) (w : World) (R : Ending → World → Prop) : (q3 pr R) .ret [(2, v2)] w = (
  R (.returned (v2)) w) := by kernel_rfl
theorem R3_s (v2 : Value) (w : World) (R : Ending → World → Prop) : (q3 std R) .ret [(2, v2)] w = (
  R (.returned (v2)) w) := R3_eq std v2 w R
theorem E_eq (pr : Prims) (p_0 : Sl) (w : World) (R : Ending → World → Prop) : E pr p_0 w R = (
  pr.sem1 .sl PP (Instr.makeSlice T_Sbool (vI (w64 ((p_0.n : Int) + 1))) (vI (w64 ((p_0.n : Int) + 1)))) w fun (ρ0 : Sl) ω1 =>
  L3 pr p_0 ρ0 p_0 (p_0.n : Int) 0 ω1 (q3 pr R)) := by kernel_rfl
theorem E_s (p_0 : Sl) (w : World) (R : Ending → World → Prop) : E std p_0 w R = (
  sem1 .sl PP (Instr.makeSlice T_Sbool (vI (w64 ((p_0.n : Int) + 1))) (vI (w64 ((p_0.n : Int) + 1)))) w fun (ρ0 : Sl) ω1 =>
  L3 std p_0 ρ0 p_0 (p_0.n : Int) 0 ω1 (q3 std R)) := E_eq std p_0 w R
theorem drawsOk : drawsOk PP cfg okD (codeOf Tryz.f86) = true := by kernel_rfl
theorem calls (p_0 : Sl) {w : World} {R : Ending → World → Prop} (h : E std p_0 w R) : Calls PP F.impl_isPerm #[Sl.v p_0] w R :=
  calls_of noCount mixed drawOk Tryz.func86 rfl (c := cfg) (args := [Sl.v p_0]) rfl (Nat.le_of_ble_eq_true (by kernel_rfl)) drawsOk h
end impl_isPerm

namespace impl_IsPerm
@[reducible] def cfg : Cfg := ⟨10, [], [], [], [2], [], [13, 12, 21, 89, 36, 108, 74, 75, 104, 78, 125], [73, 117, 103, 46, 4, 30, 40]⟩
def E (pr : Prims) (p_0 : Sl) (w : World) (R : Ending → World → Prop) : Prop :=
  wpC pr PP cfg (DD pr) (codeOf Tryz.f64) (retQ Tryz.f64.results.toList R) (argE 0 [Sl.v p_0]) w
theorem E_eq (pr : Prims) (p_0 : Sl) (w : World) (R : Ending → World → Prop) : E pr p_0 w R = (
  bif decide ((p_0.n : Int) ≤ 8) then (
  pr.call1 .bool PP F.impl_isPerm #[Sl.v p_0] w fun (ρ0 : Bool) ω1 =>
  R (.returned (.bool ρ0)) ω1)
  else (
  R (.returned (.bool false)) w)) := by kernel_rfl
theorem E_s (p_0 : Sl) (w : World) (R : Ending → World → Prop) : E std p_0 w R = (
  bif decide ((p_0.n : Int) ≤ 8) then (
  call1 .bool PP F.impl_isPerm #[Sl.v p_0] w fun (ρ0 : Bool) ω1 =>
  R (.returned (.bool ρ0)) ω1)
  else (
  R (.returned (.bool false)) w)) := E_eq std p_0 w R
theorem drawsOk : drawsOk PP cfg okD (codeOf Tryz.f64) = true := by kernel_rfl
theorem calls (p_0 : Sl) {w : World} {R : Ending → World → Prop} (h : E std p_0 w R) : Calls PP F.impl_IsPerm #[Sl.v p_0] w R :=
  calls_of noCount mixed drawOk Tryz.func64 rfl (c := cfg) (args := [Sl.v p_0]) rfl (Nat.le_of_ble_eq_true (by kernel_rfl)) drawsOk h
end impl_IsPerm

namespace spec_IsPerm
@[reducible] def cfg : Cfg := ⟨36, [(2, [0, 3])], [(1, [0, 3]), (0, [0])], [], [2], [4], [13, 12, 21, 89, 36, 108, 74, 75, 104, 78, 125], [73, 117, 103, 46, 4, 30, 40]⟩
def q0 (pr : Prims) (R : Ending → World → Prop) : Exit → Env → World → Prop := fun ex e w => normQ ex (fun e w => contE pr cfg (sub (codeOf Tryz.f74) [1, 1]) (fun e w => wpC pr PP cfg (DD pr) (sub (codeOf Tryz.f74) [1, 1]) (retQ Tryz.f74.results.toList R) e w) e w) (retQ Tryz.f74.results.toList R) e w
def q1 (pr : Prims) (R : Ending → World → Prop) : Exit → Env → World → Prop := fun ex e w => blockQ ex 0 (q0 pr R) e w
def emb2 (p_0 : Sl) (k_3 : Int) : Env := [(0, Sl.v p_0), (3, vI k_3)]
def x0 (p_0 : Sl) : Env := [(0, Sl.v p_0)]
def S2 (pr : Prims) (Q : Exit → Env → World → Prop) : (Env → World → Prop) → Env → World → Prop := fun k e w => wpC pr PP cfg (DD pr) (sub (codeOf Tryz.f74) [1, 0, 1, 0, 0]) (fun ex e w => normQ ex (fun e' w' => k (Env.restr e' (lookN cfg.loops (keyOf (sub (codeOf Tryz.f74) [1, 0, 1, 0, 0])))) w') Q e w) e w
def B2 (pr : Prims) (p_0 : Sl) (k_3 : Int) (w : World) (k : Env → World → Prop) (Q : Exit → Env → World → Prop) : Prop :=
  S2 pr Q k (emb2 p_0 k_3) w
def L2 (pr : Prims) (p_0 : Sl) (k_3 : Int) (w : World) (Q : Exit → Env → World → Prop) : Prop :=
  pr.loop (S2 pr Q) (emb2 p_0 k_3) w
def E (pr : Prims) (p_0 : Sl) (w : World) (R : Ending → World → Prop) : Prop :=
  wpC pr PP cfg (DD pr) (codeOf Tryz.f74) (retQ Tryz.f74.results.toList R) (argE 0 [Sl.v p_0]) w
theorem B2_eq (pr : Prims) (p_0 : Sl) (k_3 : Int) (w : World) (k : Env → World → Prop) (Q : Exit → Env → World → Prop) : B2 pr p_0 k_3 w k Q = (
  bif decide (k_3 < (p_0.n : Int)) then (
  bif decide ((p_0.n : Int) ≤ 8) then (
  pr.idxK 1 p_0 k_3 fun (a2 : Addr) =>
  pr.load1 (.int .i64) a2 w fun (ξ3 : Int) =>
  pr.pcall1 .bool PP F.spec_l1In #[vI ξ3, vI 1, vI (p_0.n : Int)] fun (ρ4 : Bool) =>
  bif !ρ4 then (
  pr.drewAll w fun ω5 =>
  Q .ret [(2, .bool false)] ω5)
  else (
  pr.cutK 1 p_0 none (some k_3) fun (s6 : Sl) =>
  pr.idxK 1 p_0 k_3 fun (a7 : Addr) =>
  pr.load1 (.int .i64) a7 w fun (ξ8 : Int) =>
  pr.qcall1 .bool PP F.spec_l2Has #[Sl.v s6, vI ξ8] w fun (ρ9 : Bool) =>
  pr.drewAll w fun ω10 =>
  bif ρ9 then (
  Q .ret [(2, .bool false)] ω10)
  else (
  k (emb2 p_0 (w64 (k_3 + 1))) ω10)))
  else (
  Q (.exit 0) (x0 p_0) w))
  else (
  Q (.exit 0) (x0 p_0) w)) := by kernel_rfl
theorem B2_s (p_0 : Sl) (k_3 : Int) (w : World) (k : Env → World → Prop) (Q : Exit → Env → World → Prop) : B2 std p_0 k_3 w k Q = (
  bif decide (k_3 < (p_0.n : Int)) then (
  bif decide ((p_0.n : Int) ≤ 8) then (
  idxK 1 p_0 k_3 fun (a2 : Addr) =>
  load1 (.int .i64) a2 w fun (ξ3 : Int) =>
  pcall1 .bool PP F.spec_l1In #[vI ξ3, vI 1, vI (p_0.n : Int)] fun (ρ4 : Bool) =>
  bif !ρ4 then (
  drewAll w fun ω5 =>
  Q .ret [(2, .bool false)] ω5)
  else (
  cutK 1 p_0 none (some k_3) fun (s6 : Sl) =>
  idxK 1 p_0 k_3 fun (a7 : Addr) =>
  load1 (.int .i64) a7 w fun (ξ8 : Int) =>
  qcall1 .bool PP F.spec_l2Has #[Sl.v s6, vI ξ8] w fun (ρ9 : Bool) =>
  drewAll w fun ω10 =>
  bif ρ9 then (
  Q .ret [(2, .bool false)] ω10)
  else (
  k (emb2 p_0 (w64 (k_3 + 1))) ω10)))
  else (
  Q (.exit 0) (x0 p_0) w))
  else (
  Q (.exit 0) (x0 p_0) w)) := B2_eq std p_0 k_3 w k Q
theorem L2_rule (p_0 : Sl) (k_3 : Int) (w : World) (Q : Exit → Env → World → Prop) (I : Int → World → Prop) (μ : Int → World → Nat) (h0 : I k_3 w)
    (h : ∀ (k_3 : Int) (w' : World), I k_3 w' → B2 std p_0 k_3 w' (fun e2 w2 => ∃ k_3_n, e2 = emb2 p_0 k_3_n ∧ I k_3_n w2 ∧ μ k_3_n w2 < μ k_3 w') Q) :
    L2 std p_0 k_3 w Q := by
  unfold L2
  refine LoopE.intro (σ := Int) (step := S2 std Q) (fun s => emb2 p_0 s) (fun s w => I s w) (fun s w => μ s w) k_3 rfl h0 ?_
  intro s w' hI
  have h1 := h s w' hI
  unfold B2 at h1
  exact h1
theorem A2_0_eq (pr : Prims) (p_0 : Sl) (w : World) (R : Ending → World → Prop) : (q1 pr R) (.exit 0) (x0 p_0) w = (
  R (.returned (.bool (decide ((p_0.n : Int) ≤ 8)))) w) := by kernel_rfl
theorem A2_0_s (p_0 : Sl) (w : World) (R : Ending → World → Prop) : (q1 std R) (.exit 0) (x0 p_0) w = (
  R (.returned (.bool (decide ((p_0.n : Int) ≤ 8)))) w) := A2_0_eq std p_0 w R
theorem R2_eq (pr : Prims) (v2 : Value) (w : World) (R : Ending → World → Prop) : (q1 pr R) .ret [(2, v2)] w = (
  R (.returned (v2)) w) := by kernel_rfl
theorem R2_s (v2 : Value) (w : World) (R : Ending → World → Prop) : (q1 std R) .ret [(2, v2)] w = (
  R (.returned (v2)) w) := R2_eq std v2 w R
theorem E_eq (pr : Prims) (p_0 : Sl) (w : World) (R : Ending → World → Prop) : E pr p_0 w R = (
  L2 pr p_0 0 w (q1 pr R)) := by kernel_rfl
theorem E_s (p_0 : Sl) (w : World) (R : Ending → World → Prop) : E std p_0 w R = (
  L2 std p_0 0 w (q1 std R)) := E_eq std p_0 w R
theorem drawsOk : drawsOk PP cfg okD (codeOf Tryz.f74) = true := by kernel_rfl
theorem calls (p_0 : Sl) {w : World} {R : Ending → World → Prop} (h : E std p_0 w R) : Calls PP F.spec_IsPerm #[Sl.v p_0] w R :=
  calls_of noCount mixed drawOk Tryz.func74 rfl (c := cfg) (args := [Sl.v p_0]) rfl (Nat.le_of_ble_eq_true (by kernel_rfl)) drawsOk h
end spec_IsPerm

namespace spec_l2Has
@[reducible] def cfg : Cfg := ⟨18, [(2, [0, 1, 5])], [(1, [0, 1, 5]), (0, [])], [], [4], [], [13, 12, 21, 89, 36, 108, 74, 75, 104, 78, 125], [73, 117, 103, 46, 4, 30, 40]⟩
def q0 (pr : Prims) (R : Ending → World → Prop) : Exit → Env → World → Prop := fun ex e w => normQ ex (fun e w => contE pr cfg (sub (codeOf Tryz.f104) [1, 1]) (fun e w => wpC pr PP cfg (DD pr) (sub (codeOf Tryz.f104) [1, 1]) (retQ Tryz.f104.results.toList R) e w) e w) (retQ Tryz.f104.results.toList R) e w
def q1 (pr : Prims) (R : Ending → World → Prop) : Exit → Env → World → Prop := fun ex e w => blockQ ex 0 (q0 pr R) e w
def emb2 (list_0 : Sl) (n_1 : Int) (k_5 : Int) : Env := [(0, Sl.v list_0), (1, vI n_1), (5, vI k_5)]
def x0 : Env := []
def S2 (pr : Prims) (Q : Exit → Env → World → Prop) : (Env → World → Prop) → Env → World → Prop := fun k e w => wpC pr PP cfg (DD pr) (sub (codeOf Tryz.f104) [1, 0, 1, 0, 0]) (fun ex e w => normQ ex (fun e' w' => k (Env.restr e' (lookN cfg.loops (keyOf (sub (codeOf Tryz.f104) [1, 0, 1, 0, 0])))) w') Q e w) e w
def B2 (pr : Prims) (list_0 : Sl) (n_1 : Int) (k_5 : Int) (w : World) (k : Env → World → Prop) (Q : Exit → Env → World → Prop) : Prop :=
  S2 pr Q k (emb2 list_0 n_1 k_5) w
def L2 (pr : Prims) (list_0 : Sl) (n_1 : Int) (k_5 : Int) (w : World) (Q : Exit → Env → World → Prop) : Prop :=
  pr.loop (S2 pr Q) (emb2 list_0 n_1 k_5) w
def E (pr : Prims) (list_0 : Sl) (n_1 : Int) (w : World) (R : Ending → World → Prop) : Prop :=
  wpC pr PP cfg (DD pr) (codeOf Tryz.f104) (retQ Tryz.f104.results.toList R) (argE 0 [Sl.v list_0, vI n_1]) w
theorem B2_eq (pr : Prims) (list_0 : Sl) (n_1 : Int) (k_5 : Int) (w : World) (k : Env → World → Prop) (Q : Exit → Env → World → Prop) : B2 pr list_0 n_1 k_5 w k Q = (
  bif decide (k_5 < (list_0.n : Int)) then (
  pr.idxK 1 list_0 k_5 fun (a2 : Addr) =>
  pr.load1 (.int .i64) a2 w fun (ξ3 : Int) =>
  bif ξ3 == n_1 then (
  Q .ret [(4, .bool true)] w)
  else (
  k (emb2 list_0 n_1 (w64 (k_5 + 1))) w))
  else (
  Q (.exit 0) (x0) w)) := by kernel_rfl
theorem B2_s (list_0 : Sl) (n_1 : Int) (k_5 : Int) (w : World) (k : Env → World → Prop) (Q : Exit → Env → World → Prop) : B2 std list_0 n_1 k_5 w k Q = (
  bif decide (k_5 < (list_0.n : Int)) then (
  idxK 1 list_0 k_5 fun (a2 : Addr) =>
  load1 (.int .i64) a2 w fun (ξ3 : Int) =>
  bif ξ3 == n_1 then (
  Q .ret [(4, .bool true)] w)
  else (
  k (emb2 list_0 n_1 (w64 (k_5 + 1))) w))
  else (
  Q (.exit 0) (x0) w)) := B2_eq std list_0 n_1 k_5 w k Q
theorem L2_rule (list_0 : Sl) (n_1 : Int) (k_5 : Int) (w : World) (Q : Exit → Env → World → Prop) (I : Int → World → Prop) (μ : Int → World → Nat) (h0 : I k_5 w)
    (h : ∀ (k_5 : Int) (w' : World), I k_5 w' → B2 std list_0 n_1 k_5 w' (fun e2 w2 => ∃ k_5_n, e2 = emb2 list_0 n_1 k_5_n ∧ I k_5_n w2 ∧ μ k_5_n w2 < μ k_5 w') Q) :
    L2 std list_0 n_1 k_5 w Q := by
  unfold L2
  refine LoopE.intro (σ := Int) (step := S2 std Q) (fun s => emb2 list_0 n_1 s) (fun s w => I s w) (fun s w => μ s w) k_5 rfl h0 ?_
  intro s w' hI
  have h1 := h s w' hI
  unfold B2 at h1
  exact h1
theorem A2_0_eq (pr : Prims) (w : World) (R : Ending → World → Prop) : (q1 pr R) (.exit 0) (x0) w = (
  R (.returned (.bool false)) w) := by kernel_rfl
theorem A2_0_s (w : World) (R : Ending → World → Prop) : (q1 std R) (.exit 0) (x0) w = (
  R (.returned (.bool false)) w) := A2_0_eq std w R
theorem R2_eq (pr : Prims) (v4 : Value) (w : World) (R : Ending → World → Prop) : (q1 pr R) .ret [(4, v4)] w = (
  R (.returned (v4)) w) := by kernel_rfl
theorem R2_s (v4 : Value) (w : World) (R : Ending → World → Prop) : (q1 std R) .ret [(4, v4)] w = (
  R (.returned (v4)) w) := R2_eq std v4 w R
theorem E_eq (pr : Prims) (list_0 : Sl) (n_1 : Int) (w : World) (R : Ending → World → Prop) : E pr list_0 n_1 w R = (
  L2 pr list_0 n_1 0 w (q1 pr R)) := by kernel_rfl
theorem E_s (list_0 : Sl) (n_1 : Int) (w : World) (R : Ending → World → Prop) : E std list_0 n_1 w R = (
  L2 std list_0 n_1 0 w (q1 std R)) := E_eq std list_0 n_1 w R
theorem drawsOk : drawsOk PP cfg okD (codeOf Tryz.f104) = true := by kernel_rfl
theorem calls (list_0 : Sl) (n_1 : Int) {w : World} {R : Ending → World → Prop} (h : E std list_0 n_1 w R) : Calls PP F.spec_l2Has #[Sl.v list_0, vI n_1] w R :=
  calls_of noCount mixed drawOk Tryz.func104 rfl (c := cfg) (args := [Sl.v list_0, vI n_1]) rfl (Nat.le_of_ble_eq_true (by kernel_rfl)) drawsOk h
end spec_l2Has

namespace impl_isSix
@[reducible] def cfg : Cfg := ⟨9, [], [], [], [2], [], [13, 12, 21, 89, 36, 108, 74, 75, 104, 78, 125], [73, 117, 103, 46, 4, 30, 40]⟩
def E (pr : Prims) (n_0 : Int) (w : World) (R : Ending → World → Prop) : Prop :=
  wpC pr PP cfg (DD pr) (codeOf Tryz.f46) (retQ Tryz.f46.results.toList R) (argE 0 [vI n_0]) w
theorem E_eq (pr : Prims) (n_0 : Int) (w : World) (R : Ending → World → Prop) : E pr n_0 w R = (
  bif decide (n_0 ≥ 0) then (
  R (.returned (.bool (decide (n_0 ≤ 6)))) w)
  else (
  R (.returned (.bool false)) w)) := by kernel_rfl
theorem E_s (n_0 : Int) (w : World) (R : Ending → World → Prop) : E std n_0 w R = (
  bif decide (n_0 ≥ 0) then (
  R (.returned (.bool (decide (n_0 ≤ 6)))) w)
  else (
  R (.returned (.bool false)) w)) := E_eq std n_0 w R
theorem drawsOk : drawsOk PP cfg okD (codeOf Tryz.f46) = true := by kernel_rfl
theorem calls (n_0 : Int) {w : World} {R : Ending → World → Prop} (h : E std n_0 w R) : Calls PP F.impl_isSix #[vI n_0] w R :=
  calls_of noCount mixed drawOk Tryz.func46 rfl (c := cfg) (args := [vI n_0]) rfl (Nat.le_of_ble_eq_true (by kernel_rfl)) drawsOk h
end impl_isSix

namespace cmp_isNaN_int_
@[reducible] def cfg : Cfg := ⟨6, [], [], [], [2], [], [13, 12, 21, 89, 36, 108, 74, 75, 104, 78, 125], [73, 117, 103, 46, 4, 30, 40]⟩
def E (pr : Prims) (x_0 : Int) (w : World) (R : Ending → World → Prop) : Prop :=
  wpC pr PP cfg (DD pr) (codeOf Tryz.f103) (retQ Tryz.f103.results.toList R) (argE 0 [vI x_0]) w
theorem E_eq (pr : Prims) (x_0 : Int) (w : World) (R : Ending → World → Prop) : E pr x_0 w R = (
  R (.returned (.bool (x_0 != x_0))) w) := by kernel_rfl
theorem E_s (x_0 : Int) (w : World) (R : Ending → World → Prop) : E std x_0 w R = (
  R (.returned (.bool (x_0 != x_0))) w) := E_eq std x_0 w R
theorem drawsOk : drawsOk PP cfg okD (codeOf Tryz.f103) = true := by kernel_rfl
theorem calls (x_0 : Int) {w : World} {R : Ending → World → Prop} (h : E std x_0 w R) : Calls PP F.cmp_isNaN_int_ #[vI x_0] w R :=
  calls_of noCount mixed drawOk Tryz.func103 rfl (c := cfg) (args := [vI x_0]) rfl (Nat.le_of_ble_eq_true (by kernel_rfl)) drawsOk h
end cmp_isNaN_int_

end Go.Proofs.YteplokddaebbeaaGreat

/- Small helpers of the model text. -/
namespace Go.Proofs.YteplokddaebbeaaGreat
open Go Go.RowKit
set_option maxRecDepth 100000

theorem c_l1In (n lo hi : Int) : Pure F.spec_l1In #[vI n, vI lo, vI hi] (.bool (decide (lo ≤ n) && decide (n ≤ hi))) := by
  intro w
  refine spec_l1In.calls n lo hi ?_
  rw [spec_l1In.E_s]
  refine bif_dec (fun h => ?_) (fun h => ?_)
  · have h' : lo ≤ n := h
    simp [h']
  · have h' : ¬ lo ≤ n := h
    simp [h']
theorem c_l1Bit (b : Bool) : Pure F.spec_l1Bit #[.bool b] (vI (if b then 1 else 0)) := by
  intro w
  refine spec_l1Bit.calls b ?_
  rw [spec_l1Bit.E_s]
  cases b <;> simp
end Go.Proofs.YteplokddaebbeaaGreat

/- The laws' helpers over rows of ints: the copy and the comparison. -/
namespace Go.Proofs.YteplokddaebbeaaGreat
open Go Go.RowKit
set_option maxRecDepth 100000

theorem take_step {α : Type} (L : List α) (z : α) {i : Nat} (hi : i < L.length) : (L.take i ++ List.replicate (L.length - i) z).set i L[i] = L.take (i + 1) ++ List.replicate (L.length - (i + 1)) z := by
  have h1 : List.replicate (L.length - i) z = z :: List.replicate (L.length - (i + 1)) z := by
    rw [show L.length - i = (L.length - (i + 1)) + 1 by omega, List.replicate_succ]
  have h2 : (L.take i).length = i := by simp; omega
  have h3 : L.take (i + 1) = L.take i ++ [L[i]] := by simp
  rw [h1, List.set_append_right _ _ (by omega), h2, Nat.sub_self, List.set_cons_zero, h3, List.append_assoc]
  rfl
theorem getD_eq {L : List Int} {i : Nat} (hi : i < L.length) : L.getD i 0 = L[i] := by simp [List.getD_eq_getElem?_getD, List.getElem?_eq_getElem hi]

end Go.Proofs.YteplokddaebbeaaGreat

/- Both tests of a permutation answer alike. -/
namespace Go.Proofs.YteplokddaebbeaaGreat
open Go Go.RowKit
set_option maxRecDepth 100000

/-- Each of the numbers 1 to the length once. -/
def pOk (L : List Int) (j : Nat) : Prop := 1 ≤ L.getD j 0 ∧ L.getD j 0 ≤ L.length ∧ ∀ i, i < j → L.getD i 0 ≠ L.getD j 0
def PermOk (L : List Int) : Prop := ∀ j, j < L.length → pOk L j
def IsP (L : List Int) : Prop := L.length ≤ 8 ∧ PermOk L
theorem oneBool : OneT T_Sbool T_bool (.bool false) := oneT_of (by kernel_rfl) (by kernel_rfl) rfl

open Classical in
theorem c_isPerm {w : World} {a : Sl} {L : List Int} (ha : RowI w a L) (hL : L.length < 2^38) :
    Calls PP F.impl_isPerm #[a.v] w fun e w' => e = .returned (.bool (decide (PermOk L))) ∧ Below w.heap.size w w' := by
  have han : a.n = L.length := by have := ha.n; simpa using this
  refine impl_isPerm.calls a ?_
  rw [impl_isPerm.E_s]
  rw [w64_succ (n := (a.n : Int)) (by omega) (by omega)]
  refine make_own oneBool (B := w.heap.size) (Nat.le_refl _) (by omega) (by omega) ?_
  intro s w1 hown hg _
  refine impl_isPerm.L3_rule _ _ _ _ _ _ _ (I := fun k w' => 0 ≤ k ∧ k ≤ L.length ∧ Below w.heap.size w w' ∧ (∀ j, j < k.toNat → pOk L j) ∧
      ∃ bs : List Bool, bs.length = L.length + 1 ∧ Own w' w.heap.size T_bool s (bs.map Value.bool) ∧ ∀ v : Nat, v < bs.length → (bs.getD v false = true ↔ ∃ i, i < k.toNat ∧ L.getD i 0 = v)) (μ := fun k _ => (L.length - k).toNat)
    ⟨by omega, by omega, below_of_grow hg, fun j hj => by simp at hj, List.replicate (L.length + 1) false, by simp, by simpa [han] using hown, fun v hv => by simp [List.getD_eq_getElem?_getD, List.getElem?_replicate]; split <;> simp⟩ ?_
  rintro k w' ⟨h0, hk, hb, hall, bs, hbl, hown, hseen⟩
  have hsucc : (k + 1).toNat = k.toNat + 1 := by omega
  have bad : k < L.length → ¬ pOk L k.toNat → impl_isPerm.q3 std (fun e w' => e = .returned (.bool (decide (PermOk L))) ∧ Below w.heap.size w w') .ret [(2, .bool false)] w' := by
    intro hk3 hbd
    rw [impl_isPerm.R3_s]
    have : ¬ PermOk L := fun h => hbd (h k.toNat (by omega))
    exact ⟨by simp [this], hb⟩
  rw [impl_isPerm.B3_s]
  refine bif_dec (fun h3 => ?_) (fun h3 => ?_)
  · have hlt : k.toNat < L.length := by omega
    refine RowI.get (ha.grow hb) h0 (by omega) ?_
    refine bif_dec (fun h4 => bad (by omega) fun hg => by have := hg.1; omega) (fun h4 => ?_)
    refine bif_dec (fun h5 => bad (by omega) fun hg => by have := hg.2.1; omega) (fun h5 => ?_)
    have hx0 : 1 ≤ L.getD k.toNat 0 := by omega
    have hx1 : L.getD k.toNat 0 ≤ L.length := by omega
    generalize hx : L.getD k.toNat 0 = x at hx0 hx1 h4 h5 ⊢
    have hxl : x.toNat < bs.length := by omega
    have hval : (bs.map Value.bool)[x.toNat]? = some (Sh.bool.enc (bs.getD x.toNat false)) := by simp [List.getD_eq_getElem?_getD, List.getElem?_eq_getElem hxl]
    refine Row.get (sh := .bool) hown.row (by omega) hval ?_
    refine bif_intro (fun h6 => bad (by omega) fun hg => ?_) (fun h6 => ?_)
    · obtain ⟨i, hi, he⟩ := (hseen x.toNat hxl).1 h6
      exact hg.2.2 i hi (by rw [he, hx]; omega)
    · refine Own.put hown (by omega) (by simp; omega) ?_
      intro w2 hown2 hg2 _
      refine ⟨k + 1, by rw [w64_succ h0 (by omega)], ⟨by omega, by omega, hb.grown hg2 hb.size (fun g hg => (hown.lt g hg).1), fun j hj => ?_, bs.set x.toNat true, by simpa using hbl, by simpa [List.map_set] using hown2, fun v hv => ?_⟩, by omega⟩
      · by_cases hj2 : j < k.toNat
        · exact hall j hj2
        · have : j = k.toNat := by omega
          subst this
          refine ⟨by omega, by omega, fun i hi he => ?_⟩
          have := (hseen x.toNat hxl).2 ⟨i, hi, by rw [he, hx]; omega⟩
          rw [this] at h6; cases h6
      · rw [hsucc]
        simp only [List.length_set] at hv
        by_cases hvx : x.toNat = v
        · subst hvx
          simp only [List.getD_eq_getElem?_getD, List.getElem?_set, if_pos hxl]
          simp
          exact ⟨k.toNat, by omega, by rw [← List.getD_eq_getElem?_getD, hx]; omega⟩
        · have e1 : (bs.set x.toNat true).getD v false = bs.getD v false := by simp [List.getD_eq_getElem?_getD, List.getElem?_set, hvx]
          rw [e1, hseen v hv]
          constructor
          · rintro ⟨i, hi, he⟩; exact ⟨i, by omega, he⟩
          · rintro ⟨i, hi, he⟩
            by_cases hi2 : i < k.toNat
            · exact ⟨i, hi2, he⟩
            · have : i = k.toNat := by omega
              subst this
              rw [hx] at he; omega
  · rw [impl_isPerm.A3_0_s]
    have : PermOk L := fun j hj => hall j (by omega)
    exact ⟨by simp [this], hb⟩

open Classical in
theorem c_implIsPerm {w : World} {a : Sl} {L : List Int} (ha : RowI w a L) (hL : L.length < 2^38) :
    Calls PP F.impl_IsPerm #[a.v] w fun e w' => e = .returned (.bool (decide (IsP L))) ∧ Below w.heap.size w w' := by
  have han : a.n = L.length := by have := ha.n; simpa using this
  refine impl_IsPerm.calls a ?_
  rw [impl_IsPerm.E_s]
  refine bif_dec (fun h => ?_) (fun h => ?_)
  · refine (c_isPerm ha hL).mono ?_
    rintro e w' ⟨rfl, hb⟩
    refine ⟨_, rfl, ?_, hb⟩
    have : L.length ≤ 8 := by omega
    simp [IsP, this]
  · have : ¬ L.length ≤ 8 := by omega
    exact ⟨by simp [IsP, this], Below.refl _ _⟩

open Classical in
theorem c_l2Has {w : World} {a : Sl} {L : List Int} (ha : RowI w a L) (hL : L.length < 2^38) (n : Int) :
    Quiet F.spec_l2Has #[a.v, vI n] w (.bool (decide (n ∈ L))) := by
  intro w1 hd
  have han : a.n = L.length := by have := ha.n; simpa using this
  refine spec_l2Has.calls a n ?_
  rw [spec_l2Has.E_s]
  refine spec_l2Has.L2_rule _ _ _ _ _ (I := fun k w' => w' = w1 ∧ 0 ≤ k ∧ k ≤ L.length ∧ ∀ j, j < k.toNat → L.getD j 0 ≠ n) (μ := fun k _ => (L.length - k).toNat) ⟨rfl, by omega, by omega, fun j hj => by simp at hj⟩ ?_
  rintro k w' ⟨rfl, h0, hk, hall⟩
  rw [spec_l2Has.B2_s]
  refine bif_dec (fun h3 => ?_) (fun h3 => ?_)
  · have hlt : k.toNat < L.length := by omega
    refine RowI.get (ha.heap hd.heap') h0 (by omega) ?_
    refine bif_intro (fun h4 => ?_) (fun h4 => ?_)
    · rw [spec_l2Has.R2_s]
      have h4 : L.getD k.toNat 0 = n := by simpa using h4
      have : n ∈ L := by rw [← h4, getD_eq hlt]; exact List.getElem_mem hlt
      exact ⟨by simp [this], Drew.refl _⟩
    · have h4 : ¬ L.getD k.toNat 0 = n := by simpa using h4
      refine ⟨k + 1, by rw [w64_succ h0 (by omega)], ⟨rfl, by omega, by omega, fun j hj => ?_⟩, by omega⟩
      by_cases hj2 : j < k.toNat
      · exact hall j hj2
      · have : j = k.toNat := by omega
        subst this; exact h4
  · rw [spec_l2Has.A2_0_s]
    have : n ∉ L := fun h => by
      obtain ⟨i, hi, he⟩ := List.getElem_of_mem h
      exact hall i (by omega) (by rw [getD_eq hi]; exact he)
    exact ⟨by simp [this], Drew.refl _⟩

open Classical in
theorem c_specIsPerm {w : World} {a : Sl} {L : List Int} (ha : RowI w a L) (hL : L.length < 2^38) :
    Quiet F.spec_IsPerm #[a.v] w (.bool (decide (IsP L))) := by
  intro w1 hd
  have han : a.n = L.length := by have := ha.n; simpa using this
  refine spec_IsPerm.calls a ?_
  rw [spec_IsPerm.E_s]
  refine spec_IsPerm.L2_rule _ _ _ _ (I := fun k w' => Drew w1 w' ∧ 0 ≤ k ∧ k ≤ L.length ∧ ∀ j, j < k.toNat → pOk L j) (μ := fun k _ => (L.length - k).toNat) ⟨Drew.refl _, by omega, by omega, fun j hj => by simp at hj⟩ ?_
  rintro k w' ⟨hd2, h0, hk, hall⟩
  have hh : w'.heap = w.heap := (hd.trans hd2).heap'
  rw [spec_IsPerm.B2_s]
  refine bif_dec (fun h3 => bif_dec (fun h4 => ?_) (fun h4 => ?_)) (fun h3 => ?_)
  · have hlt : k.toNat < L.length := by omega
    have nb : ¬ pOk L k.toNat → ¬ IsP L := fun hb h => hb (h.2 k.toNat hlt)
    refine RowI.get (ha.heap hh) h0 (by omega) ?_
    refine Pure.pcall1 (s := .bool) (c_l1In _ _ _) ?_
    refine bif_intro (fun h5 => ?_) (fun h5 => ?_)
    · refine drew_intro fun w2 hd3 => ?_
      rw [spec_IsPerm.R2_s]
      have : ¬ IsP L := nb fun hg => by
        have h1 := hg.1
        have h2 := hg.2.1
        simp [-List.getD_eq_getElem?_getD] at h5
        omega
      exact ⟨by simp [this], hd2.trans hd3⟩
    · have h5 : 1 ≤ L.getD k.toNat 0 ∧ L.getD k.toNat 0 ≤ L.length := by simpa [han] using h5
      refine Row.cut (ha.heap hh) (by simp) (by simpa using h0) (by simp; omega) ?_
      intro t ht
      have ht : RowI w' t (L.take k.toNat) := by simpa [RowI, List.map_take] using ht
      refine RowI.get (ha.heap hh) h0 (by omega) ?_
      refine Quiet.qcall1 (s := .bool) (c_l2Has ht (by simp; omega) _) ?_
      have hmem : L.getD k.toNat 0 ∈ L.take k.toNat ↔ ∃ i, i < k.toNat ∧ L.getD i 0 = L.getD k.toNat 0 := by
        constructor
        · intro h
          obtain ⟨i, hi, he⟩ := List.getElem_of_mem h
          have hi2 : i < k.toNat ∧ i < L.length := by simp at hi; omega
          refine ⟨i, hi2.1, ?_⟩
          rw [getD_eq hi2.2, ← he]; simp
        · rintro ⟨i, hi, he⟩
          rw [← he, getD_eq (show i < L.length by omega)]
          exact List.mem_take_iff_getElem.2 ⟨i, by omega, rfl⟩
      refine drew_intro fun w2 hd3 => ?_
      refine bif_intro (fun h6 => ?_) (fun h6 => ?_)
      · rw [spec_IsPerm.R2_s]
        have h6 := hmem.1 (by simpa using h6)
        have : ¬ IsP L := nb fun hg => by
          obtain ⟨i, hi, he⟩ := h6
          exact hg.2.2 i hi he
        exact ⟨by simp [this], hd2.trans hd3⟩
      · have h6 : ¬ ∃ i, i < k.toNat ∧ L.getD i 0 = L.getD k.toNat 0 := fun h => by
          rw [decide_eq_true (hmem.2 h)] at h6
          cases h6
        refine ⟨k + 1, by rw [w64_succ h0 (by omega)], ⟨hd2.trans hd3, by omega, by omega, fun j hj => ?_⟩, by omega⟩
        by_cases hj2 : j < k.toNat
        · exact hall j hj2
        · have : j = k.toNat := by omega
          subst this; exact ⟨h5.1, h5.2, fun i hi he => h6 ⟨i, hi, he⟩⟩
  · rw [spec_IsPerm.A2_0_s]
    have : ¬ L.length ≤ 8 := by omega
    exact ⟨by simp [IsP, han, this]; omega, hd2⟩
  · rw [spec_IsPerm.A2_0_s]
    have : PermOk L := fun j hj => hall j (by omega)
    exact ⟨by simp [IsP, han, this]; omega, hd2⟩
end Go.Proofs.YteplokddaebbeaaGreat

/- Permutations as lists: plain facts, no program in sight. -/
namespace Go.Proofs.YteplokddaebbeaaGreat
open Go
set_option maxRecDepth 100000

/-- 1, 2, .., n -/
def idn (n : Nat) : List Int := (List.range n).map fun (i : Nat) => (i : Int) + 1
theorem idn_length (n : Nat) : (idn n).length = n := by simp [idn]
theorem idn_succ (n : Nat) : idn (n + 1) = idn n ++ [(n : Int) + 1] := by simp [idn, List.range_succ]
theorem mem_idn {n : Nat} {x : Int} : x ∈ idn n ↔ 1 ≤ x ∧ x ≤ n := by
  simp only [idn, List.mem_map, List.mem_range]
  constructor
  · rintro ⟨i, hi, rfl⟩; omega
  · rintro ⟨h1, h2⟩; exact ⟨(x - 1).toNat, by omega, by omega⟩
theorem idn_nodup (n : Nat) : (idn n).Nodup := by
  simp only [idn, List.nodup_iff_pairwise_ne, List.pairwise_map]
  exact List.Pairwise.imp (fun h e => h (by omega)) (List.nodup_iff_pairwise_ne.1 List.nodup_range)
theorem idn_getD {n i : Nat} (h : i < n) : (idn n).getD i 0 = (i : Int) + 1 := by simp [idn, List.getD_eq_getElem?_getD, h]
theorem getD_lt {L : List Int} {i : Nat} (h : i < L.length) : L.getD i 0 = L[i] := by simp [List.getD_eq_getElem?_getD, List.getElem?_eq_getElem h]
theorem ext_getD {L M : List Int} (h : L.length = M.length) (hh : ∀ i, i < L.length → L.getD i 0 = M.getD i 0) : L = M := by
  apply List.ext_getElem h
  intro i h1 h2
  have := hh i h1
  rw [getD_lt h1, getD_lt h2] at this
  exact this
theorem permOk_iff {L : List Int} : PermOk L ↔ L.Nodup ∧ ∀ x ∈ L, 1 ≤ x ∧ x ≤ L.length := by
  constructor
  · intro h
    refine ⟨?_, fun x hx => ?_⟩
    · rw [List.nodup_iff_pairwise_ne, List.pairwise_iff_getElem]
      intro i j hi hj hij e
      have := (h j hj).2.2 i hij
      rw [getD_lt hi, getD_lt hj] at this
      exact this e
    · obtain ⟨i, hi, rfl⟩ := List.getElem_of_mem hx
      have := h i hi
      unfold pOk at this
      rw [getD_lt hi] at this
      exact ⟨this.1, this.2.1⟩
  · rintro ⟨h1, h2⟩ j hj
    have h3 := h2 L[j] (List.getElem_mem hj)
    unfold pOk
    rw [getD_lt hj]
    refine ⟨h3.1, h3.2, fun i hij e => ?_⟩
    rw [List.nodup_iff_pairwise_ne, List.pairwise_iff_getElem] at h1
    rw [getD_lt (by omega)] at e
    exact h1 i j (by omega) hj hij e
theorem perm_of_nodup : ∀ {n : Nat} {L : List Int}, L.Nodup → (∀ x ∈ L, 1 ≤ x ∧ x ≤ n) → L.length = n → L.Perm (idn n)
  | 0, L, _, _, hl => by
    have : L = [] := List.eq_nil_of_length_eq_zero hl
    subst this; exact List.Perm.refl _
  | n + 1, L, h1, h2, hl => by
    by_cases hm : ((n : Int) + 1) ∈ L
    · have hp := List.perm_cons_erase hm
      have h3 : (L.erase ((n : Int) + 1)).Perm (idn n) := by
        refine perm_of_nodup (h1.erase _) (fun x hx => ?_) (by rw [List.length_erase_of_mem hm]; omega)
        rw [List.Nodup.mem_erase_iff h1] at hx
        have := h2 x hx.2
        have hne := hx.1
        omega
      rw [idn_succ]
      exact hp.trans ((List.Perm.cons _ h3).trans (List.perm_append_singleton _ _).symm)
    · have : L.length ≤ (idn n).length := List.Nodup.length_le_of_subset h1 (fun x hx => by
        have := h2 x hx
        have hne : x ≠ (n : Int) + 1 := fun e => hm (e ▸ hx)
        rw [mem_idn]; omega)
      rw [idn_length] at this
      omega
theorem permOk_perm {L : List Int} : PermOk L ↔ L.Perm (idn L.length) := by
  rw [permOk_iff]
  constructor
  · rintro ⟨h1, h2⟩; exact perm_of_nodup h1 h2 rfl
  · intro h
    refine ⟨h.nodup_iff.2 (idn_nodup _), fun x hx => ?_⟩
    have := h.mem_iff.1 hx
    rwa [mem_idn] at this
theorem IsP.perm {L : List Int} (h : IsP L) : L.Perm (idn L.length) := permOk_perm.1 h.2
theorem IsP.nodup {L : List Int} (h : IsP L) : L.Nodup := (permOk_iff.1 h.2).1
theorem IsP.mem {L : List Int} (h : IsP L) {x : Int} : x ∈ L ↔ 1 ≤ x ∧ x ≤ L.length := by rw [h.perm.mem_iff, mem_idn]
theorem isP_of_perm {L M : List Int} (h : M.Perm L) (hL : IsP L) : IsP M := by
  have hl := h.length_eq
  refine ⟨by rw [hl]; exact hL.1, permOk_perm.2 ?_⟩
  rw [hl]; exact h.trans hL.perm
theorem isP_of {n : Nat} {M : List Int} (h : M.Perm (idn n)) (hn : n ≤ 8) : IsP M := by
  have hl : M.length = n := by rw [h.length_eq, idn_length]
  refine ⟨by omega, permOk_perm.2 ?_⟩
  rw [hl]; exact h
/-- Ascending (not strictly), by neighbours. -/
def Rising (L : List Int) : Prop := ∀ i, i + 1 < L.length → L.getD i 0 ≤ L.getD (i + 1) 0
theorem Rising.all {L : List Int} (h : Rising L) : ∀ j, ∀ i, i ≤ j → j < L.length → L.getD i 0 ≤ L.getD j 0 := by
  intro j
  induction j with
  | zero => intro i hi hj; have : i = 0 := by omega
            subst this; exact Int.le_refl _
  | succ j ih =>
    intro i hi hj
    by_cases e : i = j + 1
    · subst e; exact Int.le_refl _
    · exact Int.le_trans (ih i (by omega) (by omega)) (h j hj)
theorem rising_pairwise {L : List Int} (h : Rising L) : L.Pairwise (· ≤ ·) := by
  rw [List.pairwise_iff_getElem]
  intro i j hi hj hij
  have := h.all j i (by omega) hj
  rwa [getD_lt hi, getD_lt hj] at this
theorem idn_pairwise (n : Nat) : (idn n).Pairwise (· ≤ ·) := by
  simp only [idn, List.pairwise_map]
  exact List.Pairwise.imp (fun h => by omega) List.pairwise_lt_range
theorem rising_idn (n : Nat) : Rising (idn n) := fun i hi => by
  rw [idn_length] at hi
  rw [idn_getD (by omega), idn_getD hi]; omega
theorem IsP.rising {L : List Int} (h : IsP L) : Rising L ↔ L = idn L.length := by
  constructor
  · intro hr
    exact List.Perm.eq_of_pairwise (fun a b _ _ h1 h2 => Int.le_antisymm h1 h2) (rising_pairwise hr) (idn_pairwise _) h.perm
  · intro e; rw [e]; exact rising_idn _
theorem isP_idn {n : Nat} (hn : n ≤ 8) : IsP (idn n) := isP_of (List.Perm.refl _) hn
theorem isP_nil : IsP [] := isP_idn (n := 0) (by omega)
end Go.Proofs.YteplokddaebbeaaGreat

/- Occurrences of a pattern, as lists: plain facts. -/
namespace Go.Proofs.YteplokddaebbeaaGreat
open Go
set_option maxRecDepth 100000

/-- a, a+1, .. (c numbers) -/
def seqI (a : Int) (c : Nat) : List Int := (List.range c).map fun (i : Nat) => a + (i : Int)
theorem seqI_length (a : Int) (c : Nat) : (seqI a c).length = c := by simp [seqI]
theorem seqI_succ (a : Int) (c : Nat) : seqI a (c + 1) = seqI a c ++ [a + (c : Int)] := by simp [seqI, List.range_succ]
theorem mem_seqI {a : Int} {c : Nat} {x : Int} : x ∈ seqI a c ↔ a ≤ x ∧ x < a + c := by
  simp only [seqI, List.mem_map, List.mem_range]
  constructor
  · rintro ⟨i, hi, rfl⟩; omega
  · rintro ⟨h1, h2⟩; exact ⟨(x - a).toNat, by omega, by omega⟩
/-- The last number of a list, 0 of none. -/
def lastD (h : List Int) : Int := h.getD (h.length - 1) 0
theorem lastD_nil : lastD [] = 0 := rfl
theorem lastD_snoc (h : List Int) (x : Int) : lastD (h ++ [x]) = x := by simp [lastD, List.getD_eq_getElem?_getD]
def fitsAt (P Q h : List Int) (x : Int) (k : Nat) : Bool := decide (P.getD (h.getD k 0 - 1).toNat 0 < P.getD (x - 1).toNat 0) == decide (Q.getD k 0 < Q.getD h.length 0)
/-- May the place x be the next one behind the places h? -/
def fitsB (P Q h : List Int) (x : Int) : Bool := (List.range h.length).all (fitsAt P Q h x)
theorem fitsB_iff {P Q h : List Int} {x : Int} : fitsB P Q h x = true ↔ ∀ k, k < h.length → fitsAt P Q h x k = true := by simp [fitsB]
/-- All ways to go on from the places h with m more. -/
def occN (P Q : List Int) : Nat → List Int → List (List Int)
  | 0, h => [h]
  | m + 1, h => (seqI (lastD h + 1) ((P.length : Int) - lastD h).toNat).flatMap fun x => if fitsB P Q h x then occN P Q m (h ++ [x]) else []
def hasB (P Q : List Int) (m : Nat) (h : List Int) : Bool := !(occN P Q m h).isEmpty
theorem hasB_zero (P Q h : List Int) : hasB P Q 0 h = true := rfl
theorem hasB_succ {P Q h : List Int} {m : Nat} : hasB P Q (m + 1) h = true ↔ ∃ x, lastD h < x ∧ x ≤ P.length ∧ fitsB P Q h x = true ∧ hasB P Q m (h ++ [x]) = true := by
  simp only [hasB, occN, Bool.not_eq_true', List.isEmpty_eq_false_iff, ne_eq, List.flatMap_eq_nil_iff, mem_seqI]
  constructor
  · intro hn
    apply Classical.byContradiction
    intro hc
    apply hn
    intro x hx
    split
    · rename_i hf
      apply Classical.byContradiction
      intro hne
      exact hc ⟨x, by omega, by omega, hf, hne⟩
    · rfl
  · rintro ⟨x, h1, h2, h3, h4⟩ hall
    have := hall x ⟨by omega, by omega⟩
    rw [if_pos h3] at this
    exact h4 this
/-- Places of a list. -/
def Places (P h : List Int) : Prop := ∀ x ∈ h, 1 ≤ x ∧ x ≤ P.length
theorem Places.snoc {P h : List Int} {x : Int} (hh : Places P h) (h1 : 1 ≤ x) (h2 : x ≤ P.length) : Places P (h ++ [x]) := fun y hy => by
  rcases List.mem_append.1 hy with h3 | h3
  · exact hh y h3
  · have : y = x := by simpa using h3
    subst this; exact ⟨h1, h2⟩
theorem lastD_mem {h : List Int} (hne : h ≠ []) : lastD h ∈ h := by
  unfold lastD
  have : 0 < h.length := List.length_pos_iff.2 hne
  rw [getD_lt (by omega)]
  exact List.getElem_mem _
theorem Places.last {P h : List Int} (hh : Places P h) : 0 ≤ lastD h ∧ lastD h ≤ P.length := by
  by_cases hne : h = []
  · subst hne; simp [lastD]
  · have := hh _ (lastD_mem hne); omega
theorem Places.nil (P : List Int) : Places P [] := fun x hx => by simp at hx
/-- There must be room. -/
theorem hasB_room {P Q : List Int} : ∀ (m : Nat) (h : List Int), Places P h → hasB P Q m h = true → lastD h + m ≤ P.length
  | 0, h, hh, _ => by have := hh.last; omega
  | m + 1, h, hh, hb => by
    obtain ⟨x, h1, h2, _, h4⟩ := hasB_succ.1 hb
    have h0 := hh.last
    have := hasB_room m (h ++ [x]) (hh.snoc (by omega) h2) h4
    rw [lastD_snoc] at this
    omega
theorem length_flatMap_le {α β : Type} (l : List α) (f : α → List β) (c : Nat) (h : ∀ x ∈ l, (f x).length ≤ c) : (l.flatMap f).length ≤ l.length * c := by
  induction l with
  | nil => simp
  | cons x r ih =>
    have h1 := h x (by simp)
    have h2 := ih (fun y hy => h y (by simp [hy]))
    simp only [List.flatMap_cons, List.length_append, List.length_cons, Nat.succ_mul]
    omega
theorem occN_length {P Q : List Int} : ∀ (m : Nat) (h : List Int), Places P h → (occN P Q m h).length ≤ P.length ^ m
  | 0, h, _ => by simp [occN]
  | m + 1, h, hh => by
    have h0 := hh.last
    rw [occN]
    refine Nat.le_trans (length_flatMap_le _ _ (P.length ^ m) (fun x hx => ?_)) ?_
    · rw [mem_seqI] at hx
      split
      · exact occN_length m (h ++ [x]) (hh.snoc (by omega) (by omega))
      · simp
    · rw [seqI_length, Nat.pow_succ, Nat.mul_comm]
      exact Nat.mul_le_mul_left _ (by omega)
/-- Does the pattern occur? -/
def hasP (P Q : List Int) : Bool := hasB P Q Q.length []
end Go.Proofs.YteplokddaebbeaaGreat

/- Occurrences of a pattern: the model's search and the program's. -/
namespace Go.Proofs.YteplokddaebbeaaGreat
open Go Go.RowKit
set_option maxRecDepth 100000

theorem getD_snoc_lt {h : List Int} {x : Int} {k : Nat} (hk : k < h.length) : (h ++ [x]).getD k 0 = h.getD k 0 := by
  simp [List.getD_eq_getElem?_getD, List.getElem?_append_left hk]
theorem getD_snoc_eq (h : List Int) (x : Int) : (h ++ [x]).getD h.length 0 = x := by simp [List.getD_eq_getElem?_getD]
theorem Places.at_ {P h : List Int} (hh : Places P h) {k : Nat} (hk : k < h.length) : 1 ≤ h.getD k 0 ∧ h.getD k 0 ≤ P.length := by
  rw [getD_lt hk]; exact hh _ (List.getElem_mem hk)

theorem c_l7Fits {w : World} {p q pl : Sl} {P Q h : List Int} {x : Int} (hp : RowI w p P) (hq : RowI w q Q) (hpl : RowI w pl (h ++ [x])) (hP : P.length < 2^38) (hQ : h.length < Q.length) (hQ2 : Q.length < 2^38) (hh : Places P (h ++ [x])) :
    Quiet F.spec_l7Fits #[p.v, q.v, pl.v] w (.bool (fitsB P Q h x)) := by
  intro w1 hd
  have hpn : pl.n = h.length + 1 := by have := hpl.n; simpa using this
  have hx := hh x (by simp)
  refine spec_l7Fits.calls p q pl ?_
  rw [spec_l7Fits.E_s, hpn, w64_id (by omega) (by omega)]
  rw [show ((h.length + 1 : Nat) : Int) - 1 = (h.length : Int) by omega]
  refine spec_l7Fits.L3_rule _ _ _ _ _ _ _ (I := fun k w' => 0 ≤ k ∧ k ≤ h.length ∧ (∀ j, j < k.toNat → fitsAt P Q h x j = true) ∧ Drew w1 w') (μ := fun k _ => (h.length - k).toNat)
    ⟨by omega, by omega, fun j hj => by simp at hj, Drew.refl _⟩ ?_
  rintro k w' ⟨h0, hk, hall, hd2⟩
  have hhp : w'.heap = w.heap := (hd.trans hd2).heap'
  rw [spec_l7Fits.B3_s]
  refine bif_dec (fun h3 => ?_) (fun h3 => ?_)
  · have hlt : k.toNat < h.length := by omega
    have hat := Places.at_ (P := P) (h := h) (fun y hy => hh y (by simp [hy])) hlt
    refine RowI.get (hq.heap hhp) h0 (by omega) ?_
    refine RowI.get (hq.heap hhp) (by omega) (by omega) ?_
    refine RowI.get (hpl.heap hhp) h0 (by simp; omega) ?_
    rw [getD_snoc_lt hlt, w64_id (n := h.getD k.toNat 0 - 1) (by omega) (by omega)]
    refine RowI.get (hp.heap hhp) (by omega) (by omega) ?_
    refine RowI.get (hpl.heap hhp) (by omega) (by simp; omega) ?_
    rw [Int.toNat_natCast, getD_snoc_eq, w64_id (n := x - 1) (by omega) (by omega)]
    refine RowI.get (hp.heap hhp) (by omega) (by omega) ?_
    refine drew_intro fun w3 hd3 => ?_
    have e1 : fitsAt P Q h x k.toNat = (decide (Q.getD k.toNat 0 < Q.getD h.length 0) == decide (P.getD (h.getD k.toNat 0 - 1).toNat 0 < P.getD (x - 1).toNat 0)) := by
      rw [fitsAt, Bool.beq_comm]
    rw [← e1]
    refine bif_intro (fun h4 => ?_) (fun h4 => ?_)
    · rw [spec_l7Fits.R3_s]
      have : fitsB P Q h x = false := by
        cases hb : fitsB P Q h x
        · rfl
        · have := fitsB_iff.1 hb k.toNat hlt
          rw [this] at h4; simp at h4
      exact ⟨by rw [this], hd2.trans hd3⟩
    · refine ⟨k + 1, by rw [w64_succ h0 (by omega)], ⟨by omega, by omega, fun j hj => ?_, hd2.trans hd3⟩, by omega⟩
      by_cases e : j = k.toNat
      · rw [e]; simpa using h4
      · exact hall j (by omega)
  · rw [spec_l7Fits.A3_0_s]
    have : fitsB P Q h x = true := fitsB_iff.2 fun j hj => hall j (by omega)
    exact ⟨by rw [this], hd2⟩

theorem c_l7Find {w0 : World} {p q : Sl} {P Q : List Int} (hp : RowI w0 p P) (hq : RowI w0 q Q) (hP : P.length ≤ 8) (hQ : Q.length ≤ 8) : ∀ (m : Nat) (w : World) (hd out : Sl) (rs : List Sl) (h : List Int) (LL : List (List Int)),
    Below w0.heap.size w0 w → OwnRows w w0.heap.size out rs LL → OwnI w w0.heap.size hd h → (∀ t ∈ rs, Apt t hd) → h.length + m = Q.length → Places P h → LL.length + 8 ^ m ≤ 2^30 →
    Calls PP F.spec_l7Find #[p.v, q.v, hd.v, out.v] w fun e w' => ∃ s : Sl, e = .returned s.v ∧ OwnSS w' w0.heap.size s (LL ++ occN P Q m h) ∧ w.grownBy w' out.blk ∧ Next w out s
  | 0, w, hd, out, rs, h, LL, hb, ho, hh, hap, hl, hpl, hc => by
    have hdn : hd.n = h.length := by have := hh.n; simpa using this
    have hqn : q.n = Q.length := by have := hq.n; simpa using this
    refine spec_l7Find.calls p q hd out ?_
    rw [spec_l7Find.E_s]
    refine bif_t (by simp; omega) ?_
    refine append_sl ho hb.size hh hap (by omega) ?_
    intro s' w' h1 h2 h3
    exact ⟨s', rfl, ⟨_, h1⟩, h2, h3⟩
  | m + 1, w, hd, out, rs, h, LL, hb, ho, hh, hap, hl, hpl, hc => by
    have hdn : hd.n = h.length := by have := hh.n; simpa using this
    have hqn : q.n = Q.length := by have := hq.n; simpa using this
    have hpn : p.n = P.length := by have := hp.n; simpa using this
    have h0 := hpl.last
    have main : spec_l7Find.J6 std p q hd out (lastD h + 1) w (fun e w' => ∃ s : Sl, e = .returned s.v ∧ OwnSS w' w0.heap.size s (LL ++ occN P Q (m + 1) h) ∧ w.grownBy w' out.blk ∧ Next w out s) := by
      rw [spec_l7Find.J6_s]
      refine spec_l7Find.L7_rule _ _ _ _ _ _ _ (I := fun s x w' => lastD h + 1 ≤ x ∧ x ≤ P.length + 1 ∧ OwnSS w' w0.heap.size s (LL ++ (seqI (lastD h + 1) (x - (lastD h + 1)).toNat).flatMap fun x => if fitsB P Q h x then occN P Q m (h ++ [x]) else []) ∧ w.grownBy w' out.blk ∧ Next w out s) (μ := fun _ x _ => (P.length + 1 - x).toNat)
        ⟨by omega, by omega, by simpa [seqI] using ⟨rs, ho⟩, grownBy_refl _ _, fun g hg => .inl hg⟩ ?_
      rintro s x w' ⟨hx0, hx, hs, hg, hn⟩
      have hbw : Below w0.heap.size w0 w' := hb.grown hg hb.size (fun g hg => (ho.out.lt g hg).1)
      have hh' : OwnI w' w0.heap.size hd h := hh.kept hg (fun g hg' e => (ho.out.apt hh (by decide)) g e hg')
      rw [spec_l7Find.B7_s]
      refine bif_dec (fun h3 => ?_) (fun h3 => ?_)
      · rw [hpn] at h3
        obtain ⟨rs', hs⟩ := hs
        refine lit0 oneInt (B := w'.heap.size) (Nat.le_refl _) ?_
        intro t1 w1 ht1 hg1 _
        have hb1 := below_of_grow hg1
        refine append_row oneInt ht1 hb1.size (hh'.row.grow hb1) (fun v hv => by obtain ⟨y, _, rfl⟩ := List.mem_map.1 hv; exact One.int y) (by simp; omega) ?_
        intro t2 w2 ht2 hg2 _ _
        have ht2 : OwnI w2 w'.heap.size t2 h := by simpa [OwnI] using ht2
        have hb2 := hb1.grown hg2 hb1.size (fun g hg => (ht1.lt g hg).1)
        refine append_int ht2 hb2.size (by omega) ?_
        intro t3 w3 ht3 hg3 _
        have hb3 := hb2.grown hg3 hb2.size (fun g hg => (ht2.lt g hg).1)
        have hb03 : Below w0.heap.size w0 w3 := hbw.trans (hb3.mono hbw.size)
        have hpl2 : Places P (h ++ [x]) := hpl.snoc (by omega) h3
        refine Quiet.call1 (s := .bool) (c_l7Fits (hp.grow hb03) (hq.grow hb03) ht3.row (by omega) (by omega) (by omega) hpl2) ?_
        intro w4 hd4
        have hb4 : Below w'.heap.size w' w4 := hb3.trans (hd4.below _)
        have esq : ∀ f : Int → List (List Int), (seqI (lastD h + 1) (x + 1 - (lastD h + 1)).toNat).flatMap f = (seqI (lastD h + 1) (x - (lastD h + 1)).toNat).flatMap f ++ f x := fun f => by
          rw [show (x + 1 - (lastD h + 1)).toNat = (x - (lastD h + 1)).toNat + 1 by omega, seqI_succ, List.flatMap_append]
          simp only [List.flatMap_cons, List.flatMap_nil, List.append_nil]
          congr 2; omega
        have hcnt : ((seqI (lastD h + 1) (x - (lastD h + 1)).toNat).flatMap fun x => if fitsB P Q h x then occN P Q m (h ++ [x]) else []).length ≤ 7 * 8 ^ m := by
          refine Nat.le_trans (length_flatMap_le _ _ (8 ^ m) (fun y hy => ?_)) ?_
          · rw [mem_seqI] at hy
            split
            · exact Nat.le_trans (occN_length m (h ++ [y]) (hpl.snoc (by omega) (by omega))) (Nat.pow_le_pow_left hP m)
            · simp
          · rw [seqI_length]; exact Nat.mul_le_mul_right _ (by omega)
        have hpow : 8 ^ (m + 1) = 8 * 8 ^ m := by rw [Nat.pow_succ]; omega
        refine bif_intro (fun h5 => ?_) (fun h5 => ?_)
        · have hs4 := hs.grow hb4
          refine (c_l7Find hp hq hP hQ m w4 t3 s rs' (h ++ [x]) _ (hb03.trans (hd4.below _)) hs4 ((ht3.heap hd4.heap').mono hbw.size) (fun t ht => Apt.of_lt (fun g hg => (hs.lt ht hg).2) (fun g hg => (ht3.lt g hg).1)) (by simp; omega) hpl2 (by rw [List.length_append]; omega)).mono ?_
          rintro e w5 ⟨s5, rfl, hs5, hg5, hn5⟩
          refine ⟨s5, rfl, s5, x + 1, by rw [w64_id (by omega) (by omega)], ⟨by omega, by omega, ?_, ?_, ?_⟩, by omega⟩
          · rw [esq, if_pos h5, ← List.append_assoc]; exact hs5
          · refine ⟨hg5.os.trans (hb4.os.trans hg.os), hg5.tape.trans (hb4.tape.trans hg.tape), hg5.output.trans (hb4.output.trans hg.output), Nat.le_trans hg.size (Nat.le_trans hb4.size hg5.size), fun k hk hne => ?_⟩
            have hk' : k < w'.heap.size := Nat.lt_of_lt_of_le hk hg.size
            rw [hg5.block k (Nat.lt_of_lt_of_le hk' hb4.size) (fun e => by
              rcases hn k e.symm with h6 | h6
              · exact hne h6.symm
              · omega), hb4.block k hk', hg.block k hk hne]
          · intro g hg'
            rcases hn5 g hg' with h6 | h6
            · exact hn g h6
            · have := hg.size; have := hb4.size; exact .inr (by omega)
        · refine ⟨s, x + 1, by rw [w64_id (by omega) (by omega)], ⟨by omega, by omega, ?_, ?_, hn⟩, by omega⟩
          · rw [esq, if_neg (by simp [h5]), List.append_nil]; exact ⟨rs', hs.grow hb4⟩
          · refine ⟨hb4.os.trans hg.os, hb4.tape.trans hg.tape, hb4.output.trans hg.output, Nat.le_trans hg.size hb4.size, fun k hk hne => ?_⟩
            rw [hb4.block k (Nat.lt_of_lt_of_le hk hg.size), hg.block k hk hne]
      · rw [spec_l7Find.A7_0_s]
        rw [hpn] at h3
        have e : x = P.length + 1 := by omega
        subst e
        refine ⟨s, rfl, ?_, hg, hn⟩
        rw [occN, show ((P.length : Int) - lastD h).toNat = ((P.length : Int) + 1 - (lastD h + 1)).toNat by omega]
        exact hs
    refine spec_l7Find.calls p q hd out ?_
    rw [spec_l7Find.E_s]
    refine bif_f (by simp; omega) ?_
    refine bif_dec (fun h4 => ?_) (fun h4 => ?_)
    · rw [hdn, w64_id (by omega) (by omega)]
      refine RowI.get hh.row (by omega) (by omega) ?_
      rw [show ((h.length : Int) - 1).toNat = h.length - 1 by omega]
      show spec_l7Find.J6 std p q hd out (w64 (lastD h + 1)) w _
      rw [w64_id (by omega) (by omega)]
      exact main
    · have : h = [] := List.eq_nil_of_length_eq_zero (by omega)
      subst this
      exact main

theorem c_l7Has {w : World} {p q : Sl} {P Q : List Int} (hp : RowI w p P) (hq : RowI w q Q) (hP : P.length ≤ 8) (hQ : Q.length ≤ 8) :
    Calls PP F.spec_l7Has #[p.v, q.v] w fun e w' => e = .returned (.bool (hasP P Q)) ∧ Below w.heap.size w w' := by
  refine spec_l7Has.calls p q ?_
  rw [spec_l7Has.E_s]
  refine lit0 oneInt (B := w.heap.size) (Nat.le_refl _) ?_
  intro s w1 hs hg1 hc1
  refine lit0 oneSint (B := w.heap.size) (by have := hg1.size; omega) ?_
  intro t w2 ht hg2 hc2
  have hb1 := below_of_grow hg1
  have hb2 := hb1.grown hg2 hb1.size (by simp)
  have h8 : 8 ^ Q.length ≤ 8 ^ 8 := Nat.pow_le_pow_right (by omega) hQ
  refine (c_l7Find hp hq hP hQ Q.length w2 s t [] [] [] hb2 (OwnRows.nil ht) (hs.kept hg2 (by simp)) (fun t ht => by simp at ht) (by simp) (Places.nil P) (by simp only [List.length_nil]; omega)).mono ?_
  rintro e w3 ⟨u, rfl, hu, hg3, _⟩
  refine ⟨u, rfl, ?_, hb2.grown hg3 hb2.size (fun g hg => (ht.lt g hg).1)⟩
  have hn := hu.row.n
  rw [List.nil_append] at hn
  rw [hn]
  congr 2
  unfold hasP hasB
  cases occN P Q Q.length [] <;> simp <;> omega

theorem c_has {w0 : World} {p q : Sl} {P Q : List Int} (hp : RowI w0 p P) (hq : RowI w0 q Q) (hP : P.length < 2^37) (hQ : Q.length < 2^37) : ∀ (m : Nat) (w : World) (ch : Sl) (h : List Int),
    Below w0.heap.size w0 w → RowI w ch (h.map (· - 1)) → h.length + m = Q.length → Places P h →
    Calls PP F.impl_has #[p.v, q.v, ch.v] w fun e w' => e = .returned (.bool (hasB P Q m h)) ∧ Below w.heap.size w w'
  | 0, w, ch, h, hb, hh, hl, hpl => by
    have hdn : ch.n = h.length := by have := hh.n; simpa using this
    have hqn : q.n = Q.length := by have := hq.n; simpa using this
    refine impl_has.calls p q ch ?_
    rw [impl_has.E_s]
    refine bif_t (by simp; omega) ?_
    exact ⟨by rw [hasB_zero], Below.refl _ _⟩
  | m + 1, w, ch, h, hb, hh, hl, hpl => by
    have hdn : ch.n = h.length := by have := hh.n; simpa using this
    have hqn : q.n = Q.length := by have := hq.n; simpa using this
    have hpn : p.n = P.length := by have := hp.n; simpa using this
    have h0 := hpl.last
    have main : impl_has.J6 std p q ch (lastD h) w (fun e w' => e = .returned (.bool (hasB P Q (m + 1) h)) ∧ Below w.heap.size w w') := by
      rw [impl_has.J6_s]
      refine impl_has.L8_rule _ _ _ _ _ _ _ (I := fun i w' => lastD h ≤ i ∧ i ≤ P.length + 1 ∧ Below w.heap.size w w' ∧ ∀ x, lastD h < x → x ≤ i → x ≤ P.length → fitsB P Q h x = true → hasB P Q m (h ++ [x]) = false) (μ := fun i _ => (P.length + 2 - i).toNat)
        ⟨by omega, by omega, Below.refl _ _, fun x h1 h2 => by omega⟩ ?_
      rintro i w' ⟨hi0, hi, hbw, hall⟩
      have hb0 : Below w0.heap.size w0 w' := hb.trans (hbw.mono hb.size)
      have hh' := hh.grow hbw
      have elen : (List.map (fun x => x - 1) h).length = h.length := by simp
      rw [impl_has.B8_s, hpn, hqn, hdn]
      rw [w64_id (n := (Q.length : Int) - h.length) (by omega) (by omega), w64_id (n := (P.length : Int) - ((Q.length : Int) - h.length)) (by omega) (by omega)]
      refine bif_dec (fun h3 => ?_) (fun h3 => ?_)
      · have hx1 : 1 ≤ i + 1 := by omega
        refine impl_has.L12_rule _ _ _ _ _ _ _ _ _ _ _ (I := fun f k w2 => 0 ≤ k ∧ k ≤ h.length ∧ f = (List.range k.toNat).all (fitsAt P Q h (i + 1)) ∧ Drew w' w2) (μ := fun _ k _ => (h.length - k).toNat)
          ⟨by omega, by omega, by simp, Drew.refl _⟩ ?_
        rintro f k w2 ⟨hk0, hk, hf, hd⟩
        have hhp2 := hd.heap'
        rw [impl_has.B12_s]
        refine bif_dec (fun h4 => ?_) (fun h4 => ?_)
        · have hlt : k.toNat < h.length := by omega
          have hat := hpl.at_ hlt
          refine RowI.get (hh'.heap hhp2) hk0 (by rw [elen]; omega) ?_
          have e0 : (List.map (fun x => x - 1) h).getD k.toNat 0 = h.getD k.toNat 0 - 1 := by
            rw [getD_lt (by rw [elen]; exact hlt), getD_lt hlt, List.getElem_map]
          rw [e0]
          have hs : (List.range (k + 1).toNat).all (fitsAt P Q h (i + 1)) = (f && fitsAt P Q h (i + 1) k.toNat) := by
            rw [show (k + 1).toNat = k.toNat + 1 by omega, List.range_succ, List.all_append, ← hf]; simp
          refine bif_intro (fun h5 => ?_) (fun h5 => ?_)
          · refine RowI.get ((hp.grow hb0).heap hhp2) (by omega) (by omega) ?_
            refine RowI.get ((hp.grow hb0).heap hhp2) (by omega) (by omega) ?_
            refine RowI.get ((hq.grow hb0).heap hhp2) hk0 (by omega) ?_
            refine RowI.get ((hq.grow hb0).heap hhp2) (by omega) (by omega) ?_
            refine drew_intro fun w3 hd3 => ?_
            refine ⟨_, k + 1, by rw [w64_succ hk0 (by omega)], ⟨by omega, by omega, ?_, hd.trans hd3⟩, by omega⟩
            rw [hs, h5, Bool.true_and, fitsAt, Int.toNat_natCast, show i + 1 - 1 = i by omega]
          · refine drew_intro fun w3 hd3 => ?_
            refine ⟨_, k + 1, by rw [w64_succ hk0 (by omega)], ⟨by omega, by omega, ?_, hd.trans hd3⟩, by omega⟩
            rw [hs, h5, Bool.false_and]
        · rw [impl_has.A12_2_s]
          have ek : k.toNat = h.length := by omega
          rw [ek] at hf
          have hf : f = fitsB P Q h (i + 1) := hf
          have hbw2 := hbw.trans (hd.below _)
          refine bif_intro (fun h5 => ?_) (fun h5 => ?_)
          · refine (c_Clone (hh'.heap hhp2) (by rw [elen]; omega)).mono ?_
            rintro e w3 ⟨s, rfl, hs, hb3⟩
            refine ⟨s, rfl, ?_⟩
            refine append_int hs hb3.size (by rw [elen]; omega) ?_
            intro t w4 ht hg4 _
            have hb4 : Below w2.heap.size w2 w4 := hb3.grown hg4 hb3.size (fun g hg => (hs.lt g hg).1)
            have hb04 : Below w0.heap.size w0 w4 := (hb0.trans (hd.below _)).trans (hb4.mono (by have := hb0.size; have := hhp2; rw [hhp2]; exact this |> fun _ => hb0.size))
            have hpl2 : Places P (h ++ [i + 1]) := hpl.snoc (by omega) (by omega)
            have ht' : RowI w4 t ((h ++ [i + 1]).map (· - 1)) := by
              have := ht.row
              rw [List.map_append, List.map_cons, List.map_nil, show i + 1 - 1 = i by omega]
              exact this
            refine (c_has hp hq hP hQ m w4 t (h ++ [i + 1]) hb04 ht' (by simp; omega) hpl2).mono ?_
            rintro e w5 ⟨rfl, hb5⟩
            refine ⟨_, rfl, ?_⟩
            have hb15 : Below w.heap.size w w5 := (hbw2.trans (hb4.mono hbw2.size)).trans (hb5.mono (Nat.le_trans hbw2.size hb4.size))
            refine bif_intro (fun h6 => ?_) (fun h6 => ?_)
            · rw [impl_has.R8_s]
              have : hasB P Q (m + 1) h = true := hasB_succ.2 ⟨i + 1, by omega, by omega, by rw [← hf]; exact h5, h6⟩
              exact ⟨by rw [this], hb15⟩
            · refine ⟨i + 1, by rw [w64_succ (by omega) (by omega)], ⟨by omega, by omega, hb15, fun x h7 h8 h9 h10 => ?_⟩, by omega⟩
              by_cases e : x = i + 1
              · rw [e]; exact h6
              · exact hall x h7 (by omega) h9 h10
          · refine ⟨i + 1, by rw [w64_succ (by omega) (by omega)], ⟨by omega, by omega, hbw2, fun x h7 h8 h9 h10 => ?_⟩, by omega⟩
            by_cases e : x = i + 1
            · rw [e, ← hf, h5] at h10; cases h10
            · exact hall x h7 (by omega) h9 h10
      · rw [impl_has.A8_0_s]
        have : hasB P Q (m + 1) h = false := by
          cases hb2 : hasB P Q (m + 1) h
          · rfl
          · obtain ⟨x, h7, h8, h9, h10⟩ := hasB_succ.1 hb2
            have h11 := hasB_room m (h ++ [x]) (hpl.snoc (by omega) h8) h10
            rw [lastD_snoc] at h11
            rw [hall x h7 (by omega) h8 h9] at h10
            cases h10
        exact ⟨by rw [this], hbw⟩
    refine impl_has.calls p q ch ?_
    rw [impl_has.E_s]
    refine bif_f (by simp; omega) ?_
    refine bif_dec (fun h4 => ?_) (fun h4 => ?_)
    · rw [hdn, w64_id (by omega) (by omega)]
      refine RowI.get hh (by omega) (by simp; omega) ?_
      have e0 : (List.map (fun x => x - 1) h).getD ((h.length : Int) - 1).toNat 0 = lastD h - 1 := by
        rw [getD_lt (by simp; omega), List.getElem_map, lastD, getD_lt (by omega)]
        congr 2; omega
      rw [e0, show lastD h - 1 + 1 = lastD h by omega, w64_id (by omega) (by omega)]
      exact main
    · have : h = [] := List.eq_nil_of_length_eq_zero (by omega)
      subst this
      exact main
theorem c_has_nil {w : World} {p q : Sl} {P Q : List Int} (hp : RowI w p P) (hq : RowI w q Q) (hP : P.length < 2^37) (hQ : Q.length < 2^37) :
    Calls PP F.impl_has #[p.v, q.v, Sl.nil.v] w fun e w' => e = .returned (.bool (hasP P Q)) ∧ Below w.heap.size w w' :=
  c_has hp hq hP hQ Q.length w Sl.nil [] (Below.refl _ _) ⟨rfl, Nat.le_refl _, fun i v hv => by simp at hv⟩ (by simp) (Places.nil P)
end Go.Proofs.YteplokddaebbeaaGreat

/- The order of lists by length and first difference; classes: plain facts. -/
namespace Go.Proofs.YteplokddaebbeaaGreat
open Go
set_option maxRecDepth 100000

def lexC : List Int → List Int → Int
  | [], [] => 0
  | [], _ :: _ => -1
  | _ :: _, [] => 1
  | x :: a, y :: b => if x < y then -1 else if x > y then 1 else lexC a b
def cmpP (a b : List Int) : Int := if a.length < b.length then -1 else if a.length > b.length then 1 else lexC a b
theorem lexC_range : ∀ a b, lexC a b = -1 ∨ lexC a b = 0 ∨ lexC a b = 1
  | [], [] => by simp [lexC]
  | [], _ :: _ => by simp [lexC]
  | _ :: _, [] => by simp [lexC]
  | x :: a, y :: b => by
    rw [lexC]
    have := lexC_range a b
    split
    · simp
    · split
      · simp
      · exact this
theorem lexC_drop {a b : List Int} {k : Nat} (ha : k < a.length) (hb : k < b.length) : lexC (a.drop k) (b.drop k) = if a.getD k 0 < b.getD k 0 then -1 else if a.getD k 0 > b.getD k 0 then 1 else lexC (a.drop (k + 1)) (b.drop (k + 1)) := by
  rw [List.drop_eq_getElem_cons ha, List.drop_eq_getElem_cons hb, lexC, getD_lt ha, getD_lt hb]
structure BasisAt (LL : List (List Int)) (k : Nat) : Prop where
  perm : IsP (LL.getD k [])
  ne : LL.getD k [] ≠ []
  ord : 0 < k → cmpP (LL.getD (k - 1) []) (LL.getD k []) < 0
  min : ∀ i, i < k → hasP (LL.getD k []) (LL.getD i []) = false
def BasisOk (LL : List (List Int)) : Prop := LL.length ≤ 8 ∧ ∀ k, k < LL.length → BasisAt LL k
/-- None of a list occurs. -/
def avoidsV (LL : List (List Int)) (P : List Int) : Bool := !(LL.any fun q => hasP P q)
theorem BasisOk.isP {LL : List (List Int)} (h : BasisOk LL) {q : List Int} (hq : q ∈ LL) : IsP q := by
  obtain ⟨i, hi, rfl⟩ := List.getElem_of_mem hq
  have := (h.2 i hi).perm
  simpa [List.getD_eq_getElem?_getD, List.getElem?_eq_getElem hi] using this
end Go.Proofs.YteplokddaebbeaaGreat

/- Bases and classes: both texts of IsBasis, avoids, InClass. -/
namespace Go.Proofs.YteplokddaebbeaaGreat
open Go Go.RowKit
set_option maxRecDepth 100000

theorem c_isNaN' (n : Int) : Pure F.cmp_isNaN_int_ #[vI n] (.bool false) := by
  intro w
  refine cmp_isNaN_int_.calls n ?_
  rw [cmp_isNaN_int_.E_s]
  exact ⟨by simp, rfl⟩
theorem c_Compare (a b : Int) : Pure F.cmp_Compare_int_ #[vI a, vI b] (vI (if a < b then -1 else if a > b then 1 else 0)) := by
  intro w
  refine cmp_Compare_int_.calls a b ?_
  rw [cmp_Compare_int_.E_s]
  refine Pure.pcall1 (s := .bool) (c_isNaN' a) ?_
  refine Pure.pcall1 (s := .bool) (c_isNaN' b) ?_
  refine bif_f rfl ?_
  refine bif_f rfl ?_
  refine bif_dec (fun h => ⟨by rw [if_pos h], rfl⟩) (fun h => ?_)
  refine bif_dec (fun h2 => ⟨by rw [if_neg h, if_pos h2], rfl⟩) (fun h2 => ⟨by rw [if_neg h, if_neg h2], rfl⟩)
theorem c_CompareS {w : World} {a b : Sl} {L M : List Int} (ha : RowI w a L) (hb : RowI w b M) (hL : L.length < 2^38) : Quiet F.slices_Compare___int_int_ #[a.v, b.v] w (vI (lexC L M)) := by
  intro w1 hd
  have han : a.n = L.length := by have := ha.n; simpa using this
  have hbn : b.n = M.length := by have := hb.n; simpa using this
  refine slices_Compare___int_int_.calls a b ?_
  rw [slices_Compare___int_int_.E_s, han]
  refine slices_Compare___int_int_.L2_rule _ _ _ _ _ _ _ (I := fun k w' => w' = w1 ∧ 0 ≤ k ∧ k ≤ L.length ∧ k ≤ M.length ∧ lexC L M = lexC (L.drop k.toNat) (M.drop k.toNat)) (μ := fun k _ => (L.length - k).toNat) ⟨rfl, by omega, by omega, by omega, rfl⟩ ?_
  rintro k w' ⟨rfl, h0, hk, hkM, he⟩
  rw [slices_Compare___int_int_.B2_s, hbn]
  refine bif_dec (fun h3 => ?_) (fun h3 => ?_)
  · have hlt : k.toNat < L.length := by omega
    refine RowI.get (ha.heap hd.heap') h0 (by omega) ?_
    refine bif_dec (fun h4 => ?_) (fun h4 => ?_)
    · rw [slices_Compare___int_int_.R2_s]
      refine ⟨?_, Drew.refl _⟩
      rw [he, show M.drop k.toNat = [] from List.drop_eq_nil_of_le (by omega), List.drop_eq_getElem_cons hlt, lexC]
    · refine RowI.get (hb.heap hd.heap') h0 (by omega) ?_
      refine Pure.pcall1 (s := .int .i64) (c_Compare _ _) ?_
      rw [lexC_drop hlt (by omega)] at he
      refine bif_intro (fun h5 => ?_) (fun h5 => ?_)
      · rw [slices_Compare___int_int_.R2_s]
        refine ⟨?_, Drew.refl _⟩
        rw [he]
        split
        · rfl
        · split
          · rfl
          · rename_i h6 h7
            rw [if_neg h6, if_neg h7] at h5
            simp at h5
      · have h6 : ¬ L.getD k.toNat 0 < M.getD k.toNat 0 := fun h => by rw [if_pos h] at h5; simp at h5
        have h7 : ¬ L.getD k.toNat 0 > M.getD k.toNat 0 := fun h => by rw [if_neg h6, if_pos h] at h5; simp at h5
        rw [if_neg h6, if_neg h7] at he
        exact ⟨k + 1, by rw [w64_succ h0 (by omega)], ⟨rfl, by omega, by omega, by omega, by rw [show (k + 1).toNat = k.toNat + 1 by omega]; exact he⟩, by omega⟩
  · rw [slices_Compare___int_int_.A2_0_s, han, hbn]
    rw [show L.drop k.toNat = [] from List.drop_eq_nil_of_le (by omega)] at he
    refine bif_dec (fun h4 => ?_) (fun h4 => ?_)
    · refine ⟨?_, Drew.refl _⟩
      rw [he, List.drop_eq_getElem_cons (show k.toNat < M.length by omega), lexC]
    · refine ⟨?_, Drew.refl _⟩
      rw [he, List.drop_eq_nil_of_le (by omega), lexC]
theorem fill_two (z v u : Value) (hz : z.cells = #[z]) (hv : One v) (hu : One u) : Instr.fill (fun i => some (i * 1, 1)) ((Array.range (2 * 1)).map (z.cells[· % z.cells.size]!)) [(0, v), (1, u)] = some #[v, u] := by
  simp [Instr.fill, hv.1, hu.1, hz, Array.range]
  rfl
theorem lit2 {t e z} (hT : OneT t e z) {w : World} {B : Nat} (hB : B ≤ w.heap.size) {v u : Value} (hv : One v) (hu2 : One u) {K : Sl → World → Prop}
    (h : ∀ s w', Own w' B e s [v, u] → w.grownBy w' none → K s w') : sem1 .sl PP (Instr.buildSlice t 2 #[(0, v), (1, u)]) w K := by
  obtain ⟨i, hu, hi, hz, hs, hb, hzc⟩ := hT
  have hrun : (Instr.buildSlice t 2 #[(0, v), (1, u)]).run PP w = .ok (.slice (some ⟨w.heap.size, 0, none⟩) 2 2) (w.alloc (.cells #[v, u] e)) := by
    refine run_buildSlice w t e 2 #[(0, v), (1, u)] #[v, u] i z hu hi hz (by rw [hs]; decide) (by rw [hs]; decide) ?_
    rw [hs]
    exact fill_two z v u hzc hv hu2
  exact ⟨⟨some ⟨w.heap.size, 0, none⟩, 2, 2⟩, _, hrun, h _ _ ⟨rfl, Nat.le_refl _, by simp only [maxLen]; omega, .inr ⟨_, _, rfl, hB, heap_alloc_new w _, rfl, rfl⟩⟩ (World.grownBy_alloc w _ none)⟩
theorem c_Or {w : World} {a : Sl} {x y : Int} (ha : RowI w a [x, y]) : Quiet F.cmp_Or_int_ #[a.v] w (vI (if x ≠ 0 then x else y)) := by
  intro w1 hd
  have han : a.n = 2 := by have := ha.n; simpa using this
  have haw := ha.heap hd.heap'
  refine cmp_Or_int_.calls a ?_
  rw [cmp_Or_int_.E_s, han]
  refine cmp_Or_int_.L3_rule _ _ _ _ _ _ (I := fun k w' => w' = w1 ∧ 0 ≤ k ∧ k ≤ 2 ∧ (1 ≤ k → x = 0) ∧ (2 ≤ k → y = 0)) (μ := fun k _ => (2 - k).toNat) ⟨rfl, by omega, by omega, fun h => by omega, fun h => by omega⟩ ?_
  rintro k w' ⟨rfl, h0, hk, hx, hy⟩
  rw [cmp_Or_int_.B3_s]
  refine bif_dec (fun h3 => ?_) (fun h3 => ?_)
  · refine RowI.get haw h0 (by simp; omega) ?_
    have hk2 : k = 0 ∨ k = 1 := by omega
    refine bif_intro (fun h5 => ?_) (fun h5 => ?_)
    · rw [cmp_Or_int_.R3_s]
      refine ⟨?_, Drew.refl _⟩
      rcases hk2 with rfl | rfl
      · have h5 : x ≠ 0 := by simpa using h5
        rw [if_pos h5]; rfl
      · rw [if_neg (by simp [hx (by omega)])]; rfl
    · refine ⟨k + 1, by rw [w64_succ h0 (by omega)], ⟨rfl, by omega, by omega, fun h => ?_, fun h => ?_⟩, by omega⟩
      · rcases hk2 with rfl | rfl
        · simpa using h5
        · exact hx (by omega)
      · rcases hk2 with rfl | rfl
        · omega
        · simpa using h5
  · rw [cmp_Or_int_.A3_0_s]
    refine ⟨?_, Drew.refl _⟩
    rw [hx (by omega), hy (by omega)]; rfl
theorem c_comparePerms {w : World} {a b : Sl} {L M : List Int} (ha : RowI w a L) (hb : RowI w b M) (hL : L.length < 2^38) :
    Calls PP F.impl_comparePerms #[a.v, b.v] w fun e w' => e = .returned (vI (cmpP L M)) ∧ Below w.heap.size w w' := by
  have han : a.n = L.length := by have := ha.n; simpa using this
  have hbn : b.n = M.length := by have := hb.n; simpa using this
  refine impl_comparePerms.calls a b ?_
  rw [impl_comparePerms.E_s, han, hbn]
  refine Pure.pcall1 (s := .int .i64) (c_Compare _ _) ?_
  refine Quiet.call1 (s := .int .i64) (c_CompareS ha hb hL) ?_
  intro w1 hd
  refine lit2 oneInt (B := w1.heap.size) (Nat.le_refl _) (One.int _) (One.int _) ?_
  intro s w2 hs hg
  have hb2 : Below w.heap.size w w2 := (hd.below w.heap.size).trans ((below_of_grow hg).mono (by rw [hd.heap']; exact Nat.le_refl _))
  have hs : OwnI w2 w1.heap.size s [if (L.length : Int) < M.length then -1 else if (L.length : Int) > M.length then 1 else 0, lexC L M] := hs
  refine Quiet.call1 (s := .int .i64) (c_Or hs.row) ?_
  intro w3 hd3
  refine ⟨?_, hb2.trans (hd3.below _)⟩
  congr 2
  unfold cmpP
  by_cases h1 : L.length < M.length
  · rw [if_pos (show (L.length : Int) < (M.length : Int) by omega), if_pos h1]; rfl
  · by_cases h2 : L.length > M.length
    · rw [if_neg (show ¬ (L.length : Int) < (M.length : Int) by omega), if_pos (show (L.length : Int) > (M.length : Int) by omega), if_neg h1, if_pos h2]; rfl
    · rw [if_neg (show ¬ (L.length : Int) < (M.length : Int) by omega), if_neg (show ¬ (L.length : Int) > (M.length : Int) by omega), if_neg h1, if_neg h2]; rfl
theorem c_l2Before {w : World} {a b : Sl} {L M : List Int} (ha : RowI w a L) (hb : RowI w b M) (hL : L.length < 2^38) : Quiet F.spec_l2Before #[a.v, b.v] w (.bool (decide (cmpP L M < 0))) := by
  intro w1 hd
  have han : a.n = L.length := by have := ha.n; simpa using this
  have hbn : b.n = M.length := by have := hb.n; simpa using this
  refine spec_l2Before.calls a b ?_
  rw [spec_l2Before.E_s, han, hbn]
  refine bif_intro (fun h => ?_) (fun h => ?_)
  · have h : L.length ≠ M.length := by simp at h; omega
    refine ⟨?_, Drew.refl _⟩
    congr 2
    unfold cmpP
    by_cases h1 : L.length < M.length
    · rw [if_pos h1, decide_eq_true (by omega)]; rfl
    · rw [if_neg h1, if_pos (by omega), decide_eq_false (by omega)]; rfl
  have hlen : L.length = M.length := by simp at h; omega
  have hc : cmpP L M = lexC L M := by rw [cmpP, if_neg (by omega), if_neg (by omega)]
  refine spec_l2Before.L4_rule _ _ _ _ _ (I := fun k w' => Drew w1 w' ∧ 0 ≤ k ∧ k ≤ L.length ∧ lexC L M = lexC (L.drop k.toNat) (M.drop k.toNat)) (μ := fun k _ => (L.length - k).toNat) ⟨Drew.refl _, by omega, by omega, rfl⟩ ?_
  rintro k w' ⟨hd2, h0, hk, he⟩
  have hh := (hd.trans hd2).heap'
  rw [spec_l2Before.B4_s, han]
  refine bif_dec (fun h3 => ?_) (fun h3 => ?_)
  · have hlt : k.toNat < L.length := by omega
    refine RowI.get (ha.heap hh) h0 (by omega) ?_
    refine RowI.get (hb.heap hh) h0 (by omega) ?_
    refine drew_intro fun w3 hd3 => ?_
    have hh3 := ((hd.trans hd2).trans hd3).heap'
    rw [lexC_drop hlt (by omega)] at he
    refine bif_intro (fun h5 => ?_) (fun h5 => ?_)
    · have h5 : L.getD k.toNat 0 ≠ M.getD k.toNat 0 := by simpa using h5
      refine RowI.get (ha.heap hh3) h0 (by omega) ?_
      refine RowI.get (hb.heap hh3) h0 (by omega) ?_
      refine drew_intro fun w4 hd4 => ?_
      rw [spec_l2Before.R4_s]
      refine ⟨?_, (hd2.trans hd3).trans hd4⟩
      congr 2
      rw [hc, he]
      by_cases h6 : L.getD k.toNat 0 < M.getD k.toNat 0
      · rw [if_pos h6, decide_eq_true h6]; rfl
      · rw [if_neg h6, if_pos (by omega), decide_eq_false h6]; rfl
    · have h5 : L.getD k.toNat 0 = M.getD k.toNat 0 := by simpa using h5
      rw [if_neg (by omega), if_neg (by omega)] at he
      exact ⟨k + 1, by rw [w64_succ h0 (by omega)], ⟨hd2.trans hd3, by omega, by omega, by rw [show (k + 1).toNat = k.toNat + 1 by omega]; exact he⟩, by omega⟩
  · rw [spec_l2Before.A4_0_s]
    refine ⟨?_, hd2⟩
    congr 2
    rw [hc, he, List.drop_eq_nil_of_le (by omega), List.drop_eq_nil_of_le (by omega)]; rfl

/-! ### avoids -/
theorem c_avoids {w : World} {l p : Sl} {LL : List (List Int)} {P : List Int} (hl : RowSS w l LL) (hp : RowI w p P) (hP : P.length < 2^37) (hn : LL.length < 2^38) (hq : ∀ q ∈ LL, q.length < 2^37) :
    Calls PP F.impl_avoids #[l.v, p.v] w fun e w' => e = .returned (.bool (avoidsV LL P)) ∧ Below w.heap.size w w' := by
  refine impl_avoids.calls l p ?_
  rw [impl_avoids.E_s]
  refine new_one ?_
  intro ad w1 had hb1
  refine (c_ContainsFuncS (φ := fun q => hasP P q) (hl.grow hb1) hn (fun q hqm r hr => ?_)).mono ?_
  · intro w2 hb2
    refine ⟨_, _, _, rfl, by kernel_rfl, ?_⟩
    show Calls PP F.impl_avoidsL1 #[r.v, .pointer (some ad)] w2 _
    refine impl_avoidsL1.calls r ad ?_
    rw [impl_avoidsL1.E_s]
    refine load_sl (cell_grow had hb2) ?_
    refine (c_has_nil ((hp.grow hb1).grow hb2) (hr.grow hb2) hP (hq q hqm)).mono ?_
    rintro e w3 ⟨rfl, hb3⟩
    exact ⟨_, rfl, rfl, hb3⟩
  · rintro e w2 ⟨rfl, hb2⟩
    exact ⟨_, rfl, rfl, hb1.trans (hb2.mono hb1.size)⟩
theorem any_take_succ {LL : List (List Int)} {φ : List Int → Bool} {k : Nat} (hk : k < LL.length) : (LL.take (k + 1)).any φ = ((LL.take k).any φ || φ (LL.getD k [])) := by
  rw [List.take_succ_eq_append_getElem hk, List.any_append, getD_SS hk]; simp
theorem c_l12Avoids {w : World} {l p : Sl} {LL : List (List Int)} {P : List Int} (hl : RowSS w l LL) (hp : RowI w p P) (hP : P.length ≤ 8) (hn : LL.length < 2^38) (hq : ∀ q ∈ LL, q.length ≤ 8) :
    Calls PP F.spec_l12Avoids #[l.v, p.v] w fun e w' => e = .returned (.bool (avoidsV LL P)) ∧ Below w.heap.size w w' := by
  have hln := hl.n
  refine spec_l12Avoids.calls l p ?_
  rw [spec_l12Avoids.E_s]
  refine spec_l12Avoids.L2_rule _ _ _ _ _ (I := fun k w' => 0 ≤ k ∧ k ≤ LL.length ∧ (LL.take k.toNat).any (fun q => hasP P q) = false ∧ Below w.heap.size w w') (μ := fun k _ => (LL.length - k).toNat) ⟨by omega, by omega, by simp, Below.refl _ _⟩ ?_
  rintro k w' ⟨h0, hk, hall, hb⟩
  rw [spec_l12Avoids.B2_s, hln]
  refine bif_dec (fun h3 => ?_) (fun h3 => ?_)
  · have hlt : k.toNat < LL.length := by omega
    refine RowSS.get (hl.grow hb) h0 (by omega) fun r hr => ?_
    have hmem : LL.getD k.toNat [] ∈ LL := by rw [getD_SS hlt]; exact List.getElem_mem hlt
    refine (c_l7Has (hp.grow hb) hr hP (hq _ hmem)).mono ?_
    rintro e w2 ⟨rfl, hb2⟩
    refine ⟨_, rfl, ?_⟩
    have hb12 := hb.trans (hb2.mono hb.size)
    refine bif_intro (fun h4 => ?_) (fun h4 => ?_)
    · rw [spec_l12Avoids.R2_s]
      refine ⟨?_, hb12⟩
      have : LL.any (fun q => hasP P q) = true := List.any_eq_true.2 ⟨_, hmem, h4⟩
      rw [avoidsV, this]; rfl
    · refine ⟨k + 1, by rw [w64_succ h0 (by omega)], ⟨by omega, by omega, ?_, hb12⟩, by omega⟩
      rw [show (k + 1).toNat = k.toNat + 1 by omega, any_take_succ hlt, hall, h4]; rfl
  · rw [spec_l12Avoids.A2_0_s]
    rw [show k.toNat = LL.length by omega, List.take_length] at hall
    exact ⟨by rw [avoidsV, hall]; rfl, hb⟩

/-! ### IsBasis -/
open Classical in
noncomputable def IsBasisV (LL : List (List Int)) : Bool := decide (BasisOk LL)
open Classical in
theorem c_implIsBasis {w : World} {a : Sl} {LL : List (List Int)} (ha : RowSS w a LL) (hL : LL.length < 2^38) (ht : tot LL < 2^37) :
    Calls PP F.impl_IsBasis #[a.v] w fun e w' => e = .returned (.bool (IsBasisV LL)) ∧ Below w.heap.size w w' := by
  have han := ha.n
  have no : ∀ w', Below w.heap.size w w' → ¬ BasisOk LL → (Ending.returned (.bool false)) = .returned (.bool (IsBasisV LL)) ∧ Below w.heap.size w w' := fun w' hb hn => ⟨by simp [IsBasisV, hn], hb⟩
  refine impl_IsBasis.calls a ?_
  rw [impl_IsBasis.E_s, han]
  refine bif_dec (fun h => no w (Below.refl _ _) fun hh => by have := hh.1; omega) (fun h8 => ?_)
  refine impl_IsBasis.L4_rule _ _ _ _ _ _ (I := fun k w' => 0 ≤ k ∧ k ≤ LL.length ∧ (∀ j, j < k.toNat → BasisAt LL j) ∧ Below w.heap.size w w') (μ := fun k _ => (LL.length - k).toNat) ⟨by omega, by omega, fun j hj => by simp at hj, Below.refl _ _⟩ ?_
  rintro k w' ⟨h0, hk, hall, hb⟩
  rw [impl_IsBasis.B4_s]
  refine bif_dec (fun h3 => ?_) (fun h3 => ?_)
  · have hlt : k.toNat < LL.length := by omega
    have hmem : ∀ j, j < LL.length → LL.getD j [] ∈ LL := fun j hj => by rw [getD_SS hj]; exact List.getElem_mem hj
    have hlen : ∀ j, j < LL.length → (LL.getD j []).length < 2^37 := fun j hj => by have := len_le_tot (hmem j hj); omega
    refine RowSS.getB ha hb h0 (by omega) fun r hr => ?_
    have hrn : r.n = (LL.getD k.toNat []).length := by have := hr.n; simpa using this
    have hl1 := hlen k.toNat hlt
    refine (c_implIsPerm (hr.grow hb) (by omega)).mono ?_
    rintro e w2 ⟨rfl, hb2⟩
    refine ⟨_, rfl, ?_⟩
    have hb12 := hb.trans (hb2.mono hb.size)
    have bad : ∀ w3, Below w.heap.size w w3 → ¬ BasisAt LL k.toNat → impl_IsBasis.q1 std (fun e w' => e = .returned (.bool (IsBasisV LL)) ∧ Below w.heap.size w w') .ret [(2, .bool false)] w3 := by
      intro w3 hb3 hn
      rw [impl_IsBasis.R4_s]
      exact no w3 hb3 fun hh => hn (hh.2 k.toNat hlt)
    refine bif_intro (fun h4 => ?_) (fun h4 => ?_)
    · have h4 : ¬ IsP (LL.getD k.toNat []) := by simpa using h4
      exact bad w2 hb12 fun hh => h4 hh.perm
    have h4 : IsP (LL.getD k.toNat []) := by simpa using h4
    rw [hrn]
    refine bif_intro (fun h5 => ?_) (fun h5 => ?_)
    · have h5 : LL.getD k.toNat [] = [] := by simpa using h5
      exact bad w2 hb12 fun hh => hh.ne h5
    have h5 : LL.getD k.toNat [] ≠ [] := by simpa using h5
    -- the loop over the earlier ones
    have inner : ∀ w3, Below w.heap.size w w3 → (0 < k.toNat → cmpP (LL.getD (k.toNat - 1) []) (LL.getD k.toNat []) < 0) → cutK 1 a none (some k) fun (s12 : Sl) => impl_IsBasis.L9 std a r a (LL.length : Int) k s12 (s12.n : Int) 0 w3
        (impl_IsBasis.q13 std (fun e2 w2 => ∃ t12_n, e2 = impl_IsBasis.emb4 a a (LL.length : Int) t12_n ∧ (0 ≤ t12_n ∧ t12_n ≤ LL.length ∧ (∀ j, j < t12_n.toNat → BasisAt LL j) ∧ Below w.heap.size w w2) ∧ (LL.length - t12_n).toNat < (LL.length - k).toNat)
        (impl_IsBasis.q1 std fun e w' => e = .returned (.bool (IsBasisV LL)) ∧ Below w.heap.size w w')) := by
      intro w3 hb3 hord
      obtain ⟨m, rfl⟩ : ∃ m : Nat, k = m := ⟨k.toNat, by omega⟩
      simp only [Int.toNat_natCast] at *
      refine RowSS.take ha (i := m) (by omega) fun s hs => ?_
      have hsn := hs.n
      rw [List.length_take, Nat.min_eq_left (by omega)] at hsn
      rw [hsn]
      refine impl_IsBasis.L9_rule _ _ _ _ _ _ _ _ _ _ (I := fun i w4 => 0 ≤ i ∧ i ≤ m ∧ (∀ j, j < i.toNat → hasP (LL.getD m []) (LL.getD j []) = false) ∧ Below w.heap.size w w4) (μ := fun i _ => (m - i).toNat) ⟨by omega, by omega, fun j hj => by simp at hj, hb3⟩ ?_
      rintro i w4 ⟨hi0, hi, hall2, hb4⟩
      rw [impl_IsBasis.B9_s]
      refine bif_dec (fun h6 => ?_) (fun h6 => ?_)
      · refine RowSS.get (hs.grow hb4) hi0 (by rw [List.length_take]; omega) fun t htr => ?_
        have e6 : (LL.take m).getD i.toNat [] = LL.getD i.toNat [] := by
          simp only [List.getD_eq_getElem?_getD, List.getElem?_take]; rw [if_pos (by omega)]
        rw [e6] at htr
        refine (c_has_nil (hr.grow hb4) htr hl1 (hlen _ (by omega))).mono ?_
        rintro e w5 ⟨rfl, hb5⟩
        refine ⟨_, rfl, ?_⟩
        have hb45 := hb4.trans (hb5.mono hb4.size)
        refine bif_intro (fun h7 => ?_) (fun h7 => ?_)
        · rw [impl_IsBasis.R9_s]
          exact bad w5 hb45 fun hh => by rw [hh.min i.toNat (by omega)] at h7; cases h7
        · refine ⟨i + 1, by rw [w64_succ hi0 (by omega)], ⟨by omega, by omega, fun j hj => ?_, hb45⟩, by omega⟩
          by_cases e : j = i.toNat
          · rw [e]; exact h7
          · exact hall2 j (by omega)
      · rw [impl_IsBasis.A9_2_s]
        refine ⟨(m : Int) + 1, by rw [w64_succ (by omega) (by omega)], ⟨by omega, by omega, fun j hj => ?_, hb4⟩, by omega⟩
        by_cases e : j = m
        · rw [e]; exact ⟨h4, h5, hord, fun i' hi' => hall2 i' (by omega)⟩
        · exact hall j (by omega)
    refine bif_dec (fun h6 => ?_) (fun h6 => ?_)
    · rw [w64_id (n := k - 1) (by omega) (by omega)]
      refine RowSS.getB ha hb12 (by omega) (by omega) fun r2 hr2 => ?_
      rw [show (k - 1).toNat = k.toNat - 1 by omega] at hr2
      have hl2 := hlen (k.toNat - 1) (by omega)
      refine (c_comparePerms (hr2.grow hb12) (hr.grow hb12) (by omega)).mono ?_
      rintro e w3 ⟨rfl, hb3⟩
      refine ⟨_, rfl, ?_⟩
      have hb13 := hb12.trans (hb3.mono hb12.size)
      refine bif_dec (fun h7 => bad w3 hb13 fun hh => by have := hh.ord (by omega); omega) (fun h7 => ?_)
      exact inner w3 hb13 fun _ => by omega
    · exact inner w2 hb12 fun h => by omega
  · rw [impl_IsBasis.A4_0_s]
    have : BasisOk LL := ⟨by omega, fun j hj => hall j (by omega)⟩
    exact ⟨by simp [IsBasisV, this], hb⟩
open Classical in
theorem c_specIsBasis {w : World} {a : Sl} {LL : List (List Int)} (ha : RowSS w a LL) (hL : LL.length < 2^38) (ht : tot LL < 2^37) :
    Calls PP F.spec_IsBasis #[a.v] w fun e w' => e = .returned (.bool (IsBasisV LL)) ∧ Below w.heap.size w w' := by
  have han := ha.n
  have no : ∀ w', Below w.heap.size w w' → ¬ BasisOk LL → (Ending.returned (.bool false)) = .returned (.bool (IsBasisV LL)) ∧ Below w.heap.size w w' := fun w' hb hn => ⟨by simp [IsBasisV, hn], hb⟩
  refine spec_IsBasis.calls a ?_
  rw [spec_IsBasis.E_s]
  refine spec_IsBasis.L2_rule _ _ _ _ (I := fun k w' => 0 ≤ k ∧ k ≤ LL.length ∧ (∀ j, j < k.toNat → BasisAt LL j) ∧ Below w.heap.size w w') (μ := fun k _ => (LL.length - k).toNat) ⟨by omega, by omega, fun j hj => by simp at hj, Below.refl _ _⟩ ?_
  rintro k w' ⟨h0, hk, hall, hb⟩
  rw [spec_IsBasis.B2_s, han]
  refine bif_dec (fun h3 => ?_) (fun h3 => ?_)
  · have hlt : k.toNat < LL.length := by omega
    have hmem : ∀ j, j < LL.length → LL.getD j [] ∈ LL := fun j hj => by rw [getD_SS hj]; exact List.getElem_mem hj
    have hlen : ∀ j, j < LL.length → (LL.getD j []).length < 2^37 := fun j hj => by have := len_le_tot (hmem j hj); omega
    have hl1 := hlen k.toNat hlt
    have haw := ha.grow hb
    have bad : ∀ w3, Below w.heap.size w w3 → ¬ BasisAt LL k.toNat → spec_IsBasis.q1 std (fun e w' => e = .returned (.bool (IsBasisV LL)) ∧ Below w.heap.size w w') .ret [(2, .bool false)] w3 := by
      intro w3 hb3 hn
      rw [spec_IsBasis.R2_s]
      exact no w3 hb3 fun hh => hn (hh.2 k.toNat hlt)
    refine RowSS.get haw h0 (by omega) fun r hr => ?_
    refine Quiet.qcall1 (s := .bool) (c_specIsPerm hr (by omega)) ?_
    refine bif_intro (fun h4 => ?_) (fun h4 => ?_)
    · have h4 : ¬ IsP (LL.getD k.toNat []) := by simpa using h4
      exact drew_intro fun w2 hd => bad w2 (hb.trans (hd.below _)) fun hh => h4 hh.perm
    have h4 : IsP (LL.getD k.toNat []) := by simpa using h4
    refine RowSS.get haw h0 (by omega) fun r1 hr1 => ?_
    have hrn : r1.n = (LL.getD k.toNat []).length := by have := hr1.n; simpa using this
    rw [hrn]
    refine bif_intro (fun h5 => ?_) (fun h5 => ?_)
    · have h5 : LL.getD k.toNat [] = [] := by simpa using h5
      exact drew_intro fun w2 hd => bad w2 (hb.trans (hd.below _)) fun hh => hh.ne h5
    have h5 : LL.getD k.toNat [] ≠ [] := by simpa using h5
    have inner : ∀ w3, Below w.heap.size w w3 → (0 < k.toNat → cmpP (LL.getD (k.toNat - 1) []) (LL.getD k.toNat []) < 0) → spec_IsBasis.L7 std a k 0 w3
        (spec_IsBasis.q17 std (fun e2 w2 => ∃ k_3_n, e2 = spec_IsBasis.emb2 a k_3_n ∧ (0 ≤ k_3_n ∧ k_3_n ≤ LL.length ∧ (∀ j, j < k_3_n.toNat → BasisAt LL j) ∧ Below w.heap.size w w2) ∧ (LL.length - k_3_n).toNat < (LL.length - k).toNat)
        (spec_IsBasis.q1 std fun e w' => e = .returned (.bool (IsBasisV LL)) ∧ Below w.heap.size w w')) := by
      intro w3 hb3 hord
      refine spec_IsBasis.L7_rule _ _ _ _ _ (I := fun i w4 => 0 ≤ i ∧ i ≤ k ∧ (∀ j, j < i.toNat → hasP (LL.getD k.toNat []) (LL.getD j []) = false) ∧ Below w.heap.size w w4) (μ := fun i _ => (k - i).toNat) ⟨by omega, by omega, fun j hj => by simp at hj, hb3⟩ ?_
      rintro i w4 ⟨hi0, hi, hall2, hb4⟩
      rw [spec_IsBasis.B7_s]
      refine bif_dec (fun h6 => ?_) (fun h6 => ?_)
      · refine drew_intro fun w5 hd5 => ?_
        have hb5 := hb4.trans (hd5.below _)
        have ha5 := ha.grow hb5
        have hPi : IsP (LL.getD i.toNat []) := (hall i.toNat (by omega)).perm
        refine RowSS.place ha5 h0 (by omega) fun a22 r2 hc2 hr2 => ?_
        refine RowSS.place ha5 hi0 (by omega) fun a23 r3 hc3 hr3 => ?_
        have fin : call1 .bool PP F.spec_l7Has #[Sl.v r2, Sl.v r3] w5 fun (ρ : Bool) w6 => spec_IsBasis.J10 std a k i ρ w6 (fun e2 w2 => ∃ i_4_n, e2 = spec_IsBasis.emb7 a k i_4_n ∧ (0 ≤ i_4_n ∧ i_4_n ≤ k ∧ (∀ j, j < i_4_n.toNat → hasP (LL.getD k.toNat []) (LL.getD j []) = false) ∧ Below w.heap.size w w2) ∧ (k - i_4_n).toNat < (k - i).toNat)
            (spec_IsBasis.q17 std (fun e2 w2 => ∃ k_3_n, e2 = spec_IsBasis.emb2 a k_3_n ∧ (0 ≤ k_3_n ∧ k_3_n ≤ LL.length ∧ (∀ j, j < k_3_n.toNat → BasisAt LL j) ∧ Below w.heap.size w w2) ∧ (LL.length - k_3_n).toNat < (LL.length - k).toNat)
            (spec_IsBasis.q1 std fun e w' => e = .returned (.bool (IsBasisV LL)) ∧ Below w.heap.size w w')) := by
          refine (c_l7Has hr2 hr3 h4.1 hPi.1).mono ?_
          rintro e w6 ⟨rfl, hb6⟩
          refine ⟨_, rfl, ?_⟩
          have hb56 := hb5.trans (hb6.mono hb5.size)
          show spec_IsBasis.J10 std _ _ _ _ _ _ _
          rw [spec_IsBasis.J10_s]
          refine bif_intro (fun h7 => ?_) (fun h7 => ?_)
          · rw [spec_IsBasis.R7_s]
            exact bad w6 hb56 fun hh => by rw [hh.min i.toNat (by omega)] at h7; cases h7
          · refine ⟨i + 1, by rw [w64_succ hi0 (by omega)], ⟨by omega, by omega, fun j hj => ?_, hb56⟩, by omega⟩
            by_cases e : j = i.toNat
            · rw [e]; exact h7
            · exact hall2 j (by omega)
        exact ⟨load_sl hc2 (load_sl hc3 fin), load_sl hc3 (load_sl hc2 fin)⟩
      · rw [spec_IsBasis.A7_2_s]
        refine ⟨k + 1, by rw [w64_succ (by omega) (by omega)], ⟨by omega, by omega, fun j hj => ?_, hb4⟩, by omega⟩
        by_cases e : j = k.toNat
        · rw [e]; exact ⟨h4, h5, hord, fun i' hi' => hall2 i' (by omega)⟩
        · exact hall j (by omega)
    refine bif_dec (fun h6 => ?_) (fun h6 => ?_)
    · rw [w64_id (n := k - 1) (by omega) (by omega)]
      refine RowSS.get haw (by omega) (by omega) fun r2 hr2 => ?_
      rw [show (k - 1).toNat = k.toNat - 1 by omega] at hr2
      refine RowSS.get haw h0 (by omega) fun r3 hr3 => ?_
      have hl2 := hlen (k.toNat - 1) (by omega)
      refine Quiet.qcall1 (s := .bool) (c_l2Before hr2 hr3 (by omega)) ?_
      refine drew_intro fun w3 hd3 => ?_
      have hb3 := hb.trans (hd3.below _)
      refine bif_intro (fun h7 => ?_) (fun h7 => ?_)
      · exact bad w3 hb3 fun hh => absurd (hh.ord (by omega)) (by simpa using h7)
      · exact inner w3 hb3 fun _ => by simpa using h7
    · exact drew_intro fun w3 hd3 => inner w3 (hb.trans (hd3.below _)) fun h => by omega
  · rw [spec_IsBasis.A2_0_s]
    have hiff : BasisOk LL ↔ (LL.length : Int) ≤ 8 := ⟨fun h => by have := h.1; omega, fun h => ⟨by omega, fun j hj => hall j (by omega)⟩⟩
    refine ⟨?_, hb⟩
    congr 2
    rw [IsBasisV, han]
    by_cases h9 : (LL.length : Int) ≤ 8
    · rw [decide_eq_true h9, decide_eq_true (hiff.2 h9)]
    · rw [decide_eq_false h9, decide_eq_false (fun h => h9 (hiff.1 h))]
end Go.Proofs.YteplokddaebbeaaGreat

/- What each function does, step by step, written by a program (Gen.lean); each equation is checked by the kernel. -/
namespace Go.Proofs.YteplokddaebbeaaGreat
open Go
set_option linter.unusedVariables false
set_option maxRecDepth 100000
namespace spec_l2Same
@[reducible] def cfg : Cfg := ⟨26, [(4, [0, 1, 5])], [(1, [0, 1, 5]), (0, [])], [], [4], [6], [13, 12, 21, 89, 36, 108, 74, 75, 104, 78, 125], [73, 117, 103, 46, 4, 30, 40]⟩
def q0 (pr : Prims) (R : Ending → World → Prop) : Exit → Env → World → Prop := fun ex e w => normQ ex (fun e w => contE pr cfg (sub (codeOf Tryz.f78) [1, 1, 1]) (fun e w => wpC pr PP cfg (DD pr) (sub (codeOf Tryz.f78) [1, 1, 1]) (retQ Tryz.f78.results.toList R) e w) e w) (retQ Tryz.f78.results.toList R) e w
def q1 (pr : Prims) (R : Ending → World → Prop) : Exit → Env → World → Prop := fun ex e w => blockQ ex 0 (q0 pr R) e w
def emb4 (a_0 : Sl) (b_1 : Sl) (k_5 : Int) : Env := [(0, Sl.v a_0), (1, Sl.v b_1), (5, vI k_5)]
def x0 : Env := []
def S4 (pr : Prims) (Q : Exit → Env → World → Prop) : (Env → World → Prop) → Env → World → Prop := fun k e w => wpC pr PP cfg (DD pr) (sub (codeOf Tryz.f78) [1, 1, 0, 1, 0, 0]) (fun ex e w => normQ ex (fun e' w' => k (Env.restr e' (lookN cfg.loops (keyOf (sub (codeOf Tryz.f78) [1, 1, 0, 1, 0, 0])))) w') Q e w) e w
def B4 (pr : Prims) (a_0 : Sl) (b_1 : Sl) (k_5 : Int) (w : World) (k : Env → World → Prop) (Q : Exit → Env → World → Prop) : Prop :=
  S4 pr Q k (emb4 a_0 b_1 k_5) w
def L4 (pr : Prims) (a_0 : Sl) (b_1 : Sl) (k_5 : Int) (w : World) (Q : Exit → Env → World → Prop) : Prop :=
  pr.loop (S4 pr Q) (emb4 a_0 b_1 k_5) w
def E (pr : Prims) (a_0 : Sl) (b_1 : Sl) (w : World) (R : Ending → World → Prop) : Prop :=
  wpC pr PP cfg (DD pr) (codeOf Tryz.f78) (retQ Tryz.f78.results.toList R) (argE 0 [Sl.v a_0, Sl.v b_1]) w
theorem B4_eq (pr : Prims) (a_0 : Sl) (b_1 : Sl) (k_5 : Int) (w : World) (k : Env → World → Prop) (Q : Exit → Env → World → Prop) : B4 pr a_0 b_1 k_5 w k Q = (
  bif decide (k_5 < (a_0.n : Int)) then (
  pr.idxK 1 a_0 k_5 fun (a2 : Addr) =>
  pr.load1 (.int .i64) a2 w fun (ξ3 : Int) =>
  pr.idxK 1 b_1 k_5 fun (a4 : Addr) =>
  pr.load1 (.int .i64) a4 w fun (ξ5 : Int) =>
  pr.drewAll w fun ω6 =>
  bif ξ3 != ξ5 then (
  Q .ret [(4, .bool false)] ω6)
  else (
  k (emb4 a_0 b_1 (w64 (k_5 + 1))) ω6))
  else (
  Q (.exit 0) (x0) w)) := by kernel_rfl
theorem B4_s (a_0 : Sl) (b_1 : Sl) (k_5 : Int) (w : World) (k : Env → World → Prop) (Q : Exit → Env → World → Prop) : B4 std a_0 b_1 k_5 w k Q = (
  bif decide (k_5 < (a_0.n : Int)) then (
  idxK 1 a_0 k_5 fun (a2 : Addr) =>
  load1 (.int .i64) a2 w fun (ξ3 : Int) =>
  idxK 1 b_1 k_5 fun (a4 : Addr) =>
  load1 (.int .i64) a4 w fun (ξ5 : Int) =>
  drewAll w fun ω6 =>
  bif ξ3 != ξ5 then (
  Q .ret [(4, .bool false)] ω6)
  else (
  k (emb4 a_0 b_1 (w64 (k_5 + 1))) ω6))
  else (
  Q (.exit 0) (x0) w)) := B4_eq std a_0 b_1 k_5 w k Q
theorem L4_rule (a_0 : Sl) (b_1 : Sl) (k_5 : Int) (w : World) (Q : Exit → Env → World → Prop) (I : Int → World → Prop) (μ : Int → World → Nat) (h0 : I k_5 w)
    (h : ∀ (k_5 : Int) (w' : World), I k_5 w' → B4 std a_0 b_1 k_5 w' (fun e2 w2 => ∃ k_5_n, e2 = emb4 a_0 b_1 k_5_n ∧ I k_5_n w2 ∧ μ k_5_n w2 < μ k_5 w') Q) :
    L4 std a_0 b_1 k_5 w Q := by
  unfold L4
  refine LoopE.intro (σ := Int) (step := S4 std Q) (fun s => emb4 a_0 b_1 s) (fun s w => I s w) (fun s w => μ s w) k_5 rfl h0 ?_
  intro s w' hI
  have h1 := h s w' hI
  unfold B4 at h1
  exact h1
theorem A4_0_eq (pr : Prims) (w : World) (R : Ending → World → Prop) : (q1 pr R) (.exit 0) (x0) w = (
  R (.returned (.bool true)) w) := by kernel_rfl
theorem A4_0_s (w : World) (R : Ending → World → Prop) : (q1 std R) (.exit 0) (x0) w = (
  R (.returned (.bool true)) w) := A4_0_eq std w R
theorem R4_eq (pr : Prims) (v4 : Value) (w : World) (R : Ending → World → Prop) : (q1 pr R) .ret [(4, v4)] w = (
  R (.returned (v4)) w) := by kernel_rfl
theorem R4_s (v4 : Value) (w : World) (R : Ending → World → Prop) : (q1 std R) .ret [(4, v4)] w = (
  R (.returned (v4)) w) := R4_eq std v4 w R
theorem E_eq (pr : Prims) (a_0 : Sl) (b_1 : Sl) (w : World) (R : Ending → World → Prop) : E pr a_0 b_1 w R = (
  bif (a_0.n : Int) != (b_1.n : Int) then (
  R (.returned (.bool false)) w)
  else (
  L4 pr a_0 b_1 0 w (q1 pr R))) := by kernel_rfl
theorem E_s (a_0 : Sl) (b_1 : Sl) (w : World) (R : Ending → World → Prop) : E std a_0 b_1 w R = (
  bif (a_0.n : Int) != (b_1.n : Int) then (
  R (.returned (.bool false)) w)
  else (
  L4 std a_0 b_1 0 w (q1 std R))) := E_eq std a_0 b_1 w R
theorem drawsOk : drawsOk PP cfg okD (codeOf Tryz.f78) = true := by kernel_rfl
theorem calls (a_0 : Sl) (b_1 : Sl) {w : World} {R : Ending → World → Prop} (h : E std a_0 b_1 w R) : Calls PP F.spec_l2Same #[Sl.v a_0, Sl.v b_1] w R :=
  calls_of noCount mixed drawOk Tryz.func78 rfl (c := cfg) (args := [Sl.v a_0, Sl.v b_1]) rfl (Nat.le_of_ble_eq_true (by kernel_rfl)) drawsOk h
end spec_l2Same

end Go.Proofs.YteplokddaebbeaaGreat

/- The model's equality of rows. -/
namespace Go.Proofs.YteplokddaebbeaaGreat
open Go Go.RowKit
set_option maxRecDepth 100000

theorem c_l2Same {w : World} {a b : Sl} {L M : List Int} (ha : RowI w a L) (hb : RowI w b M) (hL : L.length < 2^39) : Quiet F.spec_l2Same #[a.v, b.v] w (.bool (decide (L = M))) := by
  intro w1 hd
  have han : a.n = L.length := by have := ha.n; simpa using this
  have hbn : b.n = M.length := by have := hb.n; simpa using this
  refine spec_l2Same.calls a b ?_
  rw [spec_l2Same.E_s]
  refine bif_intro (fun h => ?_) (fun h => ?_)
  · have : L.length ≠ M.length := by simp at h; omega
    have : L ≠ M := fun e => this (by rw [e])
    exact ⟨by simp [this], Drew.refl _⟩
  have hlen : L.length = M.length := by simp at h; omega
  refine spec_l2Same.L4_rule _ _ _ _ _ (I := fun i w' => 0 ≤ i ∧ i ≤ L.length ∧ (∀ k, k < i.toNat → L[k]? = M[k]?) ∧ Drew w1 w') (μ := fun i _ => (L.length - i).toNat)
    ⟨by omega, by omega, fun k hk => by simp at hk, Drew.refl _⟩ ?_
  rintro i w' ⟨h0, hi, hall, hd2⟩
  have hh : w'.heap = w.heap := (hd.trans hd2).heap'
  rw [spec_l2Same.B4_s]
  refine bif_dec (fun h3 => ?_) (fun h3 => ?_)
  · have hlt : i.toNat < L.length := by omega
    have hlt2 : i.toNat < M.length := by omega
    refine RowI.get (ha.heap hh) h0 (by omega) ?_
    refine RowI.get (hb.heap hh) h0 (by omega) ?_
    refine drew_intro fun w3 hd3 => ?_
    rw [getD_eq hlt, getD_eq hlt2]
    refine bif_intro (fun h4 => ?_) (fun h4 => ?_)
    · have : L ≠ M := fun e => by subst e; simp at h4
      rw [spec_l2Same.R4_s]
      exact ⟨by simp [this], hd2.trans hd3⟩
    · have h4 : L[i.toNat] = M[i.toNat] := by simpa using h4
      refine ⟨i + 1, by rw [w64_succ h0 (by omega)], ⟨by omega, by omega, fun k hk => ?_, hd2.trans hd3⟩, by omega⟩
      by_cases hk2 : k < i.toNat
      · exact hall k hk2
      · have : k = i.toNat := by omega
        subst this
        rw [List.getElem?_eq_getElem hlt, List.getElem?_eq_getElem hlt2, h4]
  · rw [spec_l2Same.A4_0_s]
    have : L = M := by
      apply List.ext_getElem?
      intro k
      by_cases hk : k < L.length
      · exact hall k (by omega)
      · rw [List.getElem?_eq_none (by omega), List.getElem?_eq_none (by omega)]
    exact ⟨by simp [this], hd2⟩
end Go.Proofs.YteplokddaebbeaaGreat

/- The draws of bases: some rows of short lists. -/
namespace Go.Proofs.YteplokddaebbeaaGreat
open Go Go.RowKit
set_option maxRecDepth 100000

/-! ### Rows that several slices may share -/
/-- A slice of the call's own; its rows are short lists that nobody writes. -/
structure Shd (w : World) (B : Nat) (s : Sl) (rs : List Sl) : Prop where
  out : Own w B T_Sint s (rs.map Sl.v)
  row : ∀ r ∈ rs, ∃ L, OwnI w B r L ∧ L.length ≤ 8
theorem choose_rows {w : World} {B : Nat} : ∀ {rs : List Sl}, (∀ r ∈ rs, ∃ L, OwnI w B r L ∧ L.length ≤ 8) → ∃ LL : List (List Int), rs.length = LL.length ∧ (∀ (i : Nat) (r : Sl) (L : List Int), rs[i]? = some r → LL[i]? = some L → OwnI w B r L) ∧ ∀ M ∈ LL, M.length ≤ 8
  | [], _ => ⟨[], rfl, fun i r L h => by simp at h, fun M hM => by cases hM⟩
  | r :: rs, h => by
    obtain ⟨L, h1, h2⟩ := h r (by simp)
    obtain ⟨LL, i1, i2, i3⟩ := choose_rows (rs := rs) fun t ht => h t (by simp [ht])
    refine ⟨L :: LL, by simp [i1], fun i t M e1 e2 => ?_, fun M hM => ?_⟩
    · cases i with
      | zero => simp at e1 e2; subst e1 e2; exact h1
      | succ i => exact i2 i t M (by simpa using e1) (by simpa using e2)
    · rcases List.mem_cons.1 hM with rfl | hM
      · exact h2
      · exact i3 M hM
theorem rows_of {w : World} {B C : Nat} {s : Sl} {rs : List Sl} (ho : Own w C T_Sint s (rs.map Sl.v)) (hr : ∀ r ∈ rs, ∃ L, OwnI w B r L ∧ L.length ≤ 8) : ∃ LL : List (List Int), RowSS w s LL ∧ LL.length = rs.length ∧ ∀ M ∈ LL, M.length ≤ 8 := by
  obtain ⟨LL, h1, h2, h3⟩ := choose_rows hr
  exact ⟨LL, ⟨rs, ho.row, h1, fun i r L e1 e2 => (h2 i r L e1 e2).row⟩, h1.symm, h3⟩
theorem Shd.rows {w B s rs} (h : Shd w B s rs) : ∃ LL : List (List Int), RowSS w s LL ∧ LL.length = rs.length ∧ ∀ M ∈ LL, M.length ≤ 8 := rows_of h.out h.row
theorem tot_le8 {LL : List (List Int)} {c : Nat} (h : ∀ M ∈ LL, M.length ≤ c) : tot LL ≤ LL.length * c := by
  induction LL with
  | nil => simp [tot]
  | cons M LL ih =>
    rw [tot_cons, List.length_cons, Nat.succ_mul]
    have := h M (by simp)
    have := ih fun N hN => h N (by simp [hN])
    omega
theorem Shd.nil {w B s} (h : Own w B T_Sint s []) : Shd w B s [] := ⟨h, fun r hr => (by cases hr)⟩
theorem Shd.grow {w w' B s rs} (h : Shd w B s rs) (hb : Below w.heap.size w w') : Shd w' B s rs := ⟨h.out.grow hb, fun r hr => by obtain ⟨L, h1, h2⟩ := h.row r hr; exact ⟨L, Own.grow h1 hb, h2⟩⟩
theorem Shd.mono {w B B' s rs} (h : Shd w B s rs) (hB : B' ≤ B) : Shd w B' s rs := ⟨h.out.mono hB, fun r hr => by obtain ⟨L, h1, h2⟩ := h.row r hr; exact ⟨L, Own.mono h1 hB, h2⟩⟩
theorem Shd.curs {w w' B s rs c} (h : Shd w B s rs) (hk : Keeps (CS c) w w') (hc : c.block < B) : Shd w' B s rs := ⟨h.out.curs hk hc, fun r hr => by obtain ⟨L, h1, h2⟩ := h.row r hr; exact ⟨L, Own.curs h1 hk hc, h2⟩⟩
/-- Rows stay while a slice of rows is written. -/
theorem rows_kept {w w' : World} {B C : Nat} {s : Sl} {vs : List Value} {rs : List Sl} (hr : ∀ r ∈ rs, ∃ L, OwnI w B r L ∧ L.length ≤ 8) (ho : Own w C T_Sint s vs) (hg : w.grownBy w' s.blk) : ∀ r ∈ rs, ∃ L, OwnI w' B r L ∧ L.length ≤ 8 := fun r h => by
  obtain ⟨L, h1, h2⟩ := hr r h
  exact ⟨L, Own.kept h1 hg (fun g hg' e => (ho.apt h1 (by decide)) g e hg'), h2⟩
theorem keeps_blk {w w' : World} {s : Sl} (hg : w.grownBy w' s.blk) : Keeps (fun k => s.blk = some k) w w' := keeps_grown hg
theorem c_l3All {w : World} {a : Sl} {LL : List (List Int)} (ha : RowSS w a LL) (hL : LL.length < 2^38) (h8 : ∀ M ∈ LL, M.length ≤ 8) :
    Calls PP F.spec_l3All #[a.v] w fun e w' => ∃ b : Bool, e = .returned (.bool b) ∧ Drew w w' := by
  have han := ha.n
  refine spec_l3All.calls a ?_
  rw [spec_l3All.E_s]
  refine spec_l3All.L2_rule _ _ _ _ (I := fun k w' => 0 ≤ k ∧ k ≤ LL.length ∧ Drew w w') (μ := fun k _ => (LL.length - k).toNat) ⟨by omega, by omega, Drew.refl _⟩ ?_
  rintro k w1 ⟨hk0, hk, hd⟩
  rw [spec_l3All.B2_s, han]
  refine bif_dec (fun h3 => ?_) (fun h3 => ?_)
  · have hlt : k.toNat < LL.length := by omega
    refine RowSS.get (ha.heap hd.heap') hk0 (by omega) fun r hr => ?_
    rw [getD_SS hlt] at hr
    refine Quiet.call1 (s := .bool) (c_specIsPerm hr (by have := h8 _ (List.getElem_mem hlt); omega)) ?_
    intro w2 hd2
    refine bif_intro (fun _ => ?_) (fun _ => ?_)
    · rw [spec_l3All.R2_s]
      exact ⟨false, rfl, hd.trans hd2⟩
    · exact ⟨k + 1, by rw [w64_succ hk0 (by omega)], ⟨by omega, by omega, hd.trans hd2⟩, by omega⟩
  · rw [spec_l3All.A2_0_s]
    exact ⟨true, rfl, hd⟩

/-! ### Ordering -/
/-- What a row put in comes to. -/
def PutD (w : World) (B : Nat) (s : Sl) (rs : List Sl) (e : Ending) (w' : World) : Prop := ∃ s' rs', e = .returned (Sl.v s') ∧ Shd w' B s' rs' ∧ rs'.length ≤ rs.length + 1 ∧ Keeps (fun k => s.blk = some k) w w'
theorem c_l3Put {w : World} {B : Nat} {s p : Sl} {rs : List Sl} {P : List Int} (h : Shd w B s rs) (hB : B ≤ w.heap.size) (hn : rs.length ≤ 100) (hp : RowI w p P) (hpl : P.length ≤ 8) :
    Calls PP F.spec_l3Put #[s.v, p.v] w (PutD w B s rs) := by
  have hsn : s.n = rs.length := by have := h.out.n; simpa using this
  obtain ⟨LL, hrow, hll, h8⟩ := h.rows
  refine spec_l3Put.calls s p ?_
  rw [spec_l3Put.E_s, hsn]
  have ins : ∀ (at_ : Int) (w1 : World), 0 ≤ at_ → at_ ≤ rs.length → Drew w w1 →
      sem1 .sl PP (Instr.buildSlice T_SSint 0 #[]) w1 fun (ρ27 : Sl) ω28 =>
      cutK 1 s (some at_) none fun (s29 : Sl) =>
      sem1 .sl PP (Builtin.append_ #[T_SSint, T_SSint] T_SSint #[Sl.v ρ27, Sl.v s29]) ω28 fun (ρ30 : Sl) ω31 =>
      drewAll ω31 fun ω32 =>
      cutK 1 s none (some at_) fun (s33 : Sl) =>
      sem1 .sl PP (Instr.buildSlice T_Sint 0 #[]) ω32 fun (ρ34 : Sl) ω35 =>
      sem1 .sl PP (Builtin.append_ #[T_Sint, T_Sint] T_Sint #[Sl.v ρ34, Sl.v p]) ω35 fun (ρ36 : Sl) ω37 =>
      sem1 .sl PP (Instr.buildSlice T_SSint 1 #[(0, Sl.v ρ36)]) ω37 fun (ρ38 : Sl) ω39 =>
      sem1 .sl PP (Builtin.append_ #[T_SSint, T_SSint] T_SSint #[Sl.v s33, Sl.v ρ38]) ω39 fun (ρ40 : Sl) ω41 =>
      sem1 .sl PP (Builtin.append_ #[T_SSint, T_SSint] T_SSint #[Sl.v ρ40, Sl.v ρ30]) ω41 fun (ρ42 : Sl) ω43 =>
      PutD w B s rs (.returned (Sl.v ρ42)) ω43 := by
    intro at_ w1 h0 h1 hd
    have hh : w1.heap = w.heap := hd.heap'
    have hsz : w1.heap.size = w.heap.size := by rw [hh]
    have ho1 := h.out.heap hh
    have hr1 : ∀ r ∈ rs, ∃ L, OwnI w1 B r L ∧ L.length ≤ 8 := fun r hr => by obtain ⟨L, e1, e2⟩ := h.row r hr; exact ⟨L, Own.heap e1 hh, e2⟩
    refine lit0 oneSint (B := w1.heap.size) (Nat.le_refl _) ?_
    intro o w2 ho hg2 hoc
    have b12 := below_of_grow hg2
    have ho2 := Own.grow ho1 b12
    refine Row.cut ho2.row (by simpa using h0) (by simp <;> omega) (by simp <;> omega) fun t ht => ?_
    have e2 : (List.take ((none : Option Int).getD (s.n : Int)).toNat (rs.map Sl.v)).drop ((some at_).getD 0).toNat = (rs.drop at_.toNat).map Sl.v := by
      rw [hsn]; simp [List.map_drop, List.take_of_length_le]
    rw [e2] at ht
    refine append_row oneSint ho (by have := b12.size; omega) ht (fun v hv => by obtain ⟨x, _, rfl⟩ := List.mem_map.1 hv; exact One.sl x) (by simp; omega) ?_
    intro q w3 hq hg3 _ _
    rw [List.nil_append] at hq
    have b13 := b12.grown hg3 b12.size (fun g hg => (ho.lt g hg).1)
    refine drew_intro fun w4 hd4 => ?_
    have b14 : Below w1.heap.size w1 w4 := b13.trans ((hd4.below _))
    have ho4 := Own.grow ho1 b14
    have hq4 := Own.heap hq hd4.heap'
    refine Own.pop ho4 h0 (by rw [List.length_map]; exact h1) fun u hu hblk => ?_
    rw [← List.map_take] at hu
    refine lit0 oneInt (B := w1.heap.size) b14.size ?_
    intro z w5 hz hg5 hzc
    have b15 := b14.trans ((below_of_grow hg5).mono b14.size)
    refine append_row oneInt hz b15.size (Row.grow (hp.heap hh) b15) (fun v hv => by obtain ⟨x, _, rfl⟩ := List.mem_map.1 hv; exact One.int x) (by simp; omega) ?_
    intro x w6 hx hg6 _ _
    rw [List.nil_append] at hx
    have b16 := b15.grown hg6 b15.size (fun g hg => (hz.lt g hg).1)
    have hzb : z.blk = none := by simp [Sl.blk, hzc]
    have b46 : Below w4.heap.size w4 w6 := (below_of_grow hg5).trans ((below_of_grow (by rw [hzb] at hg6; exact hg6)).mono hg5.size)
    have hu6 := Own.grow hu b46
    have hq6 := Own.grow hq4 b46
    have hr6 : ∀ r ∈ rs, ∃ L, OwnI w6 B r L ∧ L.length ≤ 8 := fun r hr => by obtain ⟨L, e1, e2⟩ := hr1 r hr; exact ⟨L, Own.grow e1 b16, e2⟩
    refine append_one oneSint hu6 (by have := b16.size; omega) (One.sl x) (by simp; omega) ?_
    intro y w7 hy hg7 hn7
    have hx6 : OwnI w6 B x P := Own.mono hx (by omega)
    have hr7 : ∀ r ∈ rs ++ [x], ∃ L, OwnI w7 B r L ∧ L.length ≤ 8 := rows_kept (fun r hr => by
      rcases List.mem_append.1 hr with hr | hr
      · exact hr6 r hr
      · simp at hr; subst hr; exact ⟨P, hx6, hpl⟩) hu6 hg7
    have hlt1 : ∀ g, s.blk = some g → g < w1.heap.size := fun g hg => (ho1.lt g hg).2
    have hq7 : Own w7 w1.heap.size T_Sint q ((rs.drop at_.toNat).map Sl.v) := Own.keeps hq6 (keeps_grown hg7) (fun g hg hg2 => by
      rw [hblk] at hg2; have := hlt1 g hg2; have := (hq6.lt g hg).1; omega)
    refine append_row oneSint hy (by have := b16.size; have := hg7.size; omega) hq7.row (fun v hv => by obtain ⟨x, _, rfl⟩ := List.mem_map.1 hv; exact One.sl x) (by simp; omega) ?_
    intro v w8 hv hg8 _ _
    have e3 : (rs.take at_.toNat).map Sl.v ++ [x.v] ++ (rs.drop at_.toNat).map Sl.v = (rs.take at_.toNat ++ [x] ++ rs.drop at_.toNat).map Sl.v := by simp
    rw [e3] at hv
    refine ⟨v, _, rfl, ⟨hv, ?_⟩, by simp; omega, ?_⟩
    · intro r hr
      refine rows_kept hr7 hy hg8 r ?_
      rcases List.mem_append.1 hr with hr | hr
      · rcases List.mem_append.1 hr with hr | hr
        · exact List.mem_append_left _ (List.mem_of_mem_take hr)
        · exact List.mem_append_right _ hr
      · exact List.mem_append_left _ (List.mem_of_mem_drop hr)
    · have k1 : Keeps (fun k => s.blk = some k) w1 w6 := keeps_below b16 _
      have k0 : Keeps (fun k => s.blk = some k) w w1 := hd.keeps _
      have k7 : Keeps (fun k => s.blk = some k) w6 w7 := by rw [← hblk]; exact keeps_grown hg7
      have k07 := (k0.trans k1).trans k7
      refine ⟨hg8.os.trans k07.os, hg8.tape.trans k07.tape, hg8.output.trans k07.output, Nat.le_trans k07.size hg8.size, fun k hk hne => ?_⟩
      rw [hg8.block k (Nat.lt_of_lt_of_le hk k07.size) (fun e => ?_)]
      · exact k07.block k hk hne
      · rcases hn7 k e.symm with h5 | h5
        · rw [hblk] at h5; exact hne h5
        · have := b16.size; omega
  refine spec_l3Put.L2_rule _ _ _ _ _ (I := fun at_ w' => 0 ≤ at_ ∧ at_ ≤ rs.length ∧ Drew w w') (μ := fun at_ _ => at_.toNat) ⟨by omega, by omega, Drew.refl _⟩ ?_
  rintro at_ w1 ⟨h0, h1, hd⟩
  have hrow1 := hrow.heap hd.heap'
  have hp1 : RowI w1 p P := hp.heap hd.heap'
  have fin : ∀ (at_ : Int) (w1 : World), 0 ≤ at_ → at_ ≤ rs.length → Drew w w1 → spec_l3Put.q1 std (PutD w B s rs) (.exit 0) (spec_l3Put.x0 s p at_) w1 := by
    intro at_ w1 h0 h1 hd
    have hrow1 := hrow.heap hd.heap'
    have hp1 : RowI w1 p P := hp.heap hd.heap'
    rw [spec_l3Put.A2_0_s]
    refine bif_dec (fun h3 => ?_) (fun h3 => ?_)
    · have e1 : w64 (at_ - 1) = at_ - 1 := w64_id (by omega) (by omega)
      have hlt : (at_ - 1).toNat < LL.length := by omega
      rw [e1]
      refine RowSS.get hrow1 (by omega) (by omega) fun r hr => ?_
      rw [getD_SS hlt] at hr
      have hl8 := h8 _ (List.getElem_mem hlt)
      refine Quiet.call1 (s := .bool) (c_l2Same hr hp1 (by omega)) ?_
      intro w2 hd2
      refine bif_intro (fun _ => ?_) (fun _ => ?_)
      · have hh : w2.heap = w.heap := (hd.trans hd2).heap'
        exact ⟨s, rs, rfl, ⟨h.out.heap hh, fun r hr => by obtain ⟨L, e1, e2⟩ := h.row r hr; exact ⟨L, Own.heap e1 hh, e2⟩⟩, by omega, (hd.trans hd2).keeps _⟩
      · exact ins at_ w2 h0 h1 (hd.trans hd2)
    · exact ins at_ w1 h0 h1 hd
  rw [spec_l3Put.B2_s]
  refine bif_dec (fun h3 => ?_) (fun h3 => ?_)
  · have e1 : w64 (at_ - 1) = at_ - 1 := w64_id (by omega) (by omega)
    have hlt : (at_ - 1).toNat < LL.length := by omega
    rw [e1]
    refine RowSS.get hrow1 (by omega) (by omega) fun r hr => ?_
    rw [getD_SS hlt] at hr
    refine Quiet.call1 (s := .bool) (c_l2Before hp1 hr (by omega)) ?_
    intro w2 hd2
    refine bif_intro (fun _ => ?_) (fun _ => ?_)
    · exact ⟨at_ - 1, rfl, ⟨by omega, by omega, hd.trans hd2⟩, by omega⟩
    · exact fin at_ w2 h0 h1 (hd.trans hd2)
  · exact fin at_ w1 h0 h1 hd

theorem c_OrderPerms {w : World} {a : Sl} {LL : List (List Int)} (ha : RowSS w a LL) (hL : LL.length ≤ 50) (h8 : ∀ M ∈ LL, M.length ≤ 8) :
    Calls PP F.spec_OrderPerms #[a.v] w fun e w' => ∃ s rs, e = .returned (Sl.v s) ∧ Shd w' w.heap.size s rs ∧ rs.length ≤ LL.length ∧ Below w.heap.size w w' := by
  have han := ha.n
  refine spec_OrderPerms.calls a ?_
  rw [spec_OrderPerms.E_s]
  refine lit0 oneSint (B := w.heap.size) (Nat.le_refl _) ?_
  intro o w1 ho hg1 _
  refine spec_OrderPerms.L3_rule _ _ _ _ _ (I := fun o k w' => 0 ≤ k ∧ k ≤ LL.length ∧ Below w.heap.size w w' ∧ ∃ rs, Shd w' w.heap.size o rs ∧ rs.length ≤ k.toNat) (μ := fun _ k _ => (LL.length - k).toNat)
    ⟨by omega, by omega, below_of_grow hg1, [], Shd.nil ho, by simp⟩ ?_
  rintro o k w2 ⟨hk0, hk, hb, rs, hs, hrl⟩
  rw [spec_OrderPerms.B3_s, han]
  refine bif_dec (fun h3 => ?_) (fun h3 => ?_)
  · have hlt : k.toNat < LL.length := by omega
    refine (c_l3All (ha.grow hb) (by omega) h8).mono ?_
    rintro e w3 ⟨b, rfl, hd⟩
    refine ⟨b, rfl, ?_⟩
    have g3 : Below w2.heap.size w2 w3 := hd.below _
    have hb3 := hb.trans (g3.mono hb.size)
    have hs3 := hs.grow g3
    refine bif_intro (fun _ => ?_) (fun _ => ?_)
    · refine RowSS.get (ha.grow hb3) hk0 (by omega) fun r hr => ?_
      rw [getD_SS hlt] at hr
      refine (c_l3Put hs3 hb3.size (by omega) hr (h8 _ (List.getElem_mem hlt))).mono ?_
      rintro e w4 ⟨s', rs', rfl, hs4, hl4, hk4⟩
      refine ⟨s', rfl, ?_⟩
      exact ⟨s', k + 1, by rw [w64_succ hk0 (by omega)], ⟨by omega, by omega, hb3.trans (hk4.below (fun g hg => (hs3.out.lt g hg).1) hb3.size), rs', hs4, by omega⟩, by omega⟩
    · rw [spec_OrderPerms.A3_0_s]
      exact ⟨o, rs, rfl, hs3, by omega, hb3⟩
  · rw [spec_OrderPerms.A3_0_s]
    exact ⟨o, rs, rfl, hs, by omega, hb⟩
theorem c_MakeBasis {w : World} {a : Sl} {LL : List (List Int)} (ha : RowSS w a LL) (hL : LL.length ≤ 50) (h8 : ∀ M ∈ LL, M.length ≤ 8) :
    Calls PP F.spec_MakeBasis #[a.v] w fun e w' => ∃ (s : Sl) (rs : List Sl) (b : Bool), e = .returned (.tuple #[s.v, .bool b]) ∧ Shd w' w.heap.size s rs ∧ rs.length ≤ LL.length ∧ Below w.heap.size w w' := by
  refine spec_MakeBasis.calls a ?_
  rw [spec_MakeBasis.E_s]
  refine (c_l3All ha (by omega) h8).mono ?_
  rintro e w1 ⟨b, rfl, hd⟩
  refine ⟨b, rfl, ?_⟩
  have hb1 := hd.below w.heap.size
  refine bif_intro (fun _ => ?_) (fun _ => ?_)
  · refine lit0 oneSint (B := w.heap.size) hb1.size ?_
    intro o w2 ho hg2 _
    exact ⟨o, [], false, rfl, Shd.nil ho, by simp, hb1.grown hg2 hb1.size (fun g hg => by cases hg)⟩
  refine (c_OrderPerms (ha.grow hb1) hL h8).mono ?_
  rintro e w2 ⟨al, ra, rfl, hal, hla, hb12⟩
  refine ⟨al, rfl, ?_⟩
  have hb2 := hb1.trans (hb12.mono hb1.size)
  have hal := hal.mono hb1.size
  obtain ⟨AA, hAA, hAl, hA8⟩ := hal.rows
  have haln := hAA.n
  refine lit0 oneSint (B := w2.heap.size) (Nat.le_refl _) ?_
  intro o w3 ho hg3 _
  refine spec_MakeBasis.L6_rule _ _ _ _ _ (I := fun o k w' => 0 ≤ k ∧ k ≤ AA.length ∧ Below w2.heap.size w2 w' ∧ ∃ qs : List Sl, Own w' w2.heap.size T_Sint o (qs.map Sl.v) ∧ (∀ q ∈ qs, q ∈ ra) ∧ qs.length ≤ k.toNat) (μ := fun _ k _ => (AA.length - k).toNat)
    ⟨by omega, by omega, below_of_grow hg3, [], ho, fun q hq => (by cases hq), by simp⟩ ?_
  rintro o k w4 ⟨hk0, hk, hb, qs, hq, hqr, hql⟩
  have hb4 := hb2.trans (hb.mono hb2.size)
  have hrow : ∀ {w' : World}, Below w2.heap.size w2 w' → ∀ q ∈ qs, ∃ L, OwnI w' w.heap.size q L ∧ L.length ≤ 8 := fun hb q h => (hal.grow hb).row q (hqr q h)
  rw [spec_MakeBasis.B6_s, haln]
  refine bif_dec (fun h3 => ?_) (fun h3 => ?_)
  · have hlt : k.toNat < AA.length := by omega
    refine RowSS.get (hAA.grow hb) hk0 (by omega) fun r hr => ?_
    rw [getD_SS hlt] at hr
    obtain ⟨QQ, hQQ, hQl, hQ8⟩ := rows_of hq (hrow hb)
    refine (c_l12Avoids hQQ hr (hA8 _ (List.getElem_mem hlt)) (by omega) hQ8).mono ?_
    rintro e w5 ⟨rfl, g5⟩
    refine ⟨_, rfl, ?_⟩
    have hb5 := hb.trans (g5.mono hb.size)
    have hq5 := Own.grow hq g5
    refine bif_intro (fun _ => ?_) (fun _ => ?_)
    · have hal5 := hal.grow hb5
      have hlt2 : k.toNat < ra.length := by omega
      refine Row.get (sh := .sl) (r := ra[k.toNat]) hal5.out.row hk0 (by rw [List.getElem?_map, List.getElem?_eq_getElem hlt2]; rfl) ?_
      refine append_one oneSint hq5 hb5.size (One.sl _) (by simp; omega) ?_
      intro o' w6 ho6 hg6 _
      have e6 : qs.map Sl.v ++ [ra[k.toNat].v] = (qs ++ [ra[k.toNat]]).map Sl.v := by simp
      rw [e6] at ho6
      refine ⟨o', k + 1, by rw [w64_succ hk0 (by omega)], ⟨by omega, by omega, hb5.grown hg6 hb5.size (fun g hg => (hq5.lt g hg).1), qs ++ [ra[k.toNat]], ho6, fun q h => ?_, by simp; omega⟩, by omega⟩
      rcases List.mem_append.1 h with h | h
      · exact hqr q h
      · simp at h; subst h; exact List.getElem_mem hlt2
    · exact ⟨o, k + 1, by rw [w64_succ hk0 (by omega)], ⟨by omega, by omega, hb5, qs, hq5, hqr, by omega⟩, by omega⟩
  · rw [spec_MakeBasis.A6_0_s]
    obtain ⟨QQ, hQQ, hQl, hQ8⟩ := rows_of hq (hrow hb)
    have ht := tot_le8 hQ8
    refine (c_specIsBasis hQQ (by omega) (by omega)).mono ?_
    rintro e w5 ⟨rfl, g5⟩
    refine ⟨_, rfl, ?_⟩
    have hb5 := hb4.trans (g5.mono hb4.size)
    refine bif_intro (fun _ => ?_) (fun _ => ?_)
    · refine lit0 oneSint (B := w.heap.size) hb5.size ?_
      intro o w6 ho hg6 _
      exact ⟨o, [], false, rfl, Shd.nil ho, by simp, hb5.grown hg6 hb5.size (fun g hg => by cases hg)⟩
    · exact ⟨o, qs, true, rfl, ⟨(Own.grow hq g5).mono hb2.size, hrow (hb.trans (g5.mono hb.size))⟩, by omega, hb5⟩

/-! ### The draws -/
def DrawnB (w0 wb : World) (c : Addr) (e : Ending) (w' : World) : Prop := ∃ s rs, e = .returned (Sl.v s) ∧ Shd w' wb.heap.size s rs ∧ rs.length ≤ 3 ∧ Dr w0 wb w' c
theorem c_l12Draw {w0 w : World} {c : Addr} (hc : Cur w0 w c) : Calls PP F.spec_l12Draw #[.pointer (some c)] w (DrawnB w0 w c) := by
  refine spec_l12Draw.calls c ?_
  rw [spec_l12Draw.E_s]
  refine lit0 oneSint (B := w.heap.size) (Nat.le_refl _) ?_
  intro o w1 ho hg1 _
  have hb1 := below_of_grow hg1
  have hd1 := (Dr.start hc).grow hb1
  refine litL (B := w1.heap.size) (Nat.le_refl _) 6 _ [0, 1, 1, 2, 2, 3] (by omega) rfl (by omega) (by kernel_rfl) ?_
  intro t w2 ht hb2
  have hd2 := hd1.grow hb2
  refine (c_l1PickInt hd2.cur (L := [0, 1, 1, 2, 2, 3]) (fun w' hk => (Own.curs ht hk hd1.cur.lt.2).row) (by simp) (by simp)).mono ?_
  rintro e w3 ⟨n, rfl, hn, hc3, hk3⟩
  refine ⟨n, rfl, ?_⟩
  have hn : 0 ≤ n ∧ n ≤ 3 := by simp at hn; omega
  have hd3 := hd2.curs hc3 hk3
  have ho3 := Own.curs (Own.grow ho hb2) hk3 hc.lt.2
  refine spec_l12Draw.L4_rule _ _ _ _ _ _ (I := fun o k w' => 0 ≤ k ∧ k ≤ n ∧ Dr w0 w w' c ∧ ∃ rs, Shd w' w.heap.size o rs ∧ rs.length = k.toNat) (μ := fun _ k _ => (n - k).toNat)
    ⟨by omega, by omega, hd3, [], Shd.nil ho3, by simp⟩ ?_
  rintro o k w4 ⟨hk0, hk, hd4, rs, hs, hrl⟩
  rw [spec_l12Draw.B4_s]
  refine bif_dec (fun h3 => ?_) (fun h3 => ?_)
  · refine litL (B := w4.heap.size) (Nat.le_refl _) 5 _ [2, 3, 3, 3, 4] (by omega) rfl (by omega) (by kernel_rfl) ?_
    intro t w5 ht hb5
    have hd5 := hd4.grow hb5
    refine (c_l1PickInt hd5.cur (L := [2, 3, 3, 3, 4]) (fun w' hk => (Own.curs ht hk hd4.cur.lt.2).row) (by simp) (by simp)).mono ?_
    rintro e w6 ⟨x, rfl, hx, hc6, hk6⟩
    refine ⟨x, rfl, ?_⟩
    have hx : 2 ≤ x ∧ x ≤ 4 := by simp at hx; omega
    obtain ⟨m, rfl⟩ : ∃ m : Nat, x = m := ⟨x.toNat, by omega⟩
    have hd6 := hd5.curs hc6 hk6
    refine (c_l2Draw hd6.cur (n := m) (by omega)).mono ?_
    rintro e w7 ⟨r, L, rfl, hr, hp, hc7, hk7⟩
    refine ⟨r, rfl, ?_⟩
    have hd7 := hd6.curs hc7 hk7
    have hs7 := ((hs.grow hb5).curs hk6 hc.lt.2).curs hk7 hc.lt.2
    have hlr : L.length ≤ 8 := by rw [hp.length_eq, upTo_length]; omega
    refine append_one oneSint hs7.out hd7.keeps.size (One.sl r) (by simp; omega) ?_
    intro o' w8 ho8 hg8 _
    have e8 : rs.map Sl.v ++ [r.v] = (rs ++ [r]).map Sl.v := by simp
    rw [e8] at ho8
    refine ⟨o', k + 1, by rw [w64_succ hk0 (by omega)], ⟨by omega, by omega, hd7.step (keeps_grown hg8) (fun g hg => (hs7.out.lt g hg).1), rs ++ [r], ⟨ho8, ?_⟩, by simp; omega⟩, by omega⟩
    refine rows_kept (fun q hq => ?_) hs7.out hg8
    rcases List.mem_append.1 hq with hq | hq
    · exact hs7.row q hq
    · simp at hq; subst hq; exact ⟨L, Own.mono hr hd6.keeps.size, hlr⟩
  · rw [spec_l12Draw.A4_0_s]
    obtain ⟨LL, hLL, hll, h8⟩ := hs.rows
    refine (c_MakeBasis hLL (by omega) h8).mono ?_
    rintro e w5 ⟨s, qs, b, rfl, hq, hql, hb5⟩
    exact ⟨s, b, rfl, s, qs, rfl, hq.mono hd4.keeps.size, by omega, hd4.grow hb5⟩
/-- What a drawn basis is, mostly. -/
def DrawnC (w0 wb : World) (c : Addr) (e : Ending) (w' : World) : Prop := ∃ (s : Sl) (LL : List (List Int)), e = .returned (Sl.v s) ∧ (∀ w2, Keeps (CS c) w' w2 → RowSS w2 s LL) ∧ LL.length ≤ 4 ∧ tot LL ≤ 40 ∧ Dr w0 wb w' c
theorem c_l12Bent {w0 w : World} {c : Addr} (hc : Cur w0 w c) : Calls PP F.spec_l12Bent #[.pointer (some c)] w (DrawnC w0 w c) := by
  refine spec_l12Bent.calls c ?_
  rw [spec_l12Bent.E_s]
  refine (c_l12Draw hc).mono ?_
  rintro e w1 ⟨o, rs, rfl, hs, hl, hd1⟩
  refine ⟨o, rfl, ?_⟩
  refine (c_l1Once hd1.cur (n := 10) (by omega)).mono ?_
  rintro e w2 ⟨b, rfl, hc2, hk2⟩
  refine ⟨b, rfl, ?_⟩
  have hd2 := hd1.curs hc2 hk2
  have hs2 := hs.curs hk2 hc.lt.2
  refine bif_intro (fun _ => ?_) (fun _ => ?_)
  · refine (c_l2Bent hd2.cur).mono ?_
    rintro e w3 ⟨r, L, rfl, hr, hL, hc3, hk3⟩
    refine ⟨r, rfl, ?_⟩
    have hd3 := hd2.curs hc3 hk3
    have hs3 := hs2.curs hk3 hc.lt.2
    obtain ⟨LL, hLL1, hLL2, h8⟩ := choose_rows hs3.row
    refine append_one oneSint hs3.out hd3.keeps.size (One.sl r) (by simp; omega) ?_
    intro o' w4 ho4 hg4 _
    have e4 : rs.map Sl.v ++ [r.v] = (rs ++ [r]).map Sl.v := by simp
    rw [e4] at ho4
    have hd4 := hd3.step (keeps_grown hg4) (fun g hg => (hs3.out.lt g hg).1)
    have hkeep : ∀ q M, OwnI w3 w.heap.size q M → OwnI w4 w.heap.size q M := fun q M h => Own.kept h hg4 (fun g hg' e => (hs3.out.apt h (by decide)) g e hg')
    have hr4 := hkeep r L (Own.mono hr hd2.keeps.size)
    have htl := tot_le8 h8
    have hl9 := hL.1
    refine ⟨o', LL ++ [L], rfl, fun w5 hk5 => ⟨rs ++ [r], (ho4.curs hk5 hc.lt.2).row, by simp [hLL1], fun i q M e1 e2 => ?_⟩, by simp; omega, by rw [tot_append]; simp [tot] at htl ⊢; omega, hd4⟩
    rcases getElem?_snoc e1 with ⟨h1, h2⟩ | ⟨h1, rfl⟩
    · rcases getElem?_snoc e2 with ⟨h3, h4⟩ | ⟨h3, rfl⟩
      · exact (Own.curs (hkeep q M (hLL2 i q M h2 h4)) hk5 hc.lt.2).row
      · omega
    · rcases getElem?_snoc e2 with ⟨h3, h4⟩ | ⟨h3, rfl⟩
      · omega
      · exact (Own.curs hr4 hk5 hc.lt.2).row
  · obtain ⟨LL, hLL1, hLL2, h8⟩ := choose_rows hs2.row
    have htl := tot_le8 h8
    exact ⟨o, LL, rfl, fun w5 hk5 => ⟨rs, (hs2.out.curs hk5 hc.lt.2).row, hLL1, fun i q M e1 e2 => (Own.curs (hLL2 i q M e1 e2) hk5 hc.lt.2).row⟩, by omega, by omega, hd2⟩
theorem c_l12Case {w : World} {a : Sl} {L : List Int} (ha : RowB w a L) (hL : L.length < 2^60) :
    Calls PP F.spec_l12Case #[a.v] w fun e w' => ∃ (s : Sl) (LL : List (List Int)) (n : Int), e = .returned (.tuple #[s.v, vI n]) ∧ RowSS w' s LL ∧ LL.length ≤ 4 ∧ tot LL ≤ 40 ∧ -1 ≤ n ∧ n ≤ 7 ∧ Below w.heap.size w w' := by
  refine spec_l12Case.calls a ?_
  rw [spec_l12Case.E_s]
  refine (c_l1New ha hL).mono ?_
  rintro e w1 ⟨c, rfl, hc⟩
  refine ⟨some c, rfl, ?_⟩
  refine (c_l12Bent hc).mono ?_
  rintro e w2 ⟨s, LL, rfl, hs, hl, ht, hd2⟩
  refine ⟨s, rfl, ?_⟩
  refine litL (B := w2.heap.size) (Nat.le_refl _) 10 _ [0, 1, 2, 3, 4, 5, 4, 5, 7, -1] (by omega) rfl (by omega) (by kernel_rfl) ?_
  intro t w3 htt hb3
  have hc3 := hd2.cur.grow hb3
  refine (c_l1PickInt hc3 (L := [0, 1, 2, 3, 4, 5, 4, 5, 7, -1]) (fun w' hk => (Own.curs htt hk hd2.cur.lt.2).row) (by simp) (by simp)).mono ?_
  rintro e w4 ⟨n, rfl, hn, hc4, hk4⟩
  refine ⟨n, rfl, s, LL, n, rfl, hs w4 ((keeps_below hb3 _).trans hk4), hl, ht, ?_, ?_, hc4.below⟩
  · simp at hn; omega
  · simp at hn; omega
end Go.Proofs.YteplokddaebbeaaGreat

/- What each function does, step by step, written by a program (Gen.lean); each equation is checked by the kernel. -/
namespace Go.Proofs.YteplokddaebbeaaGreat
open Go
set_option linter.unusedVariables false
set_option maxRecDepth 100000
namespace impl_class
@[reducible] def cfg : Cfg := ⟨25, [(3, [0, 5, 10, 11, 12])], [(1, [0, 5, 10, 11, 12]), (0, [5])], [], [4], [], [13, 12, 21, 89, 36, 108, 74, 75, 104, 78, 125], [73, 117, 103, 46, 4, 30, 40]⟩
def q2 (pr : Prims) (R : Ending → World → Prop) : Exit → Env → World → Prop := fun ex e w => normQ ex (fun e w => contE pr cfg (sub (codeOf Tryz.f32) [1, 1, 1]) (fun e w => wpC pr PP cfg (DD pr) (sub (codeOf Tryz.f32) [1, 1, 1]) (retQ Tryz.f32.results.toList R) e w) e w) (retQ Tryz.f32.results.toList R) e w
def q5 (pr : Prims) (R : Ending → World → Prop) : Exit → Env → World → Prop := fun ex e w => blockQ ex 0 (q2 pr R) e w
def emb3 (list_0 : Sl) (out_5 : Sl) (t10 : Sl) (t11 : Int) (t12 : Int) : Env := [(0, Sl.v list_0), (5, Sl.v out_5), (10, Sl.v t10), (11, vI t11), (12, vI t12)]
def x0 (out_5 : Sl) : Env := [(5, Sl.v out_5)]
def S3 (pr : Prims) (Q : Exit → Env → World → Prop) : (Env → World → Prop) → Env → World → Prop := fun k e w => wpC pr PP cfg (DD pr) (sub (codeOf Tryz.f32) [1, 1, 0, 1, 0, 0]) (fun ex e w => normQ ex (fun e' w' => k (Env.restr e' (lookN cfg.loops (keyOf (sub (codeOf Tryz.f32) [1, 1, 0, 1, 0, 0])))) w') Q e w) e w
def B3 (pr : Prims) (list_0 : Sl) (out_5 : Sl) (t10 : Sl) (t11 : Int) (t12 : Int) (w : World) (k : Env → World → Prop) (Q : Exit → Env → World → Prop) : Prop :=
  S3 pr Q k (emb3 list_0 out_5 t10 t11 t12) w
def L3 (pr : Prims) (list_0 : Sl) (out_5 : Sl) (t10 : Sl) (t11 : Int) (t12 : Int) (w : World) (Q : Exit → Env → World → Prop) : Prop :=
  pr.loop (S3 pr Q) (emb3 list_0 out_5 t10 t11 t12) w
def E (pr : Prims) (list_0 : Sl) (n_1 : Int) (w : World) (R : Ending → World → Prop) : Prop :=
  wpC pr PP cfg (DD pr) (codeOf Tryz.f32) (retQ Tryz.f32.results.toList R) (argE 0 [Sl.v list_0, vI n_1]) w
theorem B3_eq (pr : Prims) (list_0 : Sl) (out_5 : Sl) (t10 : Sl) (t11 : Int) (t12 : Int) (w : World) (k : Env → World → Prop) (Q : Exit → Env → World → Prop) : B3 pr list_0 out_5 t10 t11 t12 w k Q = (
  bif decide (t12 < t11) then (
  pr.idxK 1 t10 t12 fun (a6 : Addr) =>
  pr.load1 .sl a6 w fun (ξ7 : Sl) =>
  pr.call1 .bool PP F.impl_avoids #[Sl.v list_0, Sl.v ξ7] w fun (ρ8 : Bool) ω9 =>
  bif ρ8 then (
  pr.sem1 .sl PP (Instr.buildSlice T_SSint 1 #[(0, Sl.v ξ7)]) ω9 fun (ρ10 : Sl) ω11 =>
  pr.sem1 .sl PP (Builtin.append_ #[T_SSint, T_SSint] T_SSint #[Sl.v out_5, Sl.v ρ10]) ω11 fun (ρ12 : Sl) ω13 =>
  k (emb3 list_0 ρ12 t10 t11 (w64 (t12 + 1))) ω13)
  else (
  k (emb3 list_0 out_5 t10 t11 (w64 (t12 + 1))) ω9))
  else (
  Q (.exit 0) (x0 out_5) w)) := by kernel_rfl
theorem B3_s (list_0 : Sl) (out_5 : Sl) (t10 : Sl) (t11 : Int) (t12 : Int) (w : World) (k : Env → World → Prop) (Q : Exit → Env → World → Prop) : B3 std list_0 out_5 t10 t11 t12 w k Q = (
  bif decide (t12 < t11) then (
  idxK 1 t10 t12 fun (a6 : Addr) =>
  load1 .sl a6 w fun (ξ7 : Sl) =>
  call1 .bool PP F.impl_avoids #[Sl.v list_0, Sl.v ξ7] w fun (ρ8 : Bool) ω9 =>
  bif ρ8 then (
  sem1 .sl PP (Instr.buildSlice T_SSint 1 #[(0, Sl.v ξ7)]) ω9 fun (ρ10 : Sl) ω11 =>
  sem1 .sl PP (Builtin.append_ #[T_SSint, T_SSint] T_SSint #[Sl.v out_5, Sl.v ρ10]) ω11 fun (ρ12 : Sl) ω13 =>
  k (emb3 list_0 ρ12 t10 t11 (w64 (t12 + 1))) ω13)
  else (
  k (emb3 list_0 out_5 t10 t11 (w64 (t12 + 1))) ω9))
  else (
  Q (.exit 0) (x0 out_5) w)) := B3_eq std list_0 out_5 t10 t11 t12 w k Q
theorem L3_rule (list_0 : Sl) (out_5 : Sl) (t10 : Sl) (t11 : Int) (t12 : Int) (w : World) (Q : Exit → Env → World → Prop) (I : Sl → Int → World → Prop) (μ : Sl → Int → World → Nat) (h0 : I out_5 t12 w)
    (h : ∀ (out_5 : Sl) (t12 : Int) (w' : World), I out_5 t12 w' → B3 std list_0 out_5 t10 t11 t12 w' (fun e2 w2 => ∃ out_5_n t12_n, e2 = emb3 list_0 out_5_n t10 t11 t12_n ∧ I out_5_n t12_n w2 ∧ μ out_5_n t12_n w2 < μ out_5 t12 w') Q) :
    L3 std list_0 out_5 t10 t11 t12 w Q := by
  unfold L3
  refine LoopE.intro (σ := Sl × Int) (step := S3 std Q) (fun s => emb3 list_0 s.1 t10 t11 s.2) (fun s w => I s.1 s.2 w) (fun s w => μ s.1 s.2 w) (out_5, t12) rfl h0 ?_
  intro s w' hI
  have h1 := h s.1 s.2 w' hI
  unfold B3 at h1
  simp only [Prod.exists]
  exact h1
theorem A3_0_eq (pr : Prims) (out_5 : Sl) (w : World) (R : Ending → World → Prop) : (q5 pr R) (.exit 0) (x0 out_5) w = (
  R (.returned (Sl.v out_5)) w) := by kernel_rfl
theorem A3_0_s (out_5 : Sl) (w : World) (R : Ending → World → Prop) : (q5 std R) (.exit 0) (x0 out_5) w = (
  R (.returned (Sl.v out_5)) w) := A3_0_eq std out_5 w R
theorem E_eq (pr : Prims) (list_0 : Sl) (n_1 : Int) (w : World) (R : Ending → World → Prop) : E pr list_0 n_1 w R = (
  pr.sem1 .sl PP (Instr.buildSlice T_SSint 0 #[]) w fun (ρ0 : Sl) ω1 =>
  pr.call1 .sl PP F.impl_perms #[vI n_1] ω1 fun (ρ3 : Sl) ω4 =>
  L3 pr list_0 ρ0 ρ3 (ρ3.n : Int) 0 ω4 (q5 pr R)) := by kernel_rfl
theorem E_s (list_0 : Sl) (n_1 : Int) (w : World) (R : Ending → World → Prop) : E std list_0 n_1 w R = (
  sem1 .sl PP (Instr.buildSlice T_SSint 0 #[]) w fun (ρ0 : Sl) ω1 =>
  call1 .sl PP F.impl_perms #[vI n_1] ω1 fun (ρ3 : Sl) ω4 =>
  L3 std list_0 ρ0 ρ3 (ρ3.n : Int) 0 ω4 (q5 std R)) := E_eq std list_0 n_1 w R
theorem drawsOk : drawsOk PP cfg okD (codeOf Tryz.f32) = true := by kernel_rfl
theorem calls (list_0 : Sl) (n_1 : Int) {w : World} {R : Ending → World → Prop} (h : E std list_0 n_1 w R) : Calls PP F.impl_class #[Sl.v list_0, vI n_1] w R :=
  calls_of noCount mixed drawOk Tryz.func32 rfl (c := cfg) (args := [Sl.v list_0, vI n_1]) rfl (Nat.le_of_ble_eq_true (by kernel_rfl)) drawsOk h
end impl_class

namespace spec_ClassOf
@[reducible] def cfg : Cfg := ⟨40, [(6, [0, 5, 6, 7])], [(1, [0, 5, 6, 7]), (0, [5])], [], [4], [], [13, 12, 21, 89, 36, 108, 74, 75, 104, 78, 125], [73, 117, 103, 46, 4, 30, 40]⟩
def q7 (pr : Prims) (R : Ending → World → Prop) : Exit → Env → World → Prop := fun ex e w => normQ ex (fun e w => contE pr cfg (sub (codeOf Tryz.f22) [1, 1, 1, 1, 1]) (fun e w => wpC pr PP cfg (DD pr) (sub (codeOf Tryz.f22) [1, 1, 1, 1, 1]) (retQ Tryz.f22.results.toList R) e w) e w) (retQ Tryz.f22.results.toList R) e w
def q8 (pr : Prims) (R : Ending → World → Prop) : Exit → Env → World → Prop := fun ex e w => blockQ ex 0 (q7 pr R) e w
def emb6 (list_0 : Sl) (out_5 : Sl) (all_6 : Sl) (k_7 : Int) : Env := [(0, Sl.v list_0), (5, Sl.v out_5), (6, Sl.v all_6), (7, vI k_7)]
def x0 (out_5 : Sl) : Env := [(5, Sl.v out_5)]
def S6 (pr : Prims) (Q : Exit → Env → World → Prop) : (Env → World → Prop) → Env → World → Prop := fun k e w => wpC pr PP cfg (DD pr) (sub (codeOf Tryz.f22) [1, 1, 1, 1, 0, 1, 0, 0]) (fun ex e w => normQ ex (fun e' w' => k (Env.restr e' (lookN cfg.loops (keyOf (sub (codeOf Tryz.f22) [1, 1, 1, 1, 0, 1, 0, 0])))) w') Q e w) e w
def B6 (pr : Prims) (list_0 : Sl) (out_5 : Sl) (all_6 : Sl) (k_7 : Int) (w : World) (k : Env → World → Prop) (Q : Exit → Env → World → Prop) : Prop :=
  S6 pr Q k (emb6 list_0 out_5 all_6 k_7) w
def L6 (pr : Prims) (list_0 : Sl) (out_5 : Sl) (all_6 : Sl) (k_7 : Int) (w : World) (Q : Exit → Env → World → Prop) : Prop :=
  pr.loop (S6 pr Q) (emb6 list_0 out_5 all_6 k_7) w
def E (pr : Prims) (list_0 : Sl) (n_1 : Int) (w : World) (R : Ending → World → Prop) : Prop :=
  wpC pr PP cfg (DD pr) (codeOf Tryz.f22) (retQ Tryz.f22.results.toList R) (argE 0 [Sl.v list_0, vI n_1]) w
theorem B6_eq (pr : Prims) (list_0 : Sl) (out_5 : Sl) (all_6 : Sl) (k_7 : Int) (w : World) (k : Env → World → Prop) (Q : Exit → Env → World → Prop) : B6 pr list_0 out_5 all_6 k_7 w k Q = (
  bif decide (k_7 < (all_6.n : Int)) then (
  pr.idxK 1 all_6 k_7 fun (a9 : Addr) =>
  pr.load1 .sl a9 w fun (ξ10 : Sl) =>
  pr.call1 .bool PP F.spec_l12Avoids #[Sl.v list_0, Sl.v ξ10] w fun (ρ11 : Bool) ω12 =>
  bif ρ11 then (
  pr.idxK 1 all_6 k_7 fun (a13 : Addr) =>
  pr.load1 .sl a13 ω12 fun (ξ14 : Sl) =>
  pr.sem1 .sl PP (Instr.buildSlice T_SSint 1 #[(0, Sl.v ξ14)]) ω12 fun (ρ15 : Sl) ω16 =>
  pr.sem1 .sl PP (Builtin.append_ #[T_SSint, T_SSint] T_SSint #[Sl.v out_5, Sl.v ρ15]) ω16 fun (ρ17 : Sl) ω18 =>
  k (emb6 list_0 ρ17 all_6 (w64 (k_7 + 1))) ω18)
  else (
  k (emb6 list_0 out_5 all_6 (w64 (k_7 + 1))) ω12))
  else (
  Q (.exit 0) (x0 out_5) w)) := by kernel_rfl
theorem B6_s (list_0 : Sl) (out_5 : Sl) (all_6 : Sl) (k_7 : Int) (w : World) (k : Env → World → Prop) (Q : Exit → Env → World → Prop) : B6 std list_0 out_5 all_6 k_7 w k Q = (
  bif decide (k_7 < (all_6.n : Int)) then (
  idxK 1 all_6 k_7 fun (a9 : Addr) =>
  load1 .sl a9 w fun (ξ10 : Sl) =>
  call1 .bool PP F.spec_l12Avoids #[Sl.v list_0, Sl.v ξ10] w fun (ρ11 : Bool) ω12 =>
  bif ρ11 then (
  idxK 1 all_6 k_7 fun (a13 : Addr) =>
  load1 .sl a13 ω12 fun (ξ14 : Sl) =>
  sem1 .sl PP (Instr.buildSlice T_SSint 1 #[(0, Sl.v ξ14)]) ω12 fun (ρ15 : Sl) ω16 =>
  sem1 .sl PP (Builtin.append_ #[T_SSint, T_SSint] T_SSint #[Sl.v out_5, Sl.v ρ15]) ω16 fun (ρ17 : Sl) ω18 =>
  k (emb6 list_0 ρ17 all_6 (w64 (k_7 + 1))) ω18)
  else (
  k (emb6 list_0 out_5 all_6 (w64 (k_7 + 1))) ω12))
  else (
  Q (.exit 0) (x0 out_5) w)) := B6_eq std list_0 out_5 all_6 k_7 w k Q
theorem L6_rule (list_0 : Sl) (out_5 : Sl) (all_6 : Sl) (k_7 : Int) (w : World) (Q : Exit → Env → World → Prop) (I : Sl → Int → World → Prop) (μ : Sl → Int → World → Nat) (h0 : I out_5 k_7 w)
    (h : ∀ (out_5 : Sl) (k_7 : Int) (w' : World), I out_5 k_7 w' → B6 std list_0 out_5 all_6 k_7 w' (fun e2 w2 => ∃ out_5_n k_7_n, e2 = emb6 list_0 out_5_n all_6 k_7_n ∧ I out_5_n k_7_n w2 ∧ μ out_5_n k_7_n w2 < μ out_5 k_7 w') Q) :
    L6 std list_0 out_5 all_6 k_7 w Q := by
  unfold L6
  refine LoopE.intro (σ := Sl × Int) (step := S6 std Q) (fun s => emb6 list_0 s.1 all_6 s.2) (fun s w => I s.1 s.2 w) (fun s w => μ s.1 s.2 w) (out_5, k_7) rfl h0 ?_
  intro s w' hI
  have h1 := h s.1 s.2 w' hI
  unfold B6 at h1
  simp only [Prod.exists]
  exact h1
theorem A6_0_eq (pr : Prims) (out_5 : Sl) (w : World) (R : Ending → World → Prop) : (q8 pr R) (.exit 0) (x0 out_5) w = (
  R (.returned (Sl.v out_5)) w) := by kernel_rfl
theorem A6_0_s (out_5 : Sl) (w : World) (R : Ending → World → Prop) : (q8 std R) (.exit 0) (x0 out_5) w = (
  R (.returned (Sl.v out_5)) w) := A6_0_eq std out_5 w R
theorem E_eq (pr : Prims) (list_0 : Sl) (n_1 : Int) (w : World) (R : Ending → World → Prop) : E pr list_0 n_1 w R = (
  pr.sem1 .sl PP (Instr.buildSlice T_SSint 0 #[]) w fun (ρ0 : Sl) ω1 =>
  pr.call1 .bool PP F.spec_IsBasis #[Sl.v list_0] ω1 fun (ρ2 : Bool) ω3 =>
  bif !ρ2 then (
  R (.returned (Sl.v ρ0)) ω3)
  else (
  pr.pcall1 .bool PP F.spec_l1In #[vI n_1, vI 0, vI 6] fun (ρ4 : Bool) =>
  bif !ρ4 then (
  R (.returned (Sl.v ρ0)) ω3)
  else (
  pr.call1 .sl PP F.spec_PermsOf #[vI n_1] ω3 fun (ρ5 : Sl) ω6 =>
  L6 pr list_0 ρ0 ρ5 0 ω6 (q8 pr R)))) := by kernel_rfl
theorem E_s (list_0 : Sl) (n_1 : Int) (w : World) (R : Ending → World → Prop) : E std list_0 n_1 w R = (
  sem1 .sl PP (Instr.buildSlice T_SSint 0 #[]) w fun (ρ0 : Sl) ω1 =>
  call1 .bool PP F.spec_IsBasis #[Sl.v list_0] ω1 fun (ρ2 : Bool) ω3 =>
  bif !ρ2 then (
  R (.returned (Sl.v ρ0)) ω3)
  else (
  pcall1 .bool PP F.spec_l1In #[vI n_1, vI 0, vI 6] fun (ρ4 : Bool) =>
  bif !ρ4 then (
  R (.returned (Sl.v ρ0)) ω3)
  else (
  call1 .sl PP F.spec_PermsOf #[vI n_1] ω3 fun (ρ5 : Sl) ω6 =>
  L6 std list_0 ρ0 ρ5 0 ω6 (q8 std R)))) := E_eq std list_0 n_1 w R
theorem drawsOk : drawsOk PP cfg okD (codeOf Tryz.f22) = true := by kernel_rfl
theorem calls (list_0 : Sl) (n_1 : Int) {w : World} {R : Ending → World → Prop} (h : E std list_0 n_1 w R) : Calls PP F.spec_ClassOf #[Sl.v list_0, vI n_1] w R :=
  calls_of noCount mixed drawOk Tryz.func22 rfl (c := cfg) (args := [Sl.v list_0, vI n_1]) rfl (Nat.le_of_ble_eq_true (by kernel_rfl)) drawsOk h
end spec_ClassOf

end Go.Proofs.YteplokddaebbeaaGreat
