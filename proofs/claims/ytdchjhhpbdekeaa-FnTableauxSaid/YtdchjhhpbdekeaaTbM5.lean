/- The texts CodeF, Pair, CodeS3, S3, S3b, CodeCo, CodeCl, TabFn, Clo, Copy, FillMath, FillS, Tab2, CodeCt, CountTab, FillChk, Nd, InsTab, CodeGz, Gz in one (gmerge.py). -/
import Derived.Test.YtdchjhhpbdekeaaTbM4
/- What each function does, step by step, written by a program (Gen.lean); each equation is checked by the kernel. -/
namespace Go.Proofs.Ytdchjhhpbdekeaa
open Go
set_option linter.unusedVariables false
set_option maxRecDepth 100000
namespace impl_total
@[reducible] def cfg : Cfg := ⟨17, [(3, [3, 6, 7, 8])], [(1, [3, 6, 7, 8]), (0, [3])], [], [2], [], [101, 107, 112, 15, 21, 124, 76, 137, 28, 115, 91, 81, 130], [138, 140, 82, 6, 86, 85, 132]⟩
def q0 (pr : Prims) (R : Ending → World → Prop) : Exit → Env → World → Prop := fun ex e w => normQ ex (fun e w => contE pr cfg (sub (codeOf Try.f114) [1, 1, 1]) (fun e w => wpC pr PP cfg (DD pr) (sub (codeOf Try.f114) [1, 1, 1]) (retQ Try.f114.results.toList R) e w) e w) (retQ Try.f114.results.toList R) e w
def q1 (pr : Prims) (R : Ending → World → Prop) : Exit → Env → World → Prop := fun ex e w => blockQ ex 0 (q0 pr R) e w
def emb3 (sum_3 : Int) (t6 : Sl) (t7 : Int) (t8 : Int) : Env := [(3, vI sum_3), (6, Sl.v t6), (7, vI t7), (8, vI t8)]
def x0 (sum_3 : Int) : Env := [(3, vI sum_3)]
def S3 (pr : Prims) (Q : Exit → Env → World → Prop) : (Env → World → Prop) → Env → World → Prop := fun k e w => wpC pr PP cfg (DD pr) (sub (codeOf Try.f114) [1, 1, 0, 1, 0, 0]) (fun ex e w => normQ ex (fun e' w' => k (Env.restr e' (lookN cfg.loops (keyOf (sub (codeOf Try.f114) [1, 1, 0, 1, 0, 0])))) w') Q e w) e w
def B3 (pr : Prims) (sum_3 : Int) (t6 : Sl) (t7 : Int) (t8 : Int) (w : World) (k : Env → World → Prop) (Q : Exit → Env → World → Prop) : Prop :=
  S3 pr Q k (emb3 sum_3 t6 t7 t8) w
def L3 (pr : Prims) (sum_3 : Int) (t6 : Sl) (t7 : Int) (t8 : Int) (w : World) (Q : Exit → Env → World → Prop) : Prop :=
  pr.loop (S3 pr Q) (emb3 sum_3 t6 t7 t8) w
def E (pr : Prims) (list_0 : Sl) (w : World) (R : Ending → World → Prop) : Prop :=
  wpC pr PP cfg (DD pr) (codeOf Try.f114) (retQ Try.f114.results.toList R) (argE 0 [Sl.v list_0]) w
theorem B3_eq (pr : Prims) (sum_3 : Int) (t6 : Sl) (t7 : Int) (t8 : Int) (w : World) (k : Env → World → Prop) (Q : Exit → Env → World → Prop) : B3 pr sum_3 t6 t7 t8 w k Q = (
  bif decide (t8 < t7) then (
  pr.idxK 1 t6 t8 fun (a2 : Addr) =>
  pr.load1 (.int .i64) a2 w fun (ξ3 : Int) =>
  k (emb3 (w64 (sum_3 + ξ3)) t6 t7 (w64 (t8 + 1))) w)
  else (
  Q (.exit 0) (x0 sum_3) w)) := by kernel_rfl
theorem B3_s (sum_3 : Int) (t6 : Sl) (t7 : Int) (t8 : Int) (w : World) (k : Env → World → Prop) (Q : Exit → Env → World → Prop) : B3 std sum_3 t6 t7 t8 w k Q = (
  bif decide (t8 < t7) then (
  idxK 1 t6 t8 fun (a2 : Addr) =>
  load1 (.int .i64) a2 w fun (ξ3 : Int) =>
  k (emb3 (w64 (sum_3 + ξ3)) t6 t7 (w64 (t8 + 1))) w)
  else (
  Q (.exit 0) (x0 sum_3) w)) := B3_eq std sum_3 t6 t7 t8 w k Q
theorem L3_rule (sum_3 : Int) (t6 : Sl) (t7 : Int) (t8 : Int) (w : World) (Q : Exit → Env → World → Prop) (I : Int → Int → World → Prop) (μ : Int → Int → World → Nat) (h0 : I sum_3 t8 w)
    (h : ∀ (sum_3 : Int) (t8 : Int) (w' : World), I sum_3 t8 w' → B3 std sum_3 t6 t7 t8 w' (fun e2 w2 => ∃ sum_3_n t8_n, e2 = emb3 sum_3_n t6 t7 t8_n ∧ I sum_3_n t8_n w2 ∧ μ sum_3_n t8_n w2 < μ sum_3 t8 w') Q) :
    L3 std sum_3 t6 t7 t8 w Q := by
  unfold L3
  refine LoopE.intro (σ := Int × Int) (step := S3 std Q) (fun s => emb3 s.1 t6 t7 s.2) (fun s w => I s.1 s.2 w) (fun s w => μ s.1 s.2 w) (sum_3, t8) rfl h0 ?_
  intro s w' hI
  have h1 := h s.1 s.2 w' hI
  unfold B3 at h1
  simp only [Prod.exists]
  exact h1
theorem A3_0_eq (pr : Prims) (sum_3 : Int) (w : World) (R : Ending → World → Prop) : (q1 pr R) (.exit 0) (x0 sum_3) w = (
  R (.returned (vI sum_3)) w) := by kernel_rfl
theorem A3_0_s (sum_3 : Int) (w : World) (R : Ending → World → Prop) : (q1 std R) (.exit 0) (x0 sum_3) w = (
  R (.returned (vI sum_3)) w) := A3_0_eq std sum_3 w R
theorem E_eq (pr : Prims) (list_0 : Sl) (w : World) (R : Ending → World → Prop) : E pr list_0 w R = (
  L3 pr 0 list_0 (list_0.n : Int) 0 w (q1 pr R)) := by kernel_rfl
theorem E_s (list_0 : Sl) (w : World) (R : Ending → World → Prop) : E std list_0 w R = (
  L3 std 0 list_0 (list_0.n : Int) 0 w (q1 std R)) := E_eq std list_0 w R
theorem drawsOk : drawsOk PP cfg okD (codeOf Try.f114) = true := by kernel_rfl
theorem calls (list_0 : Sl) {w : World} {R : Ending → World → Prop} (h : E std list_0 w R) : Calls PP F.impl_total #[Sl.v list_0] w R :=
  calls_of noCount mixed drawOk Try.func114 rfl (c := cfg) (args := [Sl.v list_0]) rfl (Nat.le_of_ble_eq_true (by kernel_rfl)) drawsOk h
end impl_total

namespace impl_filled
@[reducible] def cfg : Cfg := ⟨85, [(5, [0, 1, 2, 3, 9, 19, 20])], [(1, [0, 1, 2, 3, 9, 19, 20]), (0, [9])], [], [8], [7], [101, 107, 112, 15, 21, 124, 76, 137, 28, 115, 91, 81, 130], [138, 140, 82, 6, 86, 85, 132]⟩
def q6 (pr : Prims) (R : Ending → World → Prop) : Exit → Env → World → Prop := fun ex e w => normQ ex (fun e w => contE pr cfg (sub (codeOf Try.f113) [1, 1, 1, 1]) (fun e w => wpC pr PP cfg (DD pr) (sub (codeOf Try.f113) [1, 1, 1, 1]) (retQ Try.f113.results.toList R) e w) e w) (retQ Try.f113.results.toList R) e w
def q7 (pr : Prims) (R : Ending → World → Prop) : Exit → Env → World → Prop := fun ex e w => blockQ ex 0 (q6 pr R) e w
def emb5 (form_0 : Sl) (t_1 : Sl) (next_2 : Int) (sum_3 : Int) (out_9 : Sl) (t19 : Int) (t20 : Int) : Env := [(0, Sl.v form_0), (1, Sl.v t_1), (2, vI next_2), (3, vI sum_3), (9, Sl.v out_9), (19, vI t19), (20, vI t20)]
def x0 (out_9 : Sl) : Env := [(9, Sl.v out_9)]
def S5 (pr : Prims) (Q : Exit → Env → World → Prop) : (Env → World → Prop) → Env → World → Prop := fun k e w => wpC pr PP cfg (DD pr) (sub (codeOf Try.f113) [1, 1, 1, 0, 1, 0, 0]) (fun ex e w => normQ ex (fun e' w' => k (Env.restr e' (lookN cfg.loops (keyOf (sub (codeOf Try.f113) [1, 1, 1, 0, 1, 0, 0])))) w') Q e w) e w
def B5 (pr : Prims) (form_0 : Sl) (t_1 : Sl) (next_2 : Int) (sum_3 : Int) (out_9 : Sl) (t19 : Int) (t20 : Int) (w : World) (k : Env → World → Prop) (Q : Exit → Env → World → Prop) : Prop :=
  S5 pr Q k (emb5 form_0 t_1 next_2 sum_3 out_9 t19 t20) w
def L5 (pr : Prims) (form_0 : Sl) (t_1 : Sl) (next_2 : Int) (sum_3 : Int) (out_9 : Sl) (t19 : Int) (t20 : Int) (w : World) (Q : Exit → Env → World → Prop) : Prop :=
  pr.loop (S5 pr Q) (emb5 form_0 t_1 next_2 sum_3 out_9 t19 t20) w
def E (pr : Prims) (form_0 : Sl) (t_1 : Sl) (next_2 : Int) (sum_3 : Int) (w : World) (R : Ending → World → Prop) : Prop :=
  wpC pr PP cfg (DD pr) (codeOf Try.f113) (retQ Try.f113.results.toList R) (argE 0 [Sl.v form_0, Sl.v t_1, vI next_2, vI sum_3]) w
theorem B5_eq (pr : Prims) (form_0 : Sl) (t_1 : Sl) (next_2 : Int) (sum_3 : Int) (out_9 : Sl) (t19 : Int) (t20 : Int) (w : World) (k : Env → World → Prop) (Q : Exit → Env → World → Prop) : B5 pr form_0 t_1 next_2 sum_3 out_9 t19 t20 w k Q = (
  bif decide (t20 < t19) then (
  pr.idxK 1 t_1 t20 fun (a8 : Addr) =>
  pr.load1 .sl a8 w fun (ξ9 : Sl) =>
  pr.idxK 1 form_0 t20 fun (a10 : Addr) =>
  pr.load1 (.int .i64) a10 w fun (ξ11 : Int) =>
  bif decide ((ξ9.n : Int) < ξ11) then (
  bif t20 == 0 then (
  pr.drewAll w fun ω12 =>
  pr.idxK 1 t_1 t20 fun (a13 : Addr) =>
  pr.load1 .sl a13 ω12 fun (ξ14 : Sl) =>
  pr.sem1 .sl PP (Instr.buildSlice T_Sint 1 #[(0, vI next_2)]) ω12 fun (ρ15 : Sl) ω16 =>
  pr.sem1 .sl PP (Builtin.append_ #[T_Sint, T_Sint] T_Sint #[Sl.v ξ14, Sl.v ρ15]) ω16 fun (ρ17 : Sl) ω18 =>
  pr.idxK 1 t_1 t20 fun (a19 : Addr) =>
  pr.storeC a19 (Sl.v ρ17) ω18 fun ω20 =>
  pr.call1 .sl PP F.impl_filled #[Sl.v form_0, Sl.v t_1, vI (w64 (next_2 + 1)), vI sum_3] ω20 fun (ρ21 : Sl) ω22 =>
  pr.sem1 .sl PP (Builtin.append_ #[T_SSSint, T_SSSint] T_SSSint #[Sl.v out_9, Sl.v ρ21]) ω22 fun (ρ23 : Sl) ω24 =>
  pr.drewAll ω24 fun ω25 =>
  pr.idxK 1 t_1 t20 fun (a26 : Addr) =>
  pr.idxK 1 t_1 t20 fun (a27 : Addr) =>
  (pr.load1 .sl a26 ω25 fun (ξ28 : Sl) =>
  pr.load1 .sl a27 ω25 fun (ξ29 : Sl) =>
  pr.cutK 1 ξ28 none (some (w64 ((ξ29.n : Int) - 1))) fun (s30 : Sl) =>
  pr.idxK 1 t_1 t20 fun (a31 : Addr) =>
  pr.storeC a31 (Sl.v s30) ω25 fun ω32 =>
  k (emb5 form_0 t_1 next_2 sum_3 ρ23 t19 (w64 (t20 + 1))) ω32) ∧
  (pr.load1 .sl a27 ω25 fun (ξ33 : Sl) =>
  pr.load1 .sl a26 ω25 fun (ξ34 : Sl) =>
  pr.cutK 1 ξ34 none (some (w64 ((ξ33.n : Int) - 1))) fun (s35 : Sl) =>
  pr.idxK 1 t_1 t20 fun (a36 : Addr) =>
  pr.storeC a36 (Sl.v s35) ω25 fun ω37 =>
  k (emb5 form_0 t_1 next_2 sum_3 ρ23 t19 (w64 (t20 + 1))) ω37))
  else (
  pr.idxK 1 t_1 (w64 (t20 - 1)) fun (a38 : Addr) =>
  pr.load1 .sl a38 w fun (ξ39 : Sl) =>
  pr.idxK 1 t_1 t20 fun (a40 : Addr) =>
  pr.load1 .sl a40 w fun (ξ41 : Sl) =>
  pr.drewAll w fun ω42 =>
  bif decide ((ξ39.n : Int) > (ξ41.n : Int)) then (
  pr.idxK 1 t_1 t20 fun (a43 : Addr) =>
  pr.load1 .sl a43 ω42 fun (ξ44 : Sl) =>
  pr.sem1 .sl PP (Instr.buildSlice T_Sint 1 #[(0, vI next_2)]) ω42 fun (ρ45 : Sl) ω46 =>
  pr.sem1 .sl PP (Builtin.append_ #[T_Sint, T_Sint] T_Sint #[Sl.v ξ44, Sl.v ρ45]) ω46 fun (ρ47 : Sl) ω48 =>
  pr.idxK 1 t_1 t20 fun (a49 : Addr) =>
  pr.storeC a49 (Sl.v ρ47) ω48 fun ω50 =>
  pr.call1 .sl PP F.impl_filled #[Sl.v form_0, Sl.v t_1, vI (w64 (next_2 + 1)), vI sum_3] ω50 fun (ρ51 : Sl) ω52 =>
  pr.sem1 .sl PP (Builtin.append_ #[T_SSSint, T_SSSint] T_SSSint #[Sl.v out_9, Sl.v ρ51]) ω52 fun (ρ53 : Sl) ω54 =>
  pr.drewAll ω54 fun ω55 =>
  pr.idxK 1 t_1 t20 fun (a56 : Addr) =>
  pr.idxK 1 t_1 t20 fun (a57 : Addr) =>
  (pr.load1 .sl a56 ω55 fun (ξ58 : Sl) =>
  pr.load1 .sl a57 ω55 fun (ξ59 : Sl) =>
  pr.cutK 1 ξ58 none (some (w64 ((ξ59.n : Int) - 1))) fun (s60 : Sl) =>
  pr.idxK 1 t_1 t20 fun (a61 : Addr) =>
  pr.storeC a61 (Sl.v s60) ω55 fun ω62 =>
  k (emb5 form_0 t_1 next_2 sum_3 ρ53 t19 (w64 (t20 + 1))) ω62) ∧
  (pr.load1 .sl a57 ω55 fun (ξ63 : Sl) =>
  pr.load1 .sl a56 ω55 fun (ξ64 : Sl) =>
  pr.cutK 1 ξ64 none (some (w64 ((ξ63.n : Int) - 1))) fun (s65 : Sl) =>
  pr.idxK 1 t_1 t20 fun (a66 : Addr) =>
  pr.storeC a66 (Sl.v s65) ω55 fun ω67 =>
  k (emb5 form_0 t_1 next_2 sum_3 ρ53 t19 (w64 (t20 + 1))) ω67))
  else (
  k (emb5 form_0 t_1 next_2 sum_3 out_9 t19 (w64 (t20 + 1))) ω42)))
  else (
  pr.drewAll w fun ω68 =>
  k (emb5 form_0 t_1 next_2 sum_3 out_9 t19 (w64 (t20 + 1))) ω68))
  else (
  Q (.exit 0) (x0 out_9) w)) := by kernel_rfl
theorem B5_s (form_0 : Sl) (t_1 : Sl) (next_2 : Int) (sum_3 : Int) (out_9 : Sl) (t19 : Int) (t20 : Int) (w : World) (k : Env → World → Prop) (Q : Exit → Env → World → Prop) : B5 std form_0 t_1 next_2 sum_3 out_9 t19 t20 w k Q = (
  bif decide (t20 < t19) then (
  idxK 1 t_1 t20 fun (a8 : Addr) =>
  load1 .sl a8 w fun (ξ9 : Sl) =>
  idxK 1 form_0 t20 fun (a10 : Addr) =>
  load1 (.int .i64) a10 w fun (ξ11 : Int) =>
  bif decide ((ξ9.n : Int) < ξ11) then (
  bif t20 == 0 then (
  drewAll w fun ω12 =>
  idxK 1 t_1 t20 fun (a13 : Addr) =>
  load1 .sl a13 ω12 fun (ξ14 : Sl) =>
  sem1 .sl PP (Instr.buildSlice T_Sint 1 #[(0, vI next_2)]) ω12 fun (ρ15 : Sl) ω16 =>
  sem1 .sl PP (Builtin.append_ #[T_Sint, T_Sint] T_Sint #[Sl.v ξ14, Sl.v ρ15]) ω16 fun (ρ17 : Sl) ω18 =>
  idxK 1 t_1 t20 fun (a19 : Addr) =>
  storeC a19 (Sl.v ρ17) ω18 fun ω20 =>
  call1 .sl PP F.impl_filled #[Sl.v form_0, Sl.v t_1, vI (w64 (next_2 + 1)), vI sum_3] ω20 fun (ρ21 : Sl) ω22 =>
  sem1 .sl PP (Builtin.append_ #[T_SSSint, T_SSSint] T_SSSint #[Sl.v out_9, Sl.v ρ21]) ω22 fun (ρ23 : Sl) ω24 =>
  drewAll ω24 fun ω25 =>
  idxK 1 t_1 t20 fun (a26 : Addr) =>
  idxK 1 t_1 t20 fun (a27 : Addr) =>
  (load1 .sl a26 ω25 fun (ξ28 : Sl) =>
  load1 .sl a27 ω25 fun (ξ29 : Sl) =>
  cutK 1 ξ28 none (some (w64 ((ξ29.n : Int) - 1))) fun (s30 : Sl) =>
  idxK 1 t_1 t20 fun (a31 : Addr) =>
  storeC a31 (Sl.v s30) ω25 fun ω32 =>
  k (emb5 form_0 t_1 next_2 sum_3 ρ23 t19 (w64 (t20 + 1))) ω32) ∧
  (load1 .sl a27 ω25 fun (ξ33 : Sl) =>
  load1 .sl a26 ω25 fun (ξ34 : Sl) =>
  cutK 1 ξ34 none (some (w64 ((ξ33.n : Int) - 1))) fun (s35 : Sl) =>
  idxK 1 t_1 t20 fun (a36 : Addr) =>
  storeC a36 (Sl.v s35) ω25 fun ω37 =>
  k (emb5 form_0 t_1 next_2 sum_3 ρ23 t19 (w64 (t20 + 1))) ω37))
  else (
  idxK 1 t_1 (w64 (t20 - 1)) fun (a38 : Addr) =>
  load1 .sl a38 w fun (ξ39 : Sl) =>
  idxK 1 t_1 t20 fun (a40 : Addr) =>
  load1 .sl a40 w fun (ξ41 : Sl) =>
  drewAll w fun ω42 =>
  bif decide ((ξ39.n : Int) > (ξ41.n : Int)) then (
  idxK 1 t_1 t20 fun (a43 : Addr) =>
  load1 .sl a43 ω42 fun (ξ44 : Sl) =>
  sem1 .sl PP (Instr.buildSlice T_Sint 1 #[(0, vI next_2)]) ω42 fun (ρ45 : Sl) ω46 =>
  sem1 .sl PP (Builtin.append_ #[T_Sint, T_Sint] T_Sint #[Sl.v ξ44, Sl.v ρ45]) ω46 fun (ρ47 : Sl) ω48 =>
  idxK 1 t_1 t20 fun (a49 : Addr) =>
  storeC a49 (Sl.v ρ47) ω48 fun ω50 =>
  call1 .sl PP F.impl_filled #[Sl.v form_0, Sl.v t_1, vI (w64 (next_2 + 1)), vI sum_3] ω50 fun (ρ51 : Sl) ω52 =>
  sem1 .sl PP (Builtin.append_ #[T_SSSint, T_SSSint] T_SSSint #[Sl.v out_9, Sl.v ρ51]) ω52 fun (ρ53 : Sl) ω54 =>
  drewAll ω54 fun ω55 =>
  idxK 1 t_1 t20 fun (a56 : Addr) =>
  idxK 1 t_1 t20 fun (a57 : Addr) =>
  (load1 .sl a56 ω55 fun (ξ58 : Sl) =>
  load1 .sl a57 ω55 fun (ξ59 : Sl) =>
  cutK 1 ξ58 none (some (w64 ((ξ59.n : Int) - 1))) fun (s60 : Sl) =>
  idxK 1 t_1 t20 fun (a61 : Addr) =>
  storeC a61 (Sl.v s60) ω55 fun ω62 =>
  k (emb5 form_0 t_1 next_2 sum_3 ρ53 t19 (w64 (t20 + 1))) ω62) ∧
  (load1 .sl a57 ω55 fun (ξ63 : Sl) =>
  load1 .sl a56 ω55 fun (ξ64 : Sl) =>
  cutK 1 ξ64 none (some (w64 ((ξ63.n : Int) - 1))) fun (s65 : Sl) =>
  idxK 1 t_1 t20 fun (a66 : Addr) =>
  storeC a66 (Sl.v s65) ω55 fun ω67 =>
  k (emb5 form_0 t_1 next_2 sum_3 ρ53 t19 (w64 (t20 + 1))) ω67))
  else (
  k (emb5 form_0 t_1 next_2 sum_3 out_9 t19 (w64 (t20 + 1))) ω42)))
  else (
  drewAll w fun ω68 =>
  k (emb5 form_0 t_1 next_2 sum_3 out_9 t19 (w64 (t20 + 1))) ω68))
  else (
  Q (.exit 0) (x0 out_9) w)) := B5_eq std form_0 t_1 next_2 sum_3 out_9 t19 t20 w k Q
theorem L5_rule (form_0 : Sl) (t_1 : Sl) (next_2 : Int) (sum_3 : Int) (out_9 : Sl) (t19 : Int) (t20 : Int) (w : World) (Q : Exit → Env → World → Prop) (I : Sl → Int → World → Prop) (μ : Sl → Int → World → Nat) (h0 : I out_9 t20 w)
    (h : ∀ (out_9 : Sl) (t20 : Int) (w' : World), I out_9 t20 w' → B5 std form_0 t_1 next_2 sum_3 out_9 t19 t20 w' (fun e2 w2 => ∃ out_9_n t20_n, e2 = emb5 form_0 t_1 next_2 sum_3 out_9_n t19 t20_n ∧ I out_9_n t20_n w2 ∧ μ out_9_n t20_n w2 < μ out_9 t20 w') Q) :
    L5 std form_0 t_1 next_2 sum_3 out_9 t19 t20 w Q := by
  unfold L5
  refine LoopE.intro (σ := Sl × Int) (step := S5 std Q) (fun s => emb5 form_0 t_1 next_2 sum_3 s.1 t19 s.2) (fun s w => I s.1 s.2 w) (fun s w => μ s.1 s.2 w) (out_9, t20) rfl h0 ?_
  intro s w' hI
  have h1 := h s.1 s.2 w' hI
  unfold B5 at h1
  simp only [Prod.exists]
  exact h1
theorem A5_0_eq (pr : Prims) (out_9 : Sl) (w : World) (R : Ending → World → Prop) : (q7 pr R) (.exit 0) (x0 out_9) w = (
  R (.returned (Sl.v out_9)) w) := by kernel_rfl
theorem A5_0_s (out_9 : Sl) (w : World) (R : Ending → World → Prop) : (q7 std R) (.exit 0) (x0 out_9) w = (
  R (.returned (Sl.v out_9)) w) := A5_0_eq std out_9 w R
theorem E_eq (pr : Prims) (form_0 : Sl) (t_1 : Sl) (next_2 : Int) (sum_3 : Int) (w : World) (R : Ending → World → Prop) : E pr form_0 t_1 next_2 sum_3 w R = (
  bif decide (next_2 > sum_3) then (
  pr.call1 .sl PP F.impl_copied #[Sl.v t_1] w fun (ρ0 : Sl) ω1 =>
  pr.sem1 .sl PP (Instr.buildSlice T_SSSint 1 #[(0, Sl.v ρ0)]) ω1 fun (ρ2 : Sl) ω3 =>
  R (.returned (Sl.v ρ2)) ω3)
  else (
  pr.sem1 .sl PP (Instr.buildSlice T_SSSint 0 #[]) w fun (ρ4 : Sl) ω5 =>
  L5 pr form_0 t_1 next_2 sum_3 ρ4 (form_0.n : Int) 0 ω5 (q7 pr R))) := by kernel_rfl
theorem E_s (form_0 : Sl) (t_1 : Sl) (next_2 : Int) (sum_3 : Int) (w : World) (R : Ending → World → Prop) : E std form_0 t_1 next_2 sum_3 w R = (
  bif decide (next_2 > sum_3) then (
  call1 .sl PP F.impl_copied #[Sl.v t_1] w fun (ρ0 : Sl) ω1 =>
  sem1 .sl PP (Instr.buildSlice T_SSSint 1 #[(0, Sl.v ρ0)]) ω1 fun (ρ2 : Sl) ω3 =>
  R (.returned (Sl.v ρ2)) ω3)
  else (
  sem1 .sl PP (Instr.buildSlice T_SSSint 0 #[]) w fun (ρ4 : Sl) ω5 =>
  L5 std form_0 t_1 next_2 sum_3 ρ4 (form_0.n : Int) 0 ω5 (q7 std R))) := E_eq std form_0 t_1 next_2 sum_3 w R
theorem drawsOk : drawsOk PP cfg okD (codeOf Try.f113) = true := by kernel_rfl
theorem calls (form_0 : Sl) (t_1 : Sl) (next_2 : Int) (sum_3 : Int) {w : World} {R : Ending → World → Prop} (h : E std form_0 t_1 next_2 sum_3 w R) : Calls PP F.impl_filled #[Sl.v form_0, Sl.v t_1, vI next_2, vI sum_3] w R :=
  calls_of noCount mixed drawOk Try.func113 rfl (c := cfg) (args := [Sl.v form_0, Sl.v t_1, vI next_2, vI sum_3]) rfl (Nat.le_of_ble_eq_true (by kernel_rfl)) drawsOk h
end impl_filled

namespace impl_TableauxOf
@[reducible] def cfg : Cfg := ⟨13, [], [], [], [2], [], [101, 107, 112, 15, 21, 124, 76, 137, 28, 115, 91, 81, 130], [138, 140, 82, 6, 86, 85, 132]⟩
def E (pr : Prims) (form_0 : Sl) (w : World) (R : Ending → World → Prop) : Prop :=
  wpC pr PP cfg (DD pr) (codeOf Try.f56) (retQ Try.f56.results.toList R) (argE 0 [Sl.v form_0]) w
theorem E_eq (pr : Prims) (form_0 : Sl) (w : World) (R : Ending → World → Prop) : E pr form_0 w R = (
  pr.call1 .bool PP F.impl_isForm #[Sl.v form_0, vI 6] w fun (ρ0 : Bool) ω1 =>
  bif !ρ0 then (
  R (.returned (Sl.v Sl.nil)) ω1)
  else (
  pr.drewAll ω1 fun ω2 =>
  (pr.sem1 .sl PP (Instr.makeSlice T_SSint (vI (form_0.n : Int)) (vI (form_0.n : Int))) ω2 fun (ρ3 : Sl) ω4 =>
  pr.call1 (.int .i64) PP F.impl_total #[Sl.v form_0] ω4 fun (ρ5 : Int) ω6 =>
  pr.call1 .sl PP F.impl_filled #[Sl.v form_0, Sl.v ρ3, vI 1, vI ρ5] ω6 fun (ρ7 : Sl) ω8 =>
  R (.returned (Sl.v ρ7)) ω8) ∧
  (pr.call1 (.int .i64) PP F.impl_total #[Sl.v form_0] ω2 fun (ρ9 : Int) ω10 =>
  pr.sem1 .sl PP (Instr.makeSlice T_SSint (vI (form_0.n : Int)) (vI (form_0.n : Int))) ω10 fun (ρ11 : Sl) ω12 =>
  pr.call1 .sl PP F.impl_filled #[Sl.v form_0, Sl.v ρ11, vI 1, vI ρ9] ω12 fun (ρ13 : Sl) ω14 =>
  R (.returned (Sl.v ρ13)) ω14))) := by kernel_rfl
theorem E_s (form_0 : Sl) (w : World) (R : Ending → World → Prop) : E std form_0 w R = (
  call1 .bool PP F.impl_isForm #[Sl.v form_0, vI 6] w fun (ρ0 : Bool) ω1 =>
  bif !ρ0 then (
  R (.returned (Sl.v Sl.nil)) ω1)
  else (
  drewAll ω1 fun ω2 =>
  (sem1 .sl PP (Instr.makeSlice T_SSint (vI (form_0.n : Int)) (vI (form_0.n : Int))) ω2 fun (ρ3 : Sl) ω4 =>
  call1 (.int .i64) PP F.impl_total #[Sl.v form_0] ω4 fun (ρ5 : Int) ω6 =>
  call1 .sl PP F.impl_filled #[Sl.v form_0, Sl.v ρ3, vI 1, vI ρ5] ω6 fun (ρ7 : Sl) ω8 =>
  R (.returned (Sl.v ρ7)) ω8) ∧
  (call1 (.int .i64) PP F.impl_total #[Sl.v form_0] ω2 fun (ρ9 : Int) ω10 =>
  sem1 .sl PP (Instr.makeSlice T_SSint (vI (form_0.n : Int)) (vI (form_0.n : Int))) ω10 fun (ρ11 : Sl) ω12 =>
  call1 .sl PP F.impl_filled #[Sl.v form_0, Sl.v ρ11, vI 1, vI ρ9] ω12 fun (ρ13 : Sl) ω14 =>
  R (.returned (Sl.v ρ13)) ω14))) := E_eq std form_0 w R
theorem drawsOk : drawsOk PP cfg okD (codeOf Try.f56) = true := by kernel_rfl
theorem calls (form_0 : Sl) {w : World} {R : Ending → World → Prop} (h : E std form_0 w R) : Calls PP F.impl_TableauxOf #[Sl.v form_0] w R :=
  calls_of noCount mixed drawOk Try.func56 rfl (c := cfg) (args := [Sl.v form_0]) rfl (Nat.le_of_ble_eq_true (by kernel_rfl)) drawsOk h
end impl_TableauxOf

namespace spec_l19Fill
@[reducible] def cfg : Cfg := ⟨75, [(4, [0, 1, 2, 3, 4, 11])], [(1, [0, 1, 2, 3, 4, 11]), (0, [4])], [], [10], [6], [101, 107, 112, 15, 21, 124, 76, 137, 28, 115, 91, 81, 130], [138, 140, 82, 6, 86, 85, 132]⟩
def q6 (pr : Prims) (R : Ending → World → Prop) : Exit → Env → World → Prop := fun ex e w => normQ ex (fun e w => contE pr cfg (sub (codeOf Try.f116) [1, 1, 1]) (fun e w => wpC pr PP cfg (DD pr) (sub (codeOf Try.f116) [1, 1, 1]) (retQ Try.f116.results.toList R) e w) e w) (retQ Try.f116.results.toList R) e w
def q7 (pr : Prims) (R : Ending → World → Prop) : Exit → Env → World → Prop := fun ex e w => blockQ ex 0 (q6 pr R) e w
def emb4 (form_0 : Sl) (t_1 : Sl) (n_2 : Int) (size_3 : Int) (out_4 : Sl) (r_11 : Int) : Env := [(0, Sl.v form_0), (1, Sl.v t_1), (2, vI n_2), (3, vI size_3), (4, Sl.v out_4), (11, vI r_11)]
def x0 (out_4 : Sl) : Env := [(4, Sl.v out_4)]
def S4 (pr : Prims) (Q : Exit → Env → World → Prop) : (Env → World → Prop) → Env → World → Prop := fun k e w => wpC pr PP cfg (DD pr) (sub (codeOf Try.f116) [1, 1, 0, 1, 0, 0]) (fun ex e w => normQ ex (fun e' w' => k (Env.restr e' (lookN cfg.loops (keyOf (sub (codeOf Try.f116) [1, 1, 0, 1, 0, 0])))) w') Q e w) e w
def B4 (pr : Prims) (form_0 : Sl) (t_1 : Sl) (n_2 : Int) (size_3 : Int) (out_4 : Sl) (r_11 : Int) (w : World) (k : Env → World → Prop) (Q : Exit → Env → World → Prop) : Prop :=
  S4 pr Q k (emb4 form_0 t_1 n_2 size_3 out_4 r_11) w
def L4 (pr : Prims) (form_0 : Sl) (t_1 : Sl) (n_2 : Int) (size_3 : Int) (out_4 : Sl) (r_11 : Int) (w : World) (Q : Exit → Env → World → Prop) : Prop :=
  pr.loop (S4 pr Q) (emb4 form_0 t_1 n_2 size_3 out_4 r_11) w
def E (pr : Prims) (form_0 : Sl) (t_1 : Sl) (n_2 : Int) (size_3 : Int) (out_4 : Sl) (w : World) (R : Ending → World → Prop) : Prop :=
  wpC pr PP cfg (DD pr) (codeOf Try.f116) (retQ Try.f116.results.toList R) (argE 0 [Sl.v form_0, Sl.v t_1, vI n_2, vI size_3, Sl.v out_4]) w
theorem B4_eq (pr : Prims) (form_0 : Sl) (t_1 : Sl) (n_2 : Int) (size_3 : Int) (out_4 : Sl) (r_11 : Int) (w : World) (k : Env → World → Prop) (Q : Exit → Env → World → Prop) : B4 pr form_0 t_1 n_2 size_3 out_4 r_11 w k Q = (
  bif decide (r_11 < (form_0.n : Int)) then (
  pr.idxK 1 t_1 r_11 fun (a8 : Addr) =>
  pr.load1 .sl a8 w fun (ξ9 : Sl) =>
  pr.idxK 1 form_0 r_11 fun (a10 : Addr) =>
  pr.load1 (.int .i64) a10 w fun (ξ11 : Int) =>
  bif decide ((ξ9.n : Int) < ξ11) then (
  bif r_11 == 0 then (
  pr.drewAll w fun ω12 =>
  pr.call1 .sl PP F.spec_l2Copy #[Sl.v t_1] ω12 fun (ρ13 : Sl) ω14 =>
  pr.idxK 1 ρ13 r_11 fun (a15 : Addr) =>
  pr.load1 .sl a15 ω14 fun (ξ16 : Sl) =>
  pr.sem1 .sl PP (Instr.buildSlice T_Sint 1 #[(0, vI n_2)]) ω14 fun (ρ17 : Sl) ω18 =>
  pr.sem1 .sl PP (Builtin.append_ #[T_Sint, T_Sint] T_Sint #[Sl.v ξ16, Sl.v ρ17]) ω18 fun (ρ19 : Sl) ω20 =>
  pr.idxK 1 ρ13 r_11 fun (a21 : Addr) =>
  pr.storeC a21 (Sl.v ρ19) ω20 fun ω22 =>
  pr.call1 .sl PP F.spec_l19Fill #[Sl.v form_0, Sl.v ρ13, vI (w64 (n_2 + 1)), vI size_3, Sl.v out_4] ω22 fun (ρ23 : Sl) ω24 =>
  k (emb4 form_0 t_1 n_2 size_3 ρ23 (w64 (r_11 + 1))) ω24)
  else (
  pr.idxK 1 t_1 r_11 fun (a25 : Addr) =>
  pr.load1 .sl a25 w fun (ξ26 : Sl) =>
  pr.idxK 1 t_1 (w64 (r_11 - 1)) fun (a27 : Addr) =>
  pr.load1 .sl a27 w fun (ξ28 : Sl) =>
  pr.drewAll w fun ω29 =>
  bif decide ((ξ26.n : Int) < (ξ28.n : Int)) then (
  pr.call1 .sl PP F.spec_l2Copy #[Sl.v t_1] ω29 fun (ρ30 : Sl) ω31 =>
  pr.idxK 1 ρ30 r_11 fun (a32 : Addr) =>
  pr.load1 .sl a32 ω31 fun (ξ33 : Sl) =>
  pr.sem1 .sl PP (Instr.buildSlice T_Sint 1 #[(0, vI n_2)]) ω31 fun (ρ34 : Sl) ω35 =>
  pr.sem1 .sl PP (Builtin.append_ #[T_Sint, T_Sint] T_Sint #[Sl.v ξ33, Sl.v ρ34]) ω35 fun (ρ36 : Sl) ω37 =>
  pr.idxK 1 ρ30 r_11 fun (a38 : Addr) =>
  pr.storeC a38 (Sl.v ρ36) ω37 fun ω39 =>
  pr.call1 .sl PP F.spec_l19Fill #[Sl.v form_0, Sl.v ρ30, vI (w64 (n_2 + 1)), vI size_3, Sl.v out_4] ω39 fun (ρ40 : Sl) ω41 =>
  k (emb4 form_0 t_1 n_2 size_3 ρ40 (w64 (r_11 + 1))) ω41)
  else (
  k (emb4 form_0 t_1 n_2 size_3 out_4 (w64 (r_11 + 1))) ω29)))
  else (
  pr.drewAll w fun ω42 =>
  k (emb4 form_0 t_1 n_2 size_3 out_4 (w64 (r_11 + 1))) ω42))
  else (
  Q (.exit 0) (x0 out_4) w)) := by kernel_rfl
theorem B4_s (form_0 : Sl) (t_1 : Sl) (n_2 : Int) (size_3 : Int) (out_4 : Sl) (r_11 : Int) (w : World) (k : Env → World → Prop) (Q : Exit → Env → World → Prop) : B4 std form_0 t_1 n_2 size_3 out_4 r_11 w k Q = (
  bif decide (r_11 < (form_0.n : Int)) then (
  idxK 1 t_1 r_11 fun (a8 : Addr) =>
  load1 .sl a8 w fun (ξ9 : Sl) =>
  idxK 1 form_0 r_11 fun (a10 : Addr) =>
  load1 (.int .i64) a10 w fun (ξ11 : Int) =>
  bif decide ((ξ9.n : Int) < ξ11) then (
  bif r_11 == 0 then (
  drewAll w fun ω12 =>
  call1 .sl PP F.spec_l2Copy #[Sl.v t_1] ω12 fun (ρ13 : Sl) ω14 =>
  idxK 1 ρ13 r_11 fun (a15 : Addr) =>
  load1 .sl a15 ω14 fun (ξ16 : Sl) =>
  sem1 .sl PP (Instr.buildSlice T_Sint 1 #[(0, vI n_2)]) ω14 fun (ρ17 : Sl) ω18 =>
  sem1 .sl PP (Builtin.append_ #[T_Sint, T_Sint] T_Sint #[Sl.v ξ16, Sl.v ρ17]) ω18 fun (ρ19 : Sl) ω20 =>
  idxK 1 ρ13 r_11 fun (a21 : Addr) =>
  storeC a21 (Sl.v ρ19) ω20 fun ω22 =>
  call1 .sl PP F.spec_l19Fill #[Sl.v form_0, Sl.v ρ13, vI (w64 (n_2 + 1)), vI size_3, Sl.v out_4] ω22 fun (ρ23 : Sl) ω24 =>
  k (emb4 form_0 t_1 n_2 size_3 ρ23 (w64 (r_11 + 1))) ω24)
  else (
  idxK 1 t_1 r_11 fun (a25 : Addr) =>
  load1 .sl a25 w fun (ξ26 : Sl) =>
  idxK 1 t_1 (w64 (r_11 - 1)) fun (a27 : Addr) =>
  load1 .sl a27 w fun (ξ28 : Sl) =>
  drewAll w fun ω29 =>
  bif decide ((ξ26.n : Int) < (ξ28.n : Int)) then (
  call1 .sl PP F.spec_l2Copy #[Sl.v t_1] ω29 fun (ρ30 : Sl) ω31 =>
  idxK 1 ρ30 r_11 fun (a32 : Addr) =>
  load1 .sl a32 ω31 fun (ξ33 : Sl) =>
  sem1 .sl PP (Instr.buildSlice T_Sint 1 #[(0, vI n_2)]) ω31 fun (ρ34 : Sl) ω35 =>
  sem1 .sl PP (Builtin.append_ #[T_Sint, T_Sint] T_Sint #[Sl.v ξ33, Sl.v ρ34]) ω35 fun (ρ36 : Sl) ω37 =>
  idxK 1 ρ30 r_11 fun (a38 : Addr) =>
  storeC a38 (Sl.v ρ36) ω37 fun ω39 =>
  call1 .sl PP F.spec_l19Fill #[Sl.v form_0, Sl.v ρ30, vI (w64 (n_2 + 1)), vI size_3, Sl.v out_4] ω39 fun (ρ40 : Sl) ω41 =>
  k (emb4 form_0 t_1 n_2 size_3 ρ40 (w64 (r_11 + 1))) ω41)
  else (
  k (emb4 form_0 t_1 n_2 size_3 out_4 (w64 (r_11 + 1))) ω29)))
  else (
  drewAll w fun ω42 =>
  k (emb4 form_0 t_1 n_2 size_3 out_4 (w64 (r_11 + 1))) ω42))
  else (
  Q (.exit 0) (x0 out_4) w)) := B4_eq std form_0 t_1 n_2 size_3 out_4 r_11 w k Q
theorem L4_rule (form_0 : Sl) (t_1 : Sl) (n_2 : Int) (size_3 : Int) (out_4 : Sl) (r_11 : Int) (w : World) (Q : Exit → Env → World → Prop) (I : Sl → Int → World → Prop) (μ : Sl → Int → World → Nat) (h0 : I out_4 r_11 w)
    (h : ∀ (out_4 : Sl) (r_11 : Int) (w' : World), I out_4 r_11 w' → B4 std form_0 t_1 n_2 size_3 out_4 r_11 w' (fun e2 w2 => ∃ out_4_n r_11_n, e2 = emb4 form_0 t_1 n_2 size_3 out_4_n r_11_n ∧ I out_4_n r_11_n w2 ∧ μ out_4_n r_11_n w2 < μ out_4 r_11 w') Q) :
    L4 std form_0 t_1 n_2 size_3 out_4 r_11 w Q := by
  unfold L4
  refine LoopE.intro (σ := Sl × Int) (step := S4 std Q) (fun s => emb4 form_0 t_1 n_2 size_3 s.1 s.2) (fun s w => I s.1 s.2 w) (fun s w => μ s.1 s.2 w) (out_4, r_11) rfl h0 ?_
  intro s w' hI
  have h1 := h s.1 s.2 w' hI
  unfold B4 at h1
  simp only [Prod.exists]
  exact h1
theorem A4_0_eq (pr : Prims) (out_4 : Sl) (w : World) (R : Ending → World → Prop) : (q7 pr R) (.exit 0) (x0 out_4) w = (
  R (.returned (Sl.v out_4)) w) := by kernel_rfl
theorem A4_0_s (out_4 : Sl) (w : World) (R : Ending → World → Prop) : (q7 std R) (.exit 0) (x0 out_4) w = (
  R (.returned (Sl.v out_4)) w) := A4_0_eq std out_4 w R
theorem E_eq (pr : Prims) (form_0 : Sl) (t_1 : Sl) (n_2 : Int) (size_3 : Int) (out_4 : Sl) (w : World) (R : Ending → World → Prop) : E pr form_0 t_1 n_2 size_3 out_4 w R = (
  bif decide (n_2 > size_3) then (
  pr.call1 .sl PP F.spec_l2Copy #[Sl.v t_1] w fun (ρ0 : Sl) ω1 =>
  pr.sem1 .sl PP (Instr.buildSlice T_SSSint 1 #[(0, Sl.v ρ0)]) ω1 fun (ρ2 : Sl) ω3 =>
  pr.sem1 .sl PP (Builtin.append_ #[T_SSSint, T_SSSint] T_SSSint #[Sl.v out_4, Sl.v ρ2]) ω3 fun (ρ4 : Sl) ω5 =>
  R (.returned (Sl.v ρ4)) ω5)
  else (
  L4 pr form_0 t_1 n_2 size_3 out_4 0 w (q7 pr R))) := by kernel_rfl
theorem E_s (form_0 : Sl) (t_1 : Sl) (n_2 : Int) (size_3 : Int) (out_4 : Sl) (w : World) (R : Ending → World → Prop) : E std form_0 t_1 n_2 size_3 out_4 w R = (
  bif decide (n_2 > size_3) then (
  call1 .sl PP F.spec_l2Copy #[Sl.v t_1] w fun (ρ0 : Sl) ω1 =>
  sem1 .sl PP (Instr.buildSlice T_SSSint 1 #[(0, Sl.v ρ0)]) ω1 fun (ρ2 : Sl) ω3 =>
  sem1 .sl PP (Builtin.append_ #[T_SSSint, T_SSSint] T_SSSint #[Sl.v out_4, Sl.v ρ2]) ω3 fun (ρ4 : Sl) ω5 =>
  R (.returned (Sl.v ρ4)) ω5)
  else (
  L4 std form_0 t_1 n_2 size_3 out_4 0 w (q7 std R))) := E_eq std form_0 t_1 n_2 size_3 out_4 w R
theorem drawsOk : drawsOk PP cfg okD (codeOf Try.f116) = true := by kernel_rfl
theorem calls (form_0 : Sl) (t_1 : Sl) (n_2 : Int) (size_3 : Int) (out_4 : Sl) {w : World} {R : Ending → World → Prop} (h : E std form_0 t_1 n_2 size_3 out_4 w R) : Calls PP F.spec_l19Fill #[Sl.v form_0, Sl.v t_1, vI n_2, vI size_3, Sl.v out_4] w R :=
  calls_of noCount mixed drawOk Try.func116 rfl (c := cfg) (args := [Sl.v form_0, Sl.v t_1, vI n_2, vI size_3, Sl.v out_4]) rfl (Nat.le_of_ble_eq_true (by kernel_rfl)) drawsOk h
end spec_l19Fill

namespace spec_TableauxOf
@[reducible] def cfg : Cfg := ⟨34, [(7, [0, 3, 4, 5, 6])], [(1, [0, 3, 4, 5, 6]), (0, [0, 3, 4, 5])], [], [2], [], [101, 107, 112, 15, 21, 124, 76, 137, 28, 115, 91, 81, 130], [138, 140, 82, 6, 86, 85, 132]⟩
def q6 (pr : Prims) (R : Ending → World → Prop) : Exit → Env → World → Prop := fun ex e w => normQ ex (fun e w => contE pr cfg (sub (codeOf Try.f57) [1, 1, 1, 1, 1, 1]) (fun e w => wpC pr PP cfg (DD pr) (sub (codeOf Try.f57) [1, 1, 1, 1, 1, 1]) (retQ Try.f57.results.toList R) e w) e w) (retQ Try.f57.results.toList R) e w
def q7 (pr : Prims) (R : Ending → World → Prop) : Exit → Env → World → Prop := fun ex e w => blockQ ex 0 (q6 pr R) e w
def emb7 (form_0 : Sl) (out_3 : Sl) (t_4 : Sl) (size_5 : Int) (r_6 : Int) : Env := [(0, Sl.v form_0), (3, Sl.v out_3), (4, Sl.v t_4), (5, vI size_5), (6, vI r_6)]
def x0 (form_0 : Sl) (out_3 : Sl) (t_4 : Sl) (size_5 : Int) : Env := [(0, Sl.v form_0), (3, Sl.v out_3), (4, Sl.v t_4), (5, vI size_5)]
def S7 (pr : Prims) (Q : Exit → Env → World → Prop) : (Env → World → Prop) → Env → World → Prop := fun k e w => wpC pr PP cfg (DD pr) (sub (codeOf Try.f57) [1, 1, 1, 1, 1, 0, 1, 0, 0]) (fun ex e w => normQ ex (fun e' w' => k (Env.restr e' (lookN cfg.loops (keyOf (sub (codeOf Try.f57) [1, 1, 1, 1, 1, 0, 1, 0, 0])))) w') Q e w) e w
def B7 (pr : Prims) (form_0 : Sl) (out_3 : Sl) (t_4 : Sl) (size_5 : Int) (r_6 : Int) (w : World) (k : Env → World → Prop) (Q : Exit → Env → World → Prop) : Prop :=
  S7 pr Q k (emb7 form_0 out_3 t_4 size_5 r_6) w
def L7 (pr : Prims) (form_0 : Sl) (out_3 : Sl) (t_4 : Sl) (size_5 : Int) (r_6 : Int) (w : World) (Q : Exit → Env → World → Prop) : Prop :=
  pr.loop (S7 pr Q) (emb7 form_0 out_3 t_4 size_5 r_6) w
def E (pr : Prims) (form_0 : Sl) (w : World) (R : Ending → World → Prop) : Prop :=
  wpC pr PP cfg (DD pr) (codeOf Try.f57) (retQ Try.f57.results.toList R) (argE 0 [Sl.v form_0]) w
theorem B7_eq (pr : Prims) (form_0 : Sl) (out_3 : Sl) (t_4 : Sl) (size_5 : Int) (r_6 : Int) (w : World) (k : Env → World → Prop) (Q : Exit → Env → World → Prop) : B7 pr form_0 out_3 t_4 size_5 r_6 w k Q = (
  bif decide (r_6 < (form_0.n : Int)) then (
  pr.sem1 .sl PP (Instr.buildSlice T_Sint 0 #[]) w fun (ρ8 : Sl) ω9 =>
  pr.sem1 .sl PP (Instr.buildSlice T_SSint 1 #[(0, Sl.v ρ8)]) ω9 fun (ρ10 : Sl) ω11 =>
  pr.sem1 .sl PP (Builtin.append_ #[T_SSint, T_SSint] T_SSint #[Sl.v t_4, Sl.v ρ10]) ω11 fun (ρ12 : Sl) ω13 =>
  pr.idxK 1 form_0 r_6 fun (a14 : Addr) =>
  pr.load1 (.int .i64) a14 ω13 fun (ξ15 : Int) =>
  k (emb7 form_0 out_3 ρ12 (w64 (size_5 + ξ15)) (w64 (r_6 + 1))) ω13)
  else (
  Q (.exit 0) (x0 form_0 out_3 t_4 size_5) w)) := by kernel_rfl
theorem B7_s (form_0 : Sl) (out_3 : Sl) (t_4 : Sl) (size_5 : Int) (r_6 : Int) (w : World) (k : Env → World → Prop) (Q : Exit → Env → World → Prop) : B7 std form_0 out_3 t_4 size_5 r_6 w k Q = (
  bif decide (r_6 < (form_0.n : Int)) then (
  sem1 .sl PP (Instr.buildSlice T_Sint 0 #[]) w fun (ρ8 : Sl) ω9 =>
  sem1 .sl PP (Instr.buildSlice T_SSint 1 #[(0, Sl.v ρ8)]) ω9 fun (ρ10 : Sl) ω11 =>
  sem1 .sl PP (Builtin.append_ #[T_SSint, T_SSint] T_SSint #[Sl.v t_4, Sl.v ρ10]) ω11 fun (ρ12 : Sl) ω13 =>
  idxK 1 form_0 r_6 fun (a14 : Addr) =>
  load1 (.int .i64) a14 ω13 fun (ξ15 : Int) =>
  k (emb7 form_0 out_3 ρ12 (w64 (size_5 + ξ15)) (w64 (r_6 + 1))) ω13)
  else (
  Q (.exit 0) (x0 form_0 out_3 t_4 size_5) w)) := B7_eq std form_0 out_3 t_4 size_5 r_6 w k Q
theorem L7_rule (form_0 : Sl) (out_3 : Sl) (t_4 : Sl) (size_5 : Int) (r_6 : Int) (w : World) (Q : Exit → Env → World → Prop) (I : Sl → Int → Int → World → Prop) (μ : Sl → Int → Int → World → Nat) (h0 : I t_4 size_5 r_6 w)
    (h : ∀ (t_4 : Sl) (size_5 : Int) (r_6 : Int) (w' : World), I t_4 size_5 r_6 w' → B7 std form_0 out_3 t_4 size_5 r_6 w' (fun e2 w2 => ∃ t_4_n size_5_n r_6_n, e2 = emb7 form_0 out_3 t_4_n size_5_n r_6_n ∧ I t_4_n size_5_n r_6_n w2 ∧ μ t_4_n size_5_n r_6_n w2 < μ t_4 size_5 r_6 w') Q) :
    L7 std form_0 out_3 t_4 size_5 r_6 w Q := by
  unfold L7
  refine LoopE.intro (σ := Sl × Int × Int) (step := S7 std Q) (fun s => emb7 form_0 out_3 s.1 s.2.1 s.2.2) (fun s w => I s.1 s.2.1 s.2.2 w) (fun s w => μ s.1 s.2.1 s.2.2 w) (t_4, size_5, r_6) rfl h0 ?_
  intro s w' hI
  have h1 := h s.1 s.2.1 s.2.2 w' hI
  unfold B7 at h1
  simp only [Prod.exists]
  exact h1
theorem A7_0_eq (pr : Prims) (form_0 : Sl) (out_3 : Sl) (t_4 : Sl) (size_5 : Int) (w : World) (R : Ending → World → Prop) : (q7 pr R) (.exit 0) (x0 form_0 out_3 t_4 size_5) w = (
  pr.call1 .sl PP F.spec_l19Fill #[Sl.v form_0, Sl.v t_4, vI 1, vI size_5, Sl.v out_3] w fun (ρ16 : Sl) ω17 =>
  R (.returned (Sl.v ρ16)) ω17) := by kernel_rfl
theorem A7_0_s (form_0 : Sl) (out_3 : Sl) (t_4 : Sl) (size_5 : Int) (w : World) (R : Ending → World → Prop) : (q7 std R) (.exit 0) (x0 form_0 out_3 t_4 size_5) w = (
  call1 .sl PP F.spec_l19Fill #[Sl.v form_0, Sl.v t_4, vI 1, vI size_5, Sl.v out_3] w fun (ρ16 : Sl) ω17 =>
  R (.returned (Sl.v ρ16)) ω17) := A7_0_eq std form_0 out_3 t_4 size_5 w R
theorem E_eq (pr : Prims) (form_0 : Sl) (w : World) (R : Ending → World → Prop) : E pr form_0 w R = (
  pr.sem1 .sl PP (Instr.buildSlice T_SSSint 0 #[]) w fun (ρ0 : Sl) ω1 =>
  pr.call1 .bool PP F.spec_l19Form #[Sl.v form_0, vI 6] ω1 fun (ρ2 : Bool) ω3 =>
  bif !ρ2 then (
  R (.returned (Sl.v ρ0)) ω3)
  else (
  pr.sem1 .sl PP (Instr.buildSlice T_SSint 0 #[]) ω3 fun (ρ4 : Sl) ω5 =>
  L7 pr form_0 ρ0 ρ4 0 0 ω5 (q7 pr R))) := by kernel_rfl
theorem E_s (form_0 : Sl) (w : World) (R : Ending → World → Prop) : E std form_0 w R = (
  sem1 .sl PP (Instr.buildSlice T_SSSint 0 #[]) w fun (ρ0 : Sl) ω1 =>
  call1 .bool PP F.spec_l19Form #[Sl.v form_0, vI 6] ω1 fun (ρ2 : Bool) ω3 =>
  bif !ρ2 then (
  R (.returned (Sl.v ρ0)) ω3)
  else (
  sem1 .sl PP (Instr.buildSlice T_SSint 0 #[]) ω3 fun (ρ4 : Sl) ω5 =>
  L7 std form_0 ρ0 ρ4 0 0 ω5 (q7 std R))) := E_eq std form_0 w R
theorem drawsOk : drawsOk PP cfg okD (codeOf Try.f57) = true := by kernel_rfl
theorem calls (form_0 : Sl) {w : World} {R : Ending → World → Prop} (h : E std form_0 w R) : Calls PP F.spec_TableauxOf #[Sl.v form_0] w R :=
  calls_of noCount mixed drawOk Try.func57 rfl (c := cfg) (args := [Sl.v form_0]) rfl (Nat.le_of_ble_eq_true (by kernel_rfl)) drawsOk h
end spec_TableauxOf

end Go.Proofs.Ytdchjhhpbdekeaa

/- Two rows of two tables that grow by one number each, in whatever order the steps are taken. -/
namespace Go.Proofs.Ytdchjhhpbdekeaa
open Go Go.RowKit
set_option maxRecDepth 100000

/-- A literal of one number, made by this step. -/
def Lit (w0 w : World) (ρ : Sl) (x : Int) : Prop := ∃ g, ρ = ⟨some ⟨g, 0, none⟩, 1, 1⟩ ∧ w0.heap.size ≤ g ∧ w.heap[g]? = some (.cells #[vI x] T_int (0, 0))
theorem Lit.row {w0 w : World} {ρ : Sl} {x : Int} (h : Lit w0 w ρ x) : Row w ρ [vI x] := by
  obtain ⟨g, rfl, _, hg⟩ := h
  refine ⟨rfl, Nat.le_refl _, fun i u hu => ⟨_, rfl, ?_⟩⟩
  cases i with
  | zero => simp at hu; subst hu; rw [add_zero', cell_of_row _ _ _ _ _ _ hg]; rfl
  | succ i => simp at hu
theorem Lit.kept {w0 w w' : World} {ρ : Sl} {x : Int} {r : Option Nat} (h : Lit w0 w ρ x) (hg : w.grownBy w' r) (hr : ∀ g, r = some g → g < w0.heap.size) : Lit w0 w' ρ x := by
  obtain ⟨g, rfl, h1, h2⟩ := h
  refine ⟨g, rfl, h1, ?_⟩
  rw [hg.block g (Array.getElem?_eq_some_iff.1 h2).1 (fun e => by have := hr g e.symm; omega)]
  exact h2
structure JS (w0 : World) (B : Nat) (ta tb : Sl) (A C : List Int) (x y : Int) (w : World) (pa da pb db : Option Sl) : Prop where
  keeps : Keeps (fun g => ta.blk = some g ∨ tb.blk = some g) w0 w
  a0 : da = none → OwnI w B ta A
  b0 : db = none → OwnI w B tb C
  a1 : ∀ t, da = some t → OwnI w B t (A ++ [x]) ∧ ∀ g, t.blk = some g → ta.blk = some g ∨ w0.heap.size ≤ g
  b1 : ∀ t, db = some t → OwnI w B t (C ++ [y]) ∧ ∀ g, t.blk = some g → tb.blk = some g ∨ w0.heap.size ≤ g
  pa : ∀ ρ, pa = some ρ → Lit w0 w ρ x
  pb : ∀ ρ, pb = some ρ → Lit w0 w ρ y
  ap : ∀ t u, da = some t → db = some u → Apt t u
  /-- As it stood at the beginning. -/
  hB : B ≤ w0.heap.size
  apt : Apt ta tb
  la : ∀ g, ta.blk = some g → g < w0.heap.size
  lb : ∀ g, tb.blk = some g → g < w0.heap.size
  na : A.length < 2^38
  nb : C.length < 2^38
theorem JS.swap {w0 B ta tb A C x y w pa da pb db} (h : JS w0 B ta tb A C x y w pa da pb db) : JS w0 B tb ta C A y x w pb db pa da :=
  ⟨h.keeps.mono (fun _ e => e.symm), h.b0, h.a0, h.b1, h.a1, h.pb, h.pa, fun t u h1 h2 => (h.ap u t h2 h1).symm, h.hB, h.apt.symm, h.lb, h.la, h.nb, h.na⟩
theorem JS.start {w0 B ta tb A C x y} (hB : B ≤ w0.heap.size) (ha : OwnI w0 B ta A) (hb : OwnI w0 B tb C) (hap : Apt ta tb) (na : A.length < 2^38) (nb : C.length < 2^38) : JS w0 B ta tb A C x y w0 none none none none :=
  ⟨Keeps.refl _ _, fun _ => ha, fun _ => hb, fun t e => by simp at e, fun t e => by simp at e, fun t e => by simp at e, fun t e => by simp at e, fun t u e => by simp at e, hB, hap, fun g hg => (ha.lt g hg).2, fun g hg => (hb.lt g hg).2, na, nb⟩
theorem JS.cell {w0 B ta tb A C x y w pa da pb db} (h : JS w0 B ta tb A C x y w pa da pb db) {c : Addr} {v : Value} (hc : w0.cell? c = some v) (h1 : ta.blk ≠ some c.block) (h2 : tb.blk ≠ some c.block) : w.cell? c = some v := by
  have hlt := World.block_lt_of_cell? w0 _ hc
  have := h.keeps.block c.block hlt (fun e => e.elim h1 h2)
  unfold World.cell? at hc ⊢
  rw [this]; exact hc
theorem JS.litA {w0 B ta tb A C x y w da pb db} (h : JS w0 B ta tb A C x y w none da pb db) {K : Sl → World → Prop} (hk : ∀ ρ w', JS w0 B ta tb A C x y w' (some ρ) da pb db → K ρ w') : sem1 .sl PP (Instr.buildSlice T_Sint 1 #[(0, vI x)]) w K := by
  refine ⟨⟨some ⟨w.heap.size, 0, none⟩, 1, 1⟩, _, run_lit1 oneInt (One.int x) w, hk _ _ ?_⟩
  have hg : w.grownBy (w.alloc (.cells #[vI x] T_int)) none := World.grownBy_alloc w _ none
  have kp : ∀ t M, OwnI w B t M → OwnI (w.alloc (.cells #[vI x] T_int)) B t M := fun t M ht => ht.kept hg fun _ _ e => (by cases e)
  refine ⟨h.keeps.trans ((keeps_grown hg).mono fun k e => (by cases e)), fun e => kp _ _ (h.a0 e), fun e => kp _ _ (h.b0 e), fun t e => ⟨kp _ _ (h.a1 t e).1, (h.a1 t e).2⟩, fun t e => ⟨kp _ _ (h.b1 t e).1, (h.b1 t e).2⟩, ?_, fun ρ e => (h.pb ρ e).kept hg fun g e => (by cases e), h.ap, h.hB, h.apt, h.la, h.lb, h.na, h.nb⟩
  intro ρ e
  simp only [Option.some.injEq] at e
  subst e
  exact ⟨_, rfl, h.keeps.size, heap_alloc_new w _⟩
theorem JS.litB {w0 B ta tb A C x y w pa da db} (h : JS w0 B ta tb A C x y w pa da none db) {K : Sl → World → Prop} (hk : ∀ ρ w', JS w0 B ta tb A C x y w' pa da (some ρ) db → K ρ w') : sem1 .sl PP (Instr.buildSlice T_Sint 1 #[(0, vI y)]) w K :=
  h.swap.litA fun ρ w' hj => hk ρ w' hj.swap
theorem JS.appA {w0 B ta tb A C x y w ρ pb db} (h : JS w0 B ta tb A C x y w (some ρ) none pb db) {K : Sl → World → Prop} (hk : ∀ t w', JS w0 B ta tb A C x y w' (some ρ) (some t) pb db → K t w') : sem1 .sl PP (Builtin.append_ #[T_Sint, T_Sint] T_Sint #[ta.v, ρ.v]) w K := by
  have ha := h.a0 rfl
  have hsz := h.keeps.size
  refine append_row oneInt ha (Nat.le_trans h.hB hsz) (h.pa ρ rfl).row (fun v hv => by simp at hv; subst hv; exact One.int x) (by have := h.na; simp; omega) ?_
  intro s' w' ho hg hn _
  have kpl : ∀ t M, OwnI w B t M → (∀ g, t.blk = some g → tb.blk = some g ∨ w0.heap.size ≤ g) → OwnI w' B t M := fun t M ht hh => ht.kept hg fun g h1 h2 => by
    rcases hh g h1 with h3 | h3
    · exact h.apt g h2 h3
    · have := h.la g h2; omega
  refine hk s' w' ⟨h.keeps.trans ((keeps_grown hg).mono fun k e => .inl e), fun e => (by cases e), fun e => kpl _ _ (h.b0 e) fun g hg => .inl hg, fun t e => ?_, fun t e => ⟨kpl _ _ (h.b1 t e).1 (h.b1 t e).2, (h.b1 t e).2⟩, fun ρ e => (h.pa ρ e).kept hg h.la, fun ρ e => (h.pb ρ e).kept hg h.la, fun t u e1 e2 => ?_, h.hB, h.apt, h.la, h.lb, h.na, h.nb⟩
  · simp only [Option.some.injEq] at e
    subst e
    refine ⟨by simpa [OwnI] using ho, fun g hg' => (hn g hg').imp id fun h1 => by omega⟩
  · simp only [Option.some.injEq] at e1
    subst e1
    intro g h1 h2
    have hu := (h.b1 u e2)
    rcases hn g h1 with h3 | h3
    · rcases hu.2 g h2 with h4 | h4
      · exact h.apt g h3 h4
      · have := h.la g h3; omega
    · have := (hu.1.lt g h2).2; omega
theorem JS.appB {w0 B ta tb A C x y w ρ pa da} (h : JS w0 B ta tb A C x y w pa da (some ρ) none) {K : Sl → World → Prop} (hk : ∀ t w', JS w0 B ta tb A C x y w' pa da (some ρ) (some t) → K t w') : sem1 .sl PP (Builtin.append_ #[T_Sint, T_Sint] T_Sint #[tb.v, ρ.v]) w K :=
  h.swap.appA fun t w' hj => hk t w' hj.swap

/-- A row put in a place, whatever became of the row that stood there. -/
theorem OwnRows.set2 {w w' : World} {B : Nat} {s : Sl} {rs : List Sl} {LL : List (List Int)} {i : Nat} {r : Sl} {L : List Int} (hout : Own w B T_Sint s (rs.map Sl.v)) (hl : rs.length = LL.length) (hat : ∀ (j : Nat) t M, j ≠ i → rs[j]? = some t → LL[j]? = some M → OwnI w B t M)
    (hapt : ∀ (j k : Nat) t u, j ≠ k → rs[j]? = some t → rs[k]? = some u → Apt t u) (hr : OwnI w B r L) (hap : ∀ (j : Nat) t, j ≠ i → rs[j]? = some t → Apt t r) (ho : Own w' B T_Sint s ((rs.map Sl.v).set i r.v)) (hg : w.grownBy w' s.blk) :
    OwnRows w' B s (rs.set i r) (LL.set i L) := by
  have kept : ∀ t M, OwnI w B t M → OwnI w' B t M := fun t M ht => ht.kept hg (fun g hg' e => (hout.apt ht (by decide)) g e hg')
  refine ⟨by simpa [List.map_set] using ho, by simp [hl], fun j t M e1 e2 => ?_, fun j k t u hjk e1 e2 => ?_⟩
  · rw [List.getElem?_set] at e1 e2
    by_cases hj : i = j
    · subst hj
      rw [if_pos rfl] at e1 e2
      split at e1
      · split at e2
        · simp only [Option.some.injEq] at e1 e2; subst e1 e2; exact kept _ _ hr
        · cases e2
      · cases e1
    · rw [if_neg hj] at e1 e2; exact kept _ _ (hat j t M (fun e => hj e.symm) e1 e2)
  · rw [List.getElem?_set] at e1 e2
    by_cases hj : i = j
    · subst hj
      rw [if_pos rfl] at e1
      rw [if_neg hjk] at e2
      split at e1
      · simp only [Option.some.injEq] at e1; subst e1; exact (hap k u (Ne.symm hjk) e2).symm
      · cases e1
    · rw [if_neg hj] at e1
      by_cases hk : i = k
      · subst hk
        rw [if_pos rfl] at e2
        split at e2
        · simp only [Option.some.injEq] at e2; subst e2; exact hap j t (Ne.symm hj) e1
        · cases e2
      · rw [if_neg hk] at e2; exact hapt j k t u hjk e1 e2
/-- A table after the steps, with the new row stored. -/
theorem OwnRows.storeK {w0 w B s rs LL} {S : Nat → Prop} (h : OwnRows w0 B s rs LL) {i : Int} (h0 : 0 ≤ i) (hi : i < LL.length) {t t' : Sl} {L' : List Int} (ht : rs[i.toNat]? = some t) (hk : Keeps S w0 w) (hS : ∀ g, foot s rs g → S g → t.blk = some g)
    (hr : OwnI w B t' L') (hn : ∀ g, t'.blk = some g → t.blk = some g ∨ w0.heap.size ≤ g) {K : World → Prop}
    (hK : ∀ w', OwnRows w' B s (rs.set i.toNat t') (LL.set i.toNat L') → w.grownBy w' s.blk → Stp w0 w' (fun g => S g ∨ foot s rs g) (foot s (rs.set i.toNat t')) → K w') : idxK 1 s i fun a => storeC a t'.v w K := by
  have hlt : i.toNat < LL.length := by omega
  have hot := h.at_ i.toNat t _ ht (List.getElem?_eq_getElem hlt)
  have hout : Own w B T_Sint s (rs.map Sl.v) := h.out.keeps hk fun g hg hs => (h.out.apt hot (by decide)) g hg (hS g (.inl hg) hs)
  have hm : t ∈ rs := List.mem_of_getElem? ht
  refine Own.put hout h0 (by rw [List.length_map, h.len]; exact hi) (v := t'.v) ?_
  intro w6 ho6 hg6 _
  refine hK w6 (OwnRows.set2 hout h.len (fun j u M hj e1 e2 => (h.at_ j u M e1 e2).keeps hk fun g hg hs => h.apt j i.toNat u t hj e1 ht g hg (hS g (.inr ⟨u, List.mem_of_getElem? e1, hg⟩) hs)) (fun j k t u hjk e1 e2 => h.apt j k t u hjk e1 e2) hr ?_ ho6 hg6) hg6 ⟨?_, fun g hg => ?_⟩
  · intro j u hj hu g h1 h2
    rcases hn g h2 with h3 | h3
    · exact h.apt j i.toNat u t hj hu ht g h1 h3
    · have := (h.lt (List.mem_of_getElem? hu) h1).2; omega
  · exact (hk.mono fun k e => .inl e).trans ((keeps_grown hg6).mono fun k e => .inr (.inl e))
  · rcases hg with hg | ⟨r, hr', hg⟩
    · exact .inl (.inr (.inl hg))
    · rcases List.mem_or_eq_of_mem_set hr' with hr' | rfl
      · exact .inl (.inr (.inr ⟨r, hr', hg⟩))
      · rcases hn g hg with h3 | h3
        · exact .inl (.inr (.inr ⟨t, hm, h3⟩))
        · exact .inr h3
theorem OwnRows.placeT {w B s rs LL} (h : OwnRows w B s rs LL) {i : Int} (h0 : 0 ≤ i) (hi : i < LL.length) {t : Sl} (ht : rs[i.toNat]? = some t) {K : Addr → Prop} (hk : ∀ a, s.blk = some a.block → w.cell? a = some t.v → K a) : idxK 1 s i K := by
  have hn := h.n
  have hlt : i.toNat < LL.length := by omega
  rcases h.out.at_ with hc | ⟨g, cur, ha, hb, hg, hs, htk⟩
  · have := h.out.nc; omega
  · have hc0 : s.c ≠ 0 := by have := h.out.nc; omega
    refine ⟨⟨g, 0, none⟩, ha, h0, by omega, ?_⟩
    rw [Nat.mul_one]
    refine hk _ ?_ ?_
    · rw [add_block]; simp [Sl.blk, hc0, ha]
    · obtain ⟨a, ha', hcell⟩ := h.out.row.cell i.toNat t.v (by rw [List.getElem?_map, ht]; rfl)
      rw [ha] at ha'; cases ha'; exact hcell
/-- A variable of the call's own: a slice of one number. -/
@[reducible] def vsl (v : Addr) : Sl := ⟨some v, 1, 1⟩
theorem vsl_cell {w B v x} (h : OwnI w B (vsl v) [x]) : w.cell? v = some (vI x) := by
  obtain ⟨a, ha, hc⟩ := h.row.cell 0 (vI x) rfl
  simp only [Option.some.injEq] at ha
  subst ha
  rwa [add_zero'] at hc
theorem vsl_blk (v : Addr) : (vsl v).blk = some v.block := by simp [Sl.blk]
theorem vsl_new {w : World} {B : Nat} (hB : B ≤ w.heap.size) {x : Int} {u : Int} {K : Addr → World → Prop} (hk : ∀ v w', OwnI w' B (vsl v) [x] → w.heap.size ≤ v.block → Below w.heap.size w w' → K v w') : newK T_int #[vI u] w fun v w1 => storeC v (vI x) w1 (K v) := by
  have hnew := heap_alloc_new w (.cells #[vI u] T_int)
  have hc : (w.alloc (.cells #[vI u] T_int)).cell? ⟨w.heap.size, 0, none⟩ = some (vI u) := by
    have := cell_of_row (w.alloc (.cells #[vI u] T_int)) w.heap.size 0 #[vI u] T_int (0, 0) hnew
    rw [this]; rfl
  refine ⟨⟨vI u, hc⟩, by simp only [World.frozen?, hnew]; rfl, hk _ _ ?_ (Nat.le_refl _) ?_⟩
  · have h1 : ((w.alloc (.cells #[vI u] T_int)).setCell ⟨w.heap.size, 0, none⟩ (vI x)).heap[w.heap.size]? = some (.cells (#[vI u].setIfInBounds 0 (vI x)) T_int (0, 0)) := by
      simp only [World.setCell, Array.getElem?_modify, hnew]; rfl
    refine ⟨rfl, Nat.le_refl _, by simp only [maxLen]; omega, .inr ⟨_, _, rfl, hB, h1, rfl, rfl⟩⟩
  · have hb := below_of_grow (World.grownBy_alloc w (.cells #[vI u] T_int) none)
    refine ⟨hb.os, hb.tape, hb.output, by simp [World.setCell], fun k hk => ?_⟩
    rw [Below.heap_setCell _ _ _ _ (by simp; omega)]
    exact hb.block k hk
theorem vsl_store {w B v x y} (h : OwnI w B (vsl v) [x]) {K : World → Prop} (hk : ∀ w', OwnI w' B (vsl v) [y] → w.grownBy w' (some v.block) → K w') : storeC v (vI y) w K := by
  have := Own.put (i := 0) (v := vI y) h (by omega) (by simp) (K := K) fun w' h1 h2 _ => hk w' (by simpa [OwnI] using h1) (by rw [vsl_blk] at h2; exact h2)
  obtain ⟨a, ha, _, _, hs⟩ := this
  simp only [Option.some.injEq] at ha
  subst ha
  simpa [add_zero'] using hs
end Go.Proofs.Ytdchjhhpbdekeaa

/- What each function does, step by step, written by a program (Gen.lean); each equation is checked by the kernel. -/
namespace Go.Proofs.Ytdchjhhpbdekeaa
open Go
set_option linter.unusedVariables false
set_option maxRecDepth 100000
end Go.Proofs.Ytdchjhhpbdekeaa

/- Rows of rows of rows in memory: what such a slice reads, what a call owns of it, appends and stores; the laws' helpers over them. -/
namespace Go.Proofs.Ytdchjhhpbdekeaa
open Go Go.RowKit
set_option maxRecDepth 100000

theorem oneS3 : OneT T_SSSint T_SSint Sl.nil.v := oneT_of (by kernel_rfl) (by kernel_rfl) rfl
theorem ne_Sint_SSint : T_Sint ≠ T_SSint := by decide
theorem ne_int_SSint : T_int ≠ T_SSint := by decide

/-- What a slice of tables reads. -/
def RowS3 (w : World) (s : Sl) (G : List (List (List Int))) : Prop := ∃ ts : List Sl, Row w s (ts.map Sl.v) ∧ ts.length = G.length ∧ ∀ (i : Nat) (t : Sl) (LL : List (List Int)), ts[i]? = some t → G[i]? = some LL → RowSS w t LL
theorem RowS3.n {w s G} (h : RowS3 w s G) : s.n = G.length := by obtain ⟨ts, h1, h2, _⟩ := h; have := h1.n; simp_all
theorem RowS3.grow {w w' s G} (h : RowS3 w s G) (hb : Below w.heap.size w w') : RowS3 w' s G := by
  obtain ⟨ts, h1, h2, h3⟩ := h
  exact ⟨ts, h1.grow hb, h2, fun i t LL e1 e2 => (h3 i t LL e1 e2).grow hb⟩
theorem RowS3.heap {w w' s G} (h : RowS3 w s G) (hh : w'.heap = w.heap) : RowS3 w' s G := by
  obtain ⟨ts, h1, h2, h3⟩ := h
  exact ⟨ts, h1.heap hh, h2, fun i t LL e1 e2 => (h3 i t LL e1 e2).heap hh⟩
theorem getD3 {G : List (List (List Int))} {i : Nat} (h : i < G.length) : G.getD i [] = G[i] := by simp [List.getD_eq_getElem?_getD, List.getElem?_eq_getElem h]
theorem RowS3.get {w s G} (h : RowS3 w s G) {i : Int} (h0 : 0 ≤ i) (hi : i < G.length) {K : Sl → Prop} (hk : ∀ t, RowSS w t (G.getD i.toNat []) → K t) : idxK 1 s i fun a => load1 .sl a w K := by
  obtain ⟨ts, h1, h2, h3⟩ := h
  have hlt : i.toNat < ts.length := by omega
  have hlt2 : i.toNat < G.length := by omega
  refine Row.get (sh := .sl) (r := ts[i.toNat]) h1 h0 ?_ (hk _ ?_)
  · rw [List.getElem?_map, List.getElem?_eq_getElem hlt]; rfl
  · rw [getD3 hlt2]; exact h3 i.toNat _ _ (List.getElem?_eq_getElem hlt) (List.getElem?_eq_getElem hlt2)
/-- A table of the call's own. -/
structure Grp where
  s : Sl
  rs : List Sl
  LL : List (List Int)
@[reducible] def Grp.foot (g : Grp) : Nat → Prop := Ytdchjhhpbdekeaa.foot g.s g.rs
def Far (g h : Grp) : Prop := ∀ x, g.foot x → ¬ h.foot x
theorem Far.symm {g h : Grp} (hf : Far g h) : Far h g := fun x h1 h2 => hf x h2 h1
structure OwnS3 (w : World) (B : Nat) (s : Sl) (G : List Grp) : Prop where
  out : Own w B T_SSint s (G.map fun g => g.s.v)
  grp : ∀ g ∈ G, OwnRows w B g.s g.rs g.LL
  apt : G.Pairwise Far
def foot3 (s : Sl) (G : List Grp) (x : Nat) : Prop := s.blk = some x ∨ ∃ g ∈ G, g.foot x
@[reducible] def vals (G : List Grp) : List (List (List Int)) := G.map Grp.LL
theorem OwnS3.row {w B s G} (h : OwnS3 w B s G) : RowS3 w s (vals G) := by
  refine ⟨G.map Grp.s, by rw [List.map_map]; exact h.out.row, by simp, fun i t LL e1 e2 => ?_⟩
  rw [List.getElem?_map] at e1 e2
  cases hg : G[i]? with
  | none => rw [hg] at e1; cases e1
  | some g =>
    rw [hg] at e1 e2
    simp only [Option.map_some, Option.some.injEq] at e1 e2
    subst e1 e2
    exact (h.grp g (List.mem_of_getElem? hg)).row
theorem OwnS3.n {w B s G} (h : OwnS3 w B s G) : s.n = G.length := by have := h.out.n; simpa using this
theorem OwnS3.footLt {w B s G} (h : OwnS3 w B s G) {x : Nat} (hx : foot3 s G x) : B ≤ x ∧ x < w.heap.size := by
  rcases hx with hx | ⟨g, hg, hx⟩
  · exact h.out.lt x hx
  · exact (h.grp g hg).footLt hx
theorem OwnS3.keepsF {S : Nat → Prop} {w w' B s G} (h : OwnS3 w B s G) (hk : Keeps S w w') (hd : ∀ x, foot3 s G x → ¬ S x) : OwnS3 w' B s G :=
  ⟨h.out.keeps hk fun x hx => hd x (.inl hx), fun g hg => (h.grp g hg).keepsF hk fun x hx => hd x (.inr ⟨g, hg, hx⟩), h.apt⟩
theorem OwnS3.grow {w w' B s G} (h : OwnS3 w B s G) (hb : Below w.heap.size w w') : OwnS3 w' B s G := ⟨h.out.grow hb, fun g hg => (h.grp g hg).grow hb, h.apt⟩
theorem OwnS3.heap {w w' B s G} (h : OwnS3 w B s G) (hh : w'.heap = w.heap) : OwnS3 w' B s G := ⟨h.out.heap hh, fun g hg => (h.grp g hg).heap hh, h.apt⟩
theorem OwnS3.mono {w B B' s G} (h : OwnS3 w B s G) (hb : B' ≤ B) : OwnS3 w B' s G := ⟨h.out.mono hb, fun g hg => (h.grp g hg).mono hb, h.apt⟩
theorem OwnS3.nil {w B s} (h : Own w B T_SSint s []) : OwnS3 w B s [] := ⟨h, fun g hg => (by cases hg), List.Pairwise.nil⟩
/-- The outer block is no table's. -/
theorem OwnS3.outApt {w B s G} (h : OwnS3 w B s G) {g : Grp} (hg : g ∈ G) {x : Nat} (hx : s.blk = some x) : ¬ g.foot x := fun hf => by
  rcases hf with hf | ⟨r, hr, hf⟩
  · exact (h.out.apt (h.grp g hg).out (Ne.symm ne_Sint_SSint)) x hx hf
  · obtain ⟨L, _, ho⟩ := (h.grp g hg).own hr
    exact (h.out.apt ho (Ne.symm ne_int_SSint)) x hx hf
theorem OwnRows.outer {w B B' s vs t rs LL} (h : Own w B T_SSint s vs) (hr : OwnRows w B' t rs LL) {x : Nat} (hx : s.blk = some x) : ¬ foot t rs x := fun hf => by
  rcases hf with hf | ⟨r, hr', hf⟩
  · exact (h.apt hr.out (Ne.symm ne_Sint_SSint)) x hx hf
  · obtain ⟨L, _, ho⟩ := hr.own hr'
    exact (h.apt ho (Ne.symm ne_int_SSint)) x hx hf
/-- More tables, apart from all others: the outer slice alone was written. -/
theorem OwnS3.pushMany {w w' : World} {B : Nat} {s s' : Sl} {G H : List Grp} (h : OwnS3 w B s G) (hH : ∀ g ∈ H, OwnRows w B g.s g.rs g.LL) (hp : H.Pairwise Far) (hf : ∀ g ∈ G, ∀ k ∈ H, Far g k) (ho : Own w' B T_SSint s' (G.map (fun g => g.s.v) ++ H.map fun g => g.s.v)) (hg : w.grownBy w' s.blk) : OwnS3 w' B s' (G ++ H) := by
  have k := keeps_grown hg
  refine ⟨by simpa using ho, fun g hg' => ?_, List.pairwise_append.2 ⟨h.apt, hp, hf⟩⟩
  rcases List.mem_append.1 hg' with hg' | hg'
  · exact (h.grp g hg').keepsF k fun x h1 h2 => h.outApt hg' h2 h1
  · exact (hH g hg').keepsF k fun x h1 h2 => OwnRows.outer h.out (hH g hg') h2 h1
/-- 'append(tables, table)'. -/
theorem append_s3 {w : World} {B : Nat} {s : Sl} {G : List Grp} (h : OwnS3 w B s G) (hB : B ≤ w.heap.size) {g : Grp} (hg : OwnRows w B g.s g.rs g.LL) (hf : ∀ k ∈ G, Far k g) (hn : G.length < 2^38) {K : Sl → World → Prop}
    (hk : ∀ s' w', OwnS3 w' B s' (G ++ [g]) → w.grownBy w' s.blk → Next w s s' → K s' w') :
    sem1 .sl PP (Instr.buildSlice T_SSSint 1 #[(0, g.s.v)]) w fun t w1 => sem1 .sl PP (Builtin.append_ #[T_SSSint, T_SSSint] T_SSSint #[s.v, t.v]) w1 K :=
  append_one oneS3 h.out hB (One.sl g.s) (by rw [List.length_map]; omega) fun s' w' h1 h2 h3 =>
    hk s' w' (h.pushMany (H := [g]) (fun k hk => by simp at hk; subst hk; exact hg) (by simp) (fun k hk1 j hj => by simp at hj; subst hj; exact hf k hk1) (by simpa using h1) h2) h2 h3
/-- 'append(tables, more...)'. -/
theorem append_many3 {w : World} {B : Nat} {s s2 : Sl} {G H : List Grp} (h : OwnS3 w B s G) (hB : B ≤ w.heap.size) (h2 : OwnS3 w B s2 H) (hf : ∀ g ∈ G, ∀ k ∈ H, Far g k) (hn : G.length + H.length < 2^38) {K : Sl → World → Prop}
    (hk : ∀ s' w', OwnS3 w' B s' (G ++ H) → w.grownBy w' s.blk → Next w s s' → K s' w') :
    sem1 .sl PP (Builtin.append_ #[T_SSSint, T_SSSint] T_SSSint #[s.v, s2.v]) w K := by
  refine append_row oneS3 h.out hB h2.out.row (fun v hv => by obtain ⟨g, _, rfl⟩ := List.mem_map.1 hv; exact One.sl g.s) (by rw [List.length_map, List.length_map]; omega) ?_
  intro s' w' ho hg hn' _
  exact hk s' w' (h.pushMany h2.grp h2.apt hf ho hg) hg hn'
theorem pairwise_set {α : Type} {R : α → α → Prop} (hs : ∀ a b, R a b → R b a) {l : List α} (h : l.Pairwise R) {i : Nat} {x : α} (hx : ∀ j (hj : j < l.length), j ≠ i → R x l[j]) : (l.set i x).Pairwise R := by
  rw [List.pairwise_iff_getElem] at h ⊢
  intro a b ha hb hab
  rw [List.length_set] at ha hb
  rw [List.getElem_set, List.getElem_set]
  split
  · rw [if_neg (by omega)]; exact hx b hb (by omega)
  · split
    · exact hs _ _ (hx a ha (by omega))
    · exact h a b ha hb hab
/-- A table put in a place, whatever became of the table that stood there. -/
theorem OwnS3.set {w w' : World} {B : Nat} {s : Sl} {G : List Grp} {i : Nat} {g : Grp} (hout : Own w B T_SSint s (G.map fun g => g.s.v)) (hgr : ∀ j (hj : j < G.length), j ≠ i → OwnRows w B G[j].s G[j].rs G[j].LL) (hap : G.Pairwise Far) (hg : OwnRows w B g.s g.rs g.LL)
    (hf : ∀ j (hj : j < G.length), j ≠ i → Far g G[j]) (ho : Own w' B T_SSint s ((G.map fun g => g.s.v).set i g.s.v)) (hgb : w.grownBy w' s.blk) : OwnS3 w' B s (G.set i g) := by
  have k := keeps_grown hgb
  refine ⟨by rw [List.map_set]; exact ho, fun u hu => ?_, pairwise_set (fun _ _ h => h.symm) hap hf⟩
  obtain ⟨j, hj, rfl⟩ := List.getElem_of_mem hu
  rw [List.length_set] at hj
  rw [List.getElem_set]
  split
  · exact hg.keepsF k fun x h1 h2 => OwnRows.outer hout hg h2 h1
  · rename_i e
    exact (hgr j hj (by omega)).keepsF k fun x h1 h2 => OwnRows.outer hout (hgr j hj (by omega)) h2 h1
theorem OwnS3.load {w B s G} (h : OwnS3 w B s G) {i : Int} (h0 : 0 ≤ i) (hi : i < G.length) {K : Sl → Prop} (hk : ∀ g, G[i.toNat]? = some g → K g.s) : idxK 1 s i fun a => load1 .sl a w K := by
  have hlt : i.toNat < G.length := by omega
  exact Row.get (sh := .sl) (r := G[i.toNat].s) h.out.row h0 (by rw [List.getElem?_map, List.getElem?_eq_getElem hlt]; rfl) (hk _ (List.getElem?_eq_getElem hlt))
theorem OwnS3.placeT {w B s G} (h : OwnS3 w B s G) {i : Int} (h0 : 0 ≤ i) (hi : i < G.length) {g : Grp} (hg : G[i.toNat]? = some g) {K : Addr → Prop} (hk : ∀ a, s.blk = some a.block → w.cell? a = some g.s.v → K a) : idxK 1 s i K := by
  have hn := h.n
  rcases h.out.at_ with hc | ⟨b, cur, ha, hb, hgg, hs, htk⟩
  · have := h.out.nc; omega
  · have hc0 : s.c ≠ 0 := by have := h.out.nc; omega
    refine ⟨⟨b, 0, none⟩, ha, h0, by omega, ?_⟩
    rw [Nat.mul_one]
    refine hk _ ?_ ?_
    · rw [add_block]; simp [Sl.blk, hc0, ha]
    · obtain ⟨a, ha', hcell⟩ := h.out.row.cell i.toNat g.s.v (by rw [List.getElem?_map, hg]; rfl)
      rw [ha] at ha'; cases ha'; exact hcell

/-! ### The laws' helpers -/
def tot3 (G : List (List (List Int))) : Nat := (G.map fun LL => LL.length + tot LL).sum
theorem tot3_nil : tot3 [] = 0 := rfl
theorem tot3_append (A B : List (List (List Int))) : tot3 (A ++ B) = tot3 A + tot3 B := by simp [tot3]
theorem tot3_take_succ {G : List (List (List Int))} {i : Nat} (h : i < G.length) : tot3 (G.take (i + 1)) = tot3 (G.take i) + ((G.getD i []).length + tot (G.getD i [])) := by
  rw [getD3 h, List.take_succ_eq_append_getElem h, tot3_append]; simp [tot3]
theorem tot3_take_le (G : List (List (List Int))) (i : Nat) : tot3 (G.take i) ≤ tot3 G := by
  have : tot3 G = tot3 (G.take i) + tot3 (G.drop i) := by rw [← tot3_append, List.take_append_drop]
  omega
theorem le_tot3 {G : List (List (List Int))} {LL : List (List Int)} (h : LL ∈ G) : LL.length + tot LL ≤ tot3 G := by
  induction G with
  | nil => cases h
  | cons M G ih =>
    have e : tot3 (M :: G) = (M.length + tot M) + tot3 G := by simp [tot3]
    rw [e]
    rcases List.mem_cons.1 h with rfl | h
    · omega
    · have := ih h; omega
/-- How many numbers. -/
def num3 (G : List (List (List Int))) : Nat := (G.map tot).sum
theorem num3_append (A B : List (List (List Int))) : num3 (A ++ B) = num3 A + num3 B := by simp [num3]
theorem num3_take_succ {G : List (List (List Int))} {i : Nat} (h : i < G.length) : num3 (G.take (i + 1)) = num3 (G.take i) + tot (G.getD i []) := by
  rw [getD3 h, List.take_succ_eq_append_getElem h, num3_append]; simp [num3]
theorem num3_le (G : List (List (List Int))) : num3 G ≤ tot3 G := by
  induction G with
  | nil => exact Nat.le_refl _
  | cons M G ih =>
    have e1 : tot3 (M :: G) = (M.length + tot M) + tot3 G := by simp [tot3]
    have e2 : num3 (M :: G) = tot M + num3 G := by simp [num3]
    omega
theorem num3_take_le (G : List (List (List Int))) (i : Nat) : num3 (G.take i) ≤ num3 G := by
  have : num3 G = num3 (G.take i) + num3 (G.drop i) := by rw [← num3_append, List.take_append_drop]
  omega
/-- The numbers one after the other, from k on, in place i of the tables. -/
def marksAt (k : Int) (G : List (List (List Int))) (i : Nat) : List (List Int) := marksSS (k + num3 (G.take i)) (G.getD i [])
structure Marked (k : Int) (G : List Grp) (H : List Grp) (i : Nat) : Prop where
  len : H.length = G.length
  same : ∀ j g h, G[j]? = some g → H[j]? = some h → h.s = g.s ∧ h.rs = g.rs ∧ h.LL = if j < i then marksAt k (vals G) j else g.LL
theorem Marked.foot {k G H i} (h : Marked k G H i) (s : Sl) (x : Nat) : foot3 s H x ↔ foot3 s G x := by
  have hl := h.len
  constructor
  · rintro (h1 | ⟨u, hu, h1⟩)
    · exact .inl h1
    · obtain ⟨j, hj, rfl⟩ := List.getElem_of_mem hu
      have hs := h.same j G[j] H[j] (List.getElem?_eq_getElem (by omega)) (List.getElem?_eq_getElem hj)
      refine .inr ⟨G[j], List.getElem_mem (by omega), ?_⟩
      rw [Grp.foot, ← hs.1, ← hs.2.1]; exact h1
  · rintro (h1 | ⟨u, hu, h1⟩)
    · exact .inl h1
    · obtain ⟨j, hj, rfl⟩ := List.getElem_of_mem hu
      have hs := h.same j G[j] H[j] (List.getElem?_eq_getElem hj) (List.getElem?_eq_getElem (by omega))
      refine .inr ⟨H[j], List.getElem_mem (by omega), ?_⟩
      rw [Grp.foot, hs.1, hs.2.1]; exact h1
theorem getD_vals {G : List Grp} {i : Nat} (h : i < G.length) : (vals G).getD i [] = G[i].LL := by simp [List.getD_eq_getElem?_getD, h]
theorem Marked.at_ {k G H} (h : Marked k G H G.length) {i : Nat} (hi : i < G.length) : (vals H).getD i [] = marksSS (k + num3 ((vals G).take i)) ((vals G).getD i []) := by
  have hl := h.len
  have := (h.same i G[i] H[i] (List.getElem?_eq_getElem hi) (List.getElem?_eq_getElem (by omega))).2.2
  rw [getD_vals (by omega), this, if_pos hi]; rfl
end Go.Proofs.Ytdchjhhpbdekeaa

/- One more row in a table of tables. -/
namespace Go.Proofs.Ytdchjhhpbdekeaa
open Go Go.RowKit
set_option maxRecDepth 100000

/-- The blocks that are no leaves. -/
def foot2 (s : Sl) (G : List Grp) (x : Nat) : Prop := s.blk = some x ∨ ∃ g ∈ G, g.s.blk = some x
def leaf (G : List Grp) (x : Nat) : Prop := ∃ g ∈ G, ∃ r ∈ g.rs, r.blk = some x
theorem foot3_iff {s : Sl} {G : List Grp} {x : Nat} : foot3 s G x ↔ foot2 s G x ∨ leaf G x := by
  constructor
  · rintro (h | ⟨g, hg, h | ⟨r, hr, h⟩⟩)
    · exact .inl (.inl h)
    · exact .inl (.inr ⟨g, hg, h⟩)
    · exact .inr ⟨g, hg, r, hr, h⟩
  · rintro ((h | ⟨g, hg, h⟩) | ⟨g, hg, r, hr, h⟩)
    · exact .inl h
    · exact .inr ⟨g, hg, .inl h⟩
    · exact .inr ⟨g, hg, .inr ⟨r, hr, h⟩⟩
/-- 'tables[i] = append(tables[i], row)', behind the literal. -/
theorem OwnS3.appendAt {w : World} {B : Nat} {s : Sl} {G : List Grp} (h : OwnS3 w B s G) (hB : B ≤ w.heap.size) {i : Int} (h0 : 0 ≤ i) (hi : i < G.length) {g : Grp} (hg : G[i.toNat]? = some g) {r ρ : Sl} {L : List Int} (hr : OwnI w B r L) (hfar : ∀ x, r.blk = some x → ¬ foot3 s G x)
    (hρ : Row w ρ [r.v]) (hn : g.LL.length < 2^38) {K : World → Prop}
    (hk : ∀ w' t', OwnS3 w' B s (G.set i.toNat ⟨t', g.rs ++ [r], g.LL ++ [L]⟩) → Keeps (foot2 s G) w w' → (∀ x, foot2 s (G.set i.toNat ⟨t', g.rs ++ [r], g.LL ++ [L]⟩) x → foot2 s G x ∨ w.heap.size ≤ x) → (∀ x, leaf (G.set i.toNat ⟨t', g.rs ++ [r], g.LL ++ [L]⟩) x → leaf G x ∨ r.blk = some x) → K w') :
    sem1 .sl PP (Builtin.append_ #[T_SSint, T_SSint] T_SSint #[g.s.v, ρ.v]) w fun t' w2 => idxK 1 s i fun a => storeC a t'.v w2 K := by
  have hgm : g ∈ G := List.mem_of_getElem? hg
  have hgo := h.grp g hgm
  have hlt : i.toNat < G.length := by omega
  have hge : G[i.toNat] = g := by rw [List.getElem?_eq_getElem hlt] at hg; exact Option.some.inj hg
  have hsub : ∀ x, g.s.blk = some x → g.foot x := fun x hx => .inl hx
  refine append_row oneSint hgo.out hB hρ (fun v hv => by simp at hv; subst hv; exact One.sl r) (by rw [List.length_map, hgo.len]; simp; omega) ?_
  intro t' w2 ho hgr hnx _
  have k2 := keeps_grown hgr
  have hgo2 : OwnRows w2 B t' (g.rs ++ [r]) (g.LL ++ [L]) := hgo.push hr (fun t ht x h1 h2 => hfar x h2 (.inr ⟨g, hgm, .inr ⟨t, ht, h1⟩⟩)) ho hgr
  have hout2 : Own w2 B T_SSint s (G.map fun g => g.s.v) := h.out.keeps k2 fun x h1 h2 => h.outApt hgm h1 (hsub x h2)
  have hoth : ∀ j (hj : j < G.length), j ≠ i.toNat → OwnRows w2 B G[j].s G[j].rs G[j].LL := fun j hj hne => by
    refine (h.grp _ (List.getElem_mem hj)).keepsF k2 fun x h1 h2 => ?_
    have hp := List.pairwise_iff_getElem.1 h.apt
    rcases Nat.lt_or_gt_of_ne hne with h4 | h4
    · exact hp _ _ hj hlt h4 x h1 (hge ▸ hsub x h2)
    · exact hp _ _ hlt hj h4 x (hge ▸ hsub x h2) h1
  have hnew : ∀ x, Grp.foot ⟨t', g.rs ++ [r], g.LL ++ [L]⟩ x → g.foot x ∨ r.blk = some x ∨ w.heap.size ≤ x := by
    rintro x (hx | ⟨u, hu, hx⟩)
    · rcases hnx x hx with h4 | h4
      · exact .inl (.inl h4)
      · exact .inr (.inr h4)
    · rcases List.mem_append.1 hu with hu | hu
      · exact .inl (.inr ⟨u, hu, hx⟩)
      · simp at hu; subst hu; exact .inr (.inl hx)
  refine Own.put hout2 h0 (by rw [List.length_map]; exact hi) (v := t'.v) ?_
  intro w3 ho3 hg3 _
  refine hk w3 t' (OwnS3.set hout2 hoth h.apt hgo2 (fun j hj hne x h1 h2 => ?_) ho3 hg3) ((k2.mono fun x hx => .inr ⟨g, hgm, hx⟩).trans ((keeps_grown hg3).mono fun x hx => .inl hx)) (fun x hx => ?_) fun x hx => ?_
  · have hp := List.pairwise_iff_getElem.1 h.apt
    rcases hnew x h1 with h4 | h4 | h4
    · rcases Nat.lt_or_gt_of_ne hne with h5 | h5
      · exact hp _ _ hj hlt h5 x h2 (hge ▸ h4)
      · exact hp _ _ hlt hj h5 x (hge ▸ h4) h2
    · exact hfar x h4 (.inr ⟨_, List.getElem_mem hj, h2⟩)
    · have := ((h.grp _ (List.getElem_mem hj)).footLt h2).2; omega
  · rcases hx with hx | ⟨u, hu, hx⟩
    · exact .inl (.inl hx)
    · rcases List.mem_or_eq_of_mem_set hu with hu | rfl
      · exact .inl (.inr ⟨u, hu, hx⟩)
      · exact (hnx x hx).imp (fun h4 => .inr ⟨g, hgm, h4⟩) id
  · obtain ⟨u, hu, q, hq, hx⟩ := hx
    rcases List.mem_or_eq_of_mem_set hu with hu | rfl
    · exact .inl ⟨u, hu, q, hq, hx⟩
    · rcases List.mem_append.1 hq with hq | hq
      · exact .inl ⟨g, hgm, q, hq, hx⟩
      · simp at hq; subst hq; exact .inr hx
theorem vals_set {G : List Grp} {i : Nat} {g : Grp} : vals (G.set i g) = (vals G).set i g.LL := by simp [List.map_set]
theorem lit_sl {w : World} {r : Sl} {K : Sl → World → Prop} (hk : ∀ ρ w', Row w' ρ [r.v] → Below w.heap.size w w' → K ρ w') : sem1 .sl PP (Instr.buildSlice T_SSint 1 #[(0, r.v)]) w K :=
  lit1 oneSint (B := w.heap.size) (Nat.le_refl _) (One.sl r) fun ρ w' h1 h2 _ => hk ρ w' h1.row (below_of_grow h2)
end Go.Proofs.Ytdchjhhpbdekeaa

/- What each function does, step by step, written by a program (Gen.lean); each equation is checked by the kernel. -/
namespace Go.Proofs.Ytdchjhhpbdekeaa
open Go
set_option linter.unusedVariables false
set_option maxRecDepth 100000
namespace impl_copied
@[reducible] def cfg : Cfg := ⟨20, [(3, [3, 7, 8, 9])], [(1, [3, 7, 8, 9]), (0, [3])], [], [2], [], [101, 107, 112, 15, 21, 124, 76, 137, 28, 115, 91, 81, 130], [138, 140, 82, 6, 86, 85, 132]⟩
def q2 (pr : Prims) (R : Ending → World → Prop) : Exit → Env → World → Prop := fun ex e w => normQ ex (fun e w => contE pr cfg (sub (codeOf Try.f105) [1, 1, 1]) (fun e w => wpC pr PP cfg (DD pr) (sub (codeOf Try.f105) [1, 1, 1]) (retQ Try.f105.results.toList R) e w) e w) (retQ Try.f105.results.toList R) e w
def q3 (pr : Prims) (R : Ending → World → Prop) : Exit → Env → World → Prop := fun ex e w => blockQ ex 0 (q2 pr R) e w
def emb3 (out_3 : Sl) (t7 : Sl) (t8 : Int) (t9 : Int) : Env := [(3, Sl.v out_3), (7, Sl.v t7), (8, vI t8), (9, vI t9)]
def x0 (out_3 : Sl) : Env := [(3, Sl.v out_3)]
def S3 (pr : Prims) (Q : Exit → Env → World → Prop) : (Env → World → Prop) → Env → World → Prop := fun k e w => wpC pr PP cfg (DD pr) (sub (codeOf Try.f105) [1, 1, 0, 1, 0, 0]) (fun ex e w => normQ ex (fun e' w' => k (Env.restr e' (lookN cfg.loops (keyOf (sub (codeOf Try.f105) [1, 1, 0, 1, 0, 0])))) w') Q e w) e w
def B3 (pr : Prims) (out_3 : Sl) (t7 : Sl) (t8 : Int) (t9 : Int) (w : World) (k : Env → World → Prop) (Q : Exit → Env → World → Prop) : Prop :=
  S3 pr Q k (emb3 out_3 t7 t8 t9) w
def L3 (pr : Prims) (out_3 : Sl) (t7 : Sl) (t8 : Int) (t9 : Int) (w : World) (Q : Exit → Env → World → Prop) : Prop :=
  pr.loop (S3 pr Q) (emb3 out_3 t7 t8 t9) w
def E (pr : Prims) (t_0 : Sl) (w : World) (R : Ending → World → Prop) : Prop :=
  wpC pr PP cfg (DD pr) (codeOf Try.f105) (retQ Try.f105.results.toList R) (argE 0 [Sl.v t_0]) w
theorem B3_eq (pr : Prims) (out_3 : Sl) (t7 : Sl) (t8 : Int) (t9 : Int) (w : World) (k : Env → World → Prop) (Q : Exit → Env → World → Prop) : B3 pr out_3 t7 t8 t9 w k Q = (
  bif decide (t9 < t8) then (
  pr.idxK 1 t7 t9 fun (a4 : Addr) =>
  pr.load1 .sl a4 w fun (ξ5 : Sl) =>
  pr.call1 .sl PP F.slices_Clone___int_int_ #[Sl.v ξ5] w fun (ρ6 : Sl) ω7 =>
  pr.sem1 .sl PP (Instr.buildSlice T_SSint 1 #[(0, Sl.v ρ6)]) ω7 fun (ρ8 : Sl) ω9 =>
  pr.sem1 .sl PP (Builtin.append_ #[T_SSint, T_SSint] T_SSint #[Sl.v out_3, Sl.v ρ8]) ω9 fun (ρ10 : Sl) ω11 =>
  k (emb3 ρ10 t7 t8 (w64 (t9 + 1))) ω11)
  else (
  Q (.exit 0) (x0 out_3) w)) := by kernel_rfl
theorem B3_s (out_3 : Sl) (t7 : Sl) (t8 : Int) (t9 : Int) (w : World) (k : Env → World → Prop) (Q : Exit → Env → World → Prop) : B3 std out_3 t7 t8 t9 w k Q = (
  bif decide (t9 < t8) then (
  idxK 1 t7 t9 fun (a4 : Addr) =>
  load1 .sl a4 w fun (ξ5 : Sl) =>
  call1 .sl PP F.slices_Clone___int_int_ #[Sl.v ξ5] w fun (ρ6 : Sl) ω7 =>
  sem1 .sl PP (Instr.buildSlice T_SSint 1 #[(0, Sl.v ρ6)]) ω7 fun (ρ8 : Sl) ω9 =>
  sem1 .sl PP (Builtin.append_ #[T_SSint, T_SSint] T_SSint #[Sl.v out_3, Sl.v ρ8]) ω9 fun (ρ10 : Sl) ω11 =>
  k (emb3 ρ10 t7 t8 (w64 (t9 + 1))) ω11)
  else (
  Q (.exit 0) (x0 out_3) w)) := B3_eq std out_3 t7 t8 t9 w k Q
theorem L3_rule (out_3 : Sl) (t7 : Sl) (t8 : Int) (t9 : Int) (w : World) (Q : Exit → Env → World → Prop) (I : Sl → Int → World → Prop) (μ : Sl → Int → World → Nat) (h0 : I out_3 t9 w)
    (h : ∀ (out_3 : Sl) (t9 : Int) (w' : World), I out_3 t9 w' → B3 std out_3 t7 t8 t9 w' (fun e2 w2 => ∃ out_3_n t9_n, e2 = emb3 out_3_n t7 t8 t9_n ∧ I out_3_n t9_n w2 ∧ μ out_3_n t9_n w2 < μ out_3 t9 w') Q) :
    L3 std out_3 t7 t8 t9 w Q := by
  unfold L3
  refine LoopE.intro (σ := Sl × Int) (step := S3 std Q) (fun s => emb3 s.1 t7 t8 s.2) (fun s w => I s.1 s.2 w) (fun s w => μ s.1 s.2 w) (out_3, t9) rfl h0 ?_
  intro s w' hI
  have h1 := h s.1 s.2 w' hI
  unfold B3 at h1
  simp only [Prod.exists]
  exact h1
theorem A3_0_eq (pr : Prims) (out_3 : Sl) (w : World) (R : Ending → World → Prop) : (q3 pr R) (.exit 0) (x0 out_3) w = (
  R (.returned (Sl.v out_3)) w) := by kernel_rfl
theorem A3_0_s (out_3 : Sl) (w : World) (R : Ending → World → Prop) : (q3 std R) (.exit 0) (x0 out_3) w = (
  R (.returned (Sl.v out_3)) w) := A3_0_eq std out_3 w R
theorem E_eq (pr : Prims) (t_0 : Sl) (w : World) (R : Ending → World → Prop) : E pr t_0 w R = (
  pr.sem1 .sl PP (Instr.buildSlice T_SSint 0 #[]) w fun (ρ0 : Sl) ω1 =>
  L3 pr ρ0 t_0 (t_0.n : Int) 0 ω1 (q3 pr R)) := by kernel_rfl
theorem E_s (t_0 : Sl) (w : World) (R : Ending → World → Prop) : E std t_0 w R = (
  sem1 .sl PP (Instr.buildSlice T_SSint 0 #[]) w fun (ρ0 : Sl) ω1 =>
  L3 std ρ0 t_0 (t_0.n : Int) 0 ω1 (q3 std R)) := E_eq std t_0 w R
theorem drawsOk : drawsOk PP cfg okD (codeOf Try.f105) = true := by kernel_rfl
theorem calls (t_0 : Sl) {w : World} {R : Ending → World → Prop} (h : E std t_0 w R) : Calls PP F.impl_copied #[Sl.v t_0] w R :=
  calls_of noCount mixed drawOk Try.func105 rfl (c := cfg) (args := [Sl.v t_0]) rfl (Nat.le_of_ble_eq_true (by kernel_rfl)) drawsOk h
end impl_copied

namespace spec_l2Copy
@[reducible] def cfg : Cfg := ⟨22, [(3, [0, 3, 4])], [(1, [0, 3, 4]), (0, [3])], [], [2], [], [101, 107, 112, 15, 21, 124, 76, 137, 28, 115, 91, 81, 130], [138, 140, 82, 6, 86, 85, 132]⟩
def q2 (pr : Prims) (R : Ending → World → Prop) : Exit → Env → World → Prop := fun ex e w => normQ ex (fun e w => contE pr cfg (sub (codeOf Try.f108) [1, 1, 1]) (fun e w => wpC pr PP cfg (DD pr) (sub (codeOf Try.f108) [1, 1, 1]) (retQ Try.f108.results.toList R) e w) e w) (retQ Try.f108.results.toList R) e w
def q3 (pr : Prims) (R : Ending → World → Prop) : Exit → Env → World → Prop := fun ex e w => blockQ ex 0 (q2 pr R) e w
def emb3 (list_0 : Sl) (out_3 : Sl) (k_4 : Int) : Env := [(0, Sl.v list_0), (3, Sl.v out_3), (4, vI k_4)]
def x0 (out_3 : Sl) : Env := [(3, Sl.v out_3)]
def S3 (pr : Prims) (Q : Exit → Env → World → Prop) : (Env → World → Prop) → Env → World → Prop := fun k e w => wpC pr PP cfg (DD pr) (sub (codeOf Try.f108) [1, 1, 0, 1, 0, 0]) (fun ex e w => normQ ex (fun e' w' => k (Env.restr e' (lookN cfg.loops (keyOf (sub (codeOf Try.f108) [1, 1, 0, 1, 0, 0])))) w') Q e w) e w
def B3 (pr : Prims) (list_0 : Sl) (out_3 : Sl) (k_4 : Int) (w : World) (k : Env → World → Prop) (Q : Exit → Env → World → Prop) : Prop :=
  S3 pr Q k (emb3 list_0 out_3 k_4) w
def L3 (pr : Prims) (list_0 : Sl) (out_3 : Sl) (k_4 : Int) (w : World) (Q : Exit → Env → World → Prop) : Prop :=
  pr.loop (S3 pr Q) (emb3 list_0 out_3 k_4) w
def E (pr : Prims) (list_0 : Sl) (w : World) (R : Ending → World → Prop) : Prop :=
  wpC pr PP cfg (DD pr) (codeOf Try.f108) (retQ Try.f108.results.toList R) (argE 0 [Sl.v list_0]) w
theorem B3_eq (pr : Prims) (list_0 : Sl) (out_3 : Sl) (k_4 : Int) (w : World) (k : Env → World → Prop) (Q : Exit → Env → World → Prop) : B3 pr list_0 out_3 k_4 w k Q = (
  bif decide (k_4 < (list_0.n : Int)) then (
  pr.sem1 .sl PP (Instr.buildSlice T_Sint 0 #[]) w fun (ρ4 : Sl) ω5 =>
  pr.idxK 1 list_0 k_4 fun (a6 : Addr) =>
  pr.load1 .sl a6 ω5 fun (ξ7 : Sl) =>
  pr.sem1 .sl PP (Builtin.append_ #[T_Sint, T_Sint] T_Sint #[Sl.v ρ4, Sl.v ξ7]) ω5 fun (ρ8 : Sl) ω9 =>
  pr.sem1 .sl PP (Instr.buildSlice T_SSint 1 #[(0, Sl.v ρ8)]) ω9 fun (ρ10 : Sl) ω11 =>
  pr.sem1 .sl PP (Builtin.append_ #[T_SSint, T_SSint] T_SSint #[Sl.v out_3, Sl.v ρ10]) ω11 fun (ρ12 : Sl) ω13 =>
  k (emb3 list_0 ρ12 (w64 (k_4 + 1))) ω13)
  else (
  Q (.exit 0) (x0 out_3) w)) := by kernel_rfl
theorem B3_s (list_0 : Sl) (out_3 : Sl) (k_4 : Int) (w : World) (k : Env → World → Prop) (Q : Exit → Env → World → Prop) : B3 std list_0 out_3 k_4 w k Q = (
  bif decide (k_4 < (list_0.n : Int)) then (
  sem1 .sl PP (Instr.buildSlice T_Sint 0 #[]) w fun (ρ4 : Sl) ω5 =>
  idxK 1 list_0 k_4 fun (a6 : Addr) =>
  load1 .sl a6 ω5 fun (ξ7 : Sl) =>
  sem1 .sl PP (Builtin.append_ #[T_Sint, T_Sint] T_Sint #[Sl.v ρ4, Sl.v ξ7]) ω5 fun (ρ8 : Sl) ω9 =>
  sem1 .sl PP (Instr.buildSlice T_SSint 1 #[(0, Sl.v ρ8)]) ω9 fun (ρ10 : Sl) ω11 =>
  sem1 .sl PP (Builtin.append_ #[T_SSint, T_SSint] T_SSint #[Sl.v out_3, Sl.v ρ10]) ω11 fun (ρ12 : Sl) ω13 =>
  k (emb3 list_0 ρ12 (w64 (k_4 + 1))) ω13)
  else (
  Q (.exit 0) (x0 out_3) w)) := B3_eq std list_0 out_3 k_4 w k Q
theorem L3_rule (list_0 : Sl) (out_3 : Sl) (k_4 : Int) (w : World) (Q : Exit → Env → World → Prop) (I : Sl → Int → World → Prop) (μ : Sl → Int → World → Nat) (h0 : I out_3 k_4 w)
    (h : ∀ (out_3 : Sl) (k_4 : Int) (w' : World), I out_3 k_4 w' → B3 std list_0 out_3 k_4 w' (fun e2 w2 => ∃ out_3_n k_4_n, e2 = emb3 list_0 out_3_n k_4_n ∧ I out_3_n k_4_n w2 ∧ μ out_3_n k_4_n w2 < μ out_3 k_4 w') Q) :
    L3 std list_0 out_3 k_4 w Q := by
  unfold L3
  refine LoopE.intro (σ := Sl × Int) (step := S3 std Q) (fun s => emb3 list_0 s.1 s.2) (fun s w => I s.1 s.2 w) (fun s w => μ s.1 s.2 w) (out_3, k_4) rfl h0 ?_
  intro s w' hI
  have h1 := h s.1 s.2 w' hI
  unfold B3 at h1
  simp only [Prod.exists]
  exact h1
theorem A3_0_eq (pr : Prims) (out_3 : Sl) (w : World) (R : Ending → World → Prop) : (q3 pr R) (.exit 0) (x0 out_3) w = (
  R (.returned (Sl.v out_3)) w) := by kernel_rfl
theorem A3_0_s (out_3 : Sl) (w : World) (R : Ending → World → Prop) : (q3 std R) (.exit 0) (x0 out_3) w = (
  R (.returned (Sl.v out_3)) w) := A3_0_eq std out_3 w R
theorem E_eq (pr : Prims) (list_0 : Sl) (w : World) (R : Ending → World → Prop) : E pr list_0 w R = (
  pr.sem1 .sl PP (Instr.buildSlice T_SSint 0 #[]) w fun (ρ0 : Sl) ω1 =>
  L3 pr list_0 ρ0 0 ω1 (q3 pr R)) := by kernel_rfl
theorem E_s (list_0 : Sl) (w : World) (R : Ending → World → Prop) : E std list_0 w R = (
  sem1 .sl PP (Instr.buildSlice T_SSint 0 #[]) w fun (ρ0 : Sl) ω1 =>
  L3 std list_0 ρ0 0 ω1 (q3 std R)) := E_eq std list_0 w R
theorem drawsOk : drawsOk PP cfg okD (codeOf Try.f108) = true := by kernel_rfl
theorem calls (list_0 : Sl) {w : World} {R : Ending → World → Prop} (h : E std list_0 w R) : Calls PP F.spec_l2Copy #[Sl.v list_0] w R :=
  calls_of noCount mixed drawOk Try.func108 rfl (c := cfg) (args := [Sl.v list_0]) rfl (Nat.le_of_ble_eq_true (by kernel_rfl)) drawsOk h
end spec_l2Copy

end Go.Proofs.Ytdchjhhpbdekeaa

/- What each function does, step by step, written by a program (Gen.lean); each equation is checked by the kernel. -/
namespace Go.Proofs.Ytdchjhhpbdekeaa
open Go
set_option linter.unusedVariables false
set_option maxRecDepth 100000
namespace slices_Clone___int_int_
@[reducible] def cfg : Cfg := ⟨8, [], [], [], [2], [], [101, 107, 112, 15, 21, 124, 76, 137, 28, 115, 91, 81, 130], [138, 140, 82, 6, 86, 85, 132]⟩
def E (pr : Prims) (s_0 : Sl) (w : World) (R : Ending → World → Prop) : Prop :=
  wpC pr PP cfg (DD pr) (codeOf Try.f125) (retQ Try.f125.results.toList R) (argE 0 [Sl.v s_0]) w
theorem E_eq (pr : Prims) (s_0 : Sl) (w : World) (R : Ending → World → Prop) : E pr s_0 w R = (
  bif s_0.a.isNone then (
  R (.returned (Sl.v Sl.nil)) w)
  else (
  pr.sem1 .sl PP (Instr.buildSlice T_Sint 0 #[]) w fun (ρ0 : Sl) ω1 =>
  pr.sem1 .sl PP (Builtin.append_ #[T_Sint, T_Sint] T_Sint #[Sl.v ρ0, Sl.v s_0]) ω1 fun (ρ2 : Sl) ω3 =>
  R (.returned (Sl.v ρ2)) ω3)) := by kernel_rfl
theorem E_s (s_0 : Sl) (w : World) (R : Ending → World → Prop) : E std s_0 w R = (
  bif s_0.a.isNone then (
  R (.returned (Sl.v Sl.nil)) w)
  else (
  sem1 .sl PP (Instr.buildSlice T_Sint 0 #[]) w fun (ρ0 : Sl) ω1 =>
  sem1 .sl PP (Builtin.append_ #[T_Sint, T_Sint] T_Sint #[Sl.v ρ0, Sl.v s_0]) ω1 fun (ρ2 : Sl) ω3 =>
  R (.returned (Sl.v ρ2)) ω3)) := E_eq std s_0 w R
theorem drawsOk : drawsOk PP cfg okD (codeOf Try.f125) = true := by kernel_rfl
theorem calls (s_0 : Sl) {w : World} {R : Ending → World → Prop} (h : E std s_0 w R) : Calls PP F.slices_Clone___int_int_ #[Sl.v s_0] w R :=
  calls_of noCount mixed drawOk Try.func125 rfl (c := cfg) (args := [Sl.v s_0]) rfl (Nat.le_of_ble_eq_true (by kernel_rfl)) drawsOk h
end slices_Clone___int_int_

end Go.Proofs.Ytdchjhhpbdekeaa

/- Rows given by a function of the place. -/
namespace Go.Proofs.Ytdchjhhpbdekeaa
open Go Go.RowKit
set_option maxRecDepth 100000

def tab (n : Nat) (f : Nat → Int) : List Int := (List.range n).map f
theorem tab_length (n : Nat) (f : Nat → Int) : (tab n f).length = n := by simp [tab]
theorem tab_getD {n : Nat} (f : Nat → Int) {i : Nat} (h : i < n) : (tab n f).getD i 0 = f i := by simp [tab, List.getD_eq_getElem?_getD, h]
theorem tab_set {n : Nat} (f : Nat → Int) (i : Nat) (v : Int) : (tab n f).set i v = tab n (fun j => if j = i then v else f j) := by
  apply List.ext_getElem?
  intro k
  simp only [tab, List.getElem?_set, List.getElem?_map, List.length_map, List.length_range]
  by_cases hk : k < n
  · rw [List.getElem?_range hk]
    by_cases hik : i = k
    · subst hik; simp [hk]
    · simp [hik, Ne.symm hik]
  · rw [List.getElem?_eq_none (by simpa using hk)]
    by_cases hik : i = k
    · subst hik; simp [hk]
    · simp [hik]
theorem tab_congr {n : Nat} {f g : Nat → Int} (h : ∀ j, j < n → f j = g j) : tab n f = tab n g := by
  unfold tab; apply List.map_congr_left; intro j hj; exact h j (by simpa using hj)
theorem grownBy_trans {a b c : World} {r : Option Nat} (h : a.grownBy b r) (k : b.grownBy c r) : a.grownBy c r :=
  ⟨k.os.trans h.os, k.tape.trans h.tape, k.output.trans h.output, Nat.le_trans h.size k.size, fun x hx hne => (k.block x (Nat.lt_of_lt_of_le hx h.size) hne).trans (h.block x hx hne)⟩
theorem grownBy_refl (a : World) (r : Option Nat) : a.grownBy a r := ⟨rfl, rfl, rfl, Nat.le_refl _, fun _ _ _ => rfl⟩
theorem Drew.grownBy {a b : World} (h : Drew a b) (r : Option Nat) : a.grownBy b r := by obtain ⟨n, rfl⟩ := h; exact ⟨rfl, rfl, rfl, Nat.le_refl _, fun _ _ _ => rfl⟩
theorem tab_succ (n : Nat) (f : Nat → Int) : tab (n + 1) f = tab n f ++ [f n] := by simp [tab, List.range_succ]
theorem tab_self (L : List Int) : tab L.length (fun k => L.getD k 0) = L := by
  apply List.ext_getElem?
  intro k
  by_cases hk : k < L.length
  · simp [tab, List.getElem?_range hk, List.getD_eq_getElem?_getD, List.getElem?_eq_getElem hk, hk]
  · rw [List.getElem?_eq_none (by simp [tab]; omega), List.getElem?_eq_none (by omega)]
theorem tab_reverse (L : List Int) : tab L.length (fun k => L.getD (L.length - 1 - k) 0) = L.reverse := by
  apply List.ext_getElem?
  intro k
  by_cases hk : k < L.length
  · rw [List.getElem?_reverse hk]
    simp [tab, List.getElem?_range hk, List.getD_eq_getElem?_getD, List.getElem?_eq_getElem (show L.length - 1 - k < L.length by omega)]
  · rw [List.getElem?_eq_none (by simp [tab]; omega), List.getElem?_eq_none (by simp; omega)]
end Go.Proofs.Ytdchjhhpbdekeaa

/- The library's Clone of a row of ints. -/
namespace Go.Proofs.Ytdchjhhpbdekeaa
open Go Go.RowKit
set_option maxRecDepth 100000

theorem c_Clone {w : World} {a : Sl} {L : List Int} (ha : RowI w a L) (hL : L.length < 2^38) :
    Calls PP F.slices_Clone___int_int_ #[a.v] w fun e w' => ∃ s : Sl, e = .returned s.v ∧ OwnI w' w.heap.size s L ∧ Below w.heap.size w w' := by
  refine slices_Clone___int_int_.calls a ?_
  rw [slices_Clone___int_int_.E_s]
  refine bif_intro (fun h => ?_) (fun h => ?_)
  · have : L = [] := by
      cases L with
      | nil => rfl
      | cons x r => obtain ⟨b, hb, _⟩ := ha.cell 0 (vI x) rfl; rw [hb] at h; cases h
    subst this
    exact ⟨Sl.nil, rfl, Own.nil _ _ _, Below.refl _ _⟩
  · refine lit0 oneInt (B := w.heap.size) (Nat.le_refl _) ?_
    intro t w1 ht hg _
    have hb := below_of_grow hg
    refine append_row oneInt ht hb.size (ha.grow hb) (fun v hv => by obtain ⟨x, _, rfl⟩ := List.mem_map.1 hv; exact One.int x) (by simp; omega) ?_
    intro s w2 hs hg2 _ _
    exact ⟨s, rfl, by simpa using hs, hb.grown hg2 hb.size (fun g hg => (ht.lt g hg).1)⟩
end Go.Proofs.Ytdchjhhpbdekeaa

/- Copies of a table. -/
namespace Go.Proofs.Ytdchjhhpbdekeaa
open Go Go.RowKit
set_option maxRecDepth 100000

theorem c_l2Copy {w : World} {a : Sl} {LL : List (List Int)} (ha : RowSS w a LL) (hL : LL.length < 2^38) (ht : tot LL < 2^38) :
    Calls PP F.spec_l2Copy #[a.v] w fun e w' => ∃ (s : Sl) (rs : List Sl), e = .returned s.v ∧ OwnRows w' w.heap.size s rs LL ∧ Below w.heap.size w w' := by
  have han := ha.n
  refine spec_l2Copy.calls a ?_
  rw [spec_l2Copy.E_s]
  refine lit0 oneSint (B := w.heap.size) (Nat.le_refl _) ?_
  intro s0 w1 hs0 hg1 _
  refine spec_l2Copy.L3_rule _ _ _ _ _ (I := fun s k w' => 0 ≤ k ∧ k ≤ LL.length ∧ OwnSS w' w.heap.size s (LL.take k.toNat) ∧ Below w.heap.size w w') (μ := fun _ k _ => (LL.length - k).toNat)
    ⟨by omega, by omega, OwnSS.nil hs0, below_of_grow hg1⟩ ?_
  rintro s k w2 ⟨h0, hk, ho, hb⟩
  rw [spec_l2Copy.B3_s, han]
  refine bif_dec (fun h3 => ?_) (fun h3 => ?_)
  · have hlt : k.toNat < LL.length := by omega
    refine lit0 oneInt (B := w2.heap.size) (Nat.le_refl _) ?_
    intro t0 w3 ht0 hg3 hc3
    have hb3 := below_of_grow hg3
    have hb23 := hb.trans (hb3.mono hb.size)
    have h40 := len_le_tot (List.getElem_mem hlt)
    refine RowSS.get (ha.grow hb23) h0 (by omega) fun r hr => ?_
    rw [getD_SS hlt] at hr
    refine append_row oneInt ht0 hb3.size hr (fun v hv => by obtain ⟨x, _, rfl⟩ := List.mem_map.1 hv; exact One.int x) (by simp; omega) ?_
    intro t1 w4 ht1 hg4 hn4 _
    have hb4 : Below w2.heap.size w2 w4 := hb3.grown hg4 hb3.size (fun g hg => (ht0.lt g hg).1)
    refine append_new ho hb4 hb.size (r := t1) (L := LL[k.toNat]) (by simpa [OwnI] using ht1) (by rw [List.length_take]; omega) ?_
    intro s' w5 ho5 hg5 hn5
    have hb24 := hb.trans (hb4.mono hb.size)
    refine ⟨s', k + 1, by rw [w64_succ h0 (by omega)], ⟨by omega, by omega, ?_, hb24.grown hg5 hb24.size (fun g hg => (ho.lt g hg).1)⟩, by omega⟩
    rw [show (k + 1).toNat = k.toNat + 1 by omega, List.take_succ_eq_append_getElem hlt]
    exact ho5
  · rw [spec_l2Copy.A3_0_s]
    rw [show k.toNat = LL.length by omega, List.take_length] at ho
    obtain ⟨rs, ho⟩ := ho
    exact ⟨s, rs, rfl, ho, hb⟩
theorem c_copied {w : World} {a : Sl} {LL : List (List Int)} (ha : RowSS w a LL) (hL : LL.length < 2^38) (ht : tot LL < 2^38) :
    Calls PP F.impl_copied #[a.v] w fun e w' => ∃ (s : Sl) (rs : List Sl), e = .returned s.v ∧ OwnRows w' w.heap.size s rs LL ∧ Below w.heap.size w w' := by
  have han := ha.n
  refine impl_copied.calls a ?_
  rw [impl_copied.E_s]
  refine lit0 oneSint (B := w.heap.size) (Nat.le_refl _) ?_
  intro s0 w1 hs0 hg1 _
  refine impl_copied.L3_rule _ _ _ _ _ _ (I := fun s k w' => 0 ≤ k ∧ k ≤ LL.length ∧ OwnSS w' w.heap.size s (LL.take k.toNat) ∧ Below w.heap.size w w') (μ := fun _ k _ => (LL.length - k).toNat)
    ⟨by omega, by omega, OwnSS.nil hs0, below_of_grow hg1⟩ ?_
  rintro s k w2 ⟨h0, hk, ho, hb⟩
  rw [impl_copied.B3_s, han]
  refine bif_dec (fun h3 => ?_) (fun h3 => ?_)
  · have hlt : k.toNat < LL.length := by omega
    have h40 := len_le_tot (List.getElem_mem hlt)
    refine RowSS.get (ha.grow hb) h0 (by omega) fun r hr => ?_
    rw [getD_SS hlt] at hr
    refine (c_Clone hr (by omega)).mono ?_
    rintro e w4 ⟨t1, rfl, ht1, hb4⟩
    refine ⟨t1, rfl, ?_⟩
    refine append_new ho hb4 hb.size (r := t1) (L := LL[k.toNat]) ht1 (by rw [List.length_take]; omega) ?_
    intro s' w5 ho5 hg5 hn5
    have hb24 := hb.trans (hb4.mono hb.size)
    refine ⟨s', k + 1, by rw [w64_succ h0 (by omega)], ⟨by omega, by omega, ?_, hb24.grown hg5 hb24.size (fun g hg => (ho.lt g hg).1)⟩, by omega⟩
    rw [show (k + 1).toNat = k.toNat + 1 by omega, List.take_succ_eq_append_getElem hlt]
    exact ho5
  · rw [impl_copied.A3_0_s]
    rw [show k.toNat = LL.length by omega, List.take_length] at ho
    obtain ⟨rs, ho⟩ := ho
    exact ⟨s, rs, rfl, ho, hb⟩
end Go.Proofs.Ytdchjhhpbdekeaa

/- All tableaux of a form, as lists. -/
namespace Go.Proofs.Ytdchjhhpbdekeaa
open Go Go.RowKit
set_option maxRecDepth 100000

def okR (F : List Int) (T : List (List Int)) (r : Nat) : Prop := ((T.getD r []).length : Int) < F.getD r 0 ∧ (r = 0 ∨ (T.getD r []).length < (T.getD (r - 1) []).length)
open Classical in
noncomputable def fillV (F : List Int) : Nat → List (List Int) → Int → List (List (List Int))
  | 0, T, _ => [T]
  | m + 1, T, n => (List.range F.length).flatMap fun r => if okR F T r then fillV F m (T.set r (T.getD r [] ++ [n])) (n + 1) else []
open Classical in
noncomputable def fillR (F : List Int) (m : Nat) (T : List (List Int)) (n : Int) (r : Nat) : List (List (List Int)) := (List.range r).flatMap fun r => if okR F T r then fillV F m (T.set r (T.getD r [] ++ [n])) (n + 1) else []
theorem fillV_succ (F : List Int) (m : Nat) (T : List (List Int)) (n : Int) : fillV F (m + 1) T n = fillR F m T n F.length := rfl
open Classical in
theorem fillR_succ (F : List Int) (m : Nat) (T : List (List Int)) (n : Int) (r : Nat) : fillR F m T n (r + 1) = fillR F m T n r ++ if okR F T r then fillV F m (T.set r (T.getD r [] ++ [n])) (n + 1) else [] := by
  rw [fillR, List.range_succ, List.flatMap_append]; simp [fillR]
mutual
theorem fillV_len (F : List Int) : ∀ (m : Nat) (T : List (List Int)) (n : Int), (fillV F m T n).length ≤ F.length ^ m
  | 0, _, _ => by simp [fillV]
  | m + 1, T, n => by
    rw [fillV_succ]
    have := fillR_len F m T n F.length
    rw [Nat.pow_succ, Nat.mul_comm]; exact this
theorem fillR_len (F : List Int) (m : Nat) (T : List (List Int)) (n : Int) : ∀ r, (fillR F m T n r).length ≤ r * F.length ^ m
  | 0 => by simp [fillR]
  | r + 1 => by
    have h1 := fillR_len F m T n r
    rw [fillR_succ, List.length_append]
    have h2 : (r + 1) * F.length ^ m = r * F.length ^ m + F.length ^ m := by rw [Nat.add_mul, Nat.one_mul]
    split
    · have := fillV_len F m (T.set r (T.getD r [] ++ [n])) (n + 1); omega
    · simp; omega
end
theorem tot_set {T : List (List Int)} {r : Nat} (h : r < T.length) (L : List Int) : tot (T.set r L) + (T.getD r []).length = tot T + L.length := by
  have h1 : T = T.take r ++ T.getD r [] :: T.drop (r + 1) := by rw [getD_SS h]; simp
  rw [List.set_eq_take_append_cons_drop, if_pos h]
  conv => rhs; rw [h1]
  rw [tot_append, tot_append, tot_cons, tot_cons]; omega
theorem fill_shape (F : List Int) : ∀ (m : Nat) (T : List (List Int)) (n : Int), T.length = F.length → ∀ U ∈ fillV F m T n, U.length = F.length ∧ tot U = tot T + m
  | 0, T, _, h, U, hU => by simp [fillV] at hU; subst hU; exact ⟨h, rfl⟩
  | m + 1, T, n, h, U, hU => by
    classical
    rw [fillV, List.mem_flatMap] at hU
    obtain ⟨r, hr, hU⟩ := hU
    rw [List.mem_range] at hr
    split at hU
    · obtain ⟨h1, h2⟩ := fill_shape F m _ _ (by rw [List.length_set]; exact h) U hU
      have h3 := tot_set (T := T) (r := r) (by omega) (T.getD r [] ++ [n])
      rw [List.length_append, List.length_singleton] at h3
      exact ⟨h1, by omega⟩
    · cases hU
theorem tot3_le_of {G : List (List (List Int))} {c : Nat} (h : ∀ U ∈ G, U.length + tot U ≤ c) : tot3 G ≤ G.length * c := by
  induction G with
  | nil => simp [tot3]
  | cons U G ih =>
    have e : tot3 (U :: G) = (U.length + tot U) + tot3 G := by simp [tot3]
    have h1 := h U (by simp)
    have h2 := ih fun V hV => h V (by simp [hV])
    rw [e, List.length_cons, Nat.add_mul, Nat.one_mul]; omega
end Go.Proofs.Ytdchjhhpbdekeaa

/- TableauxOf: the model's text. -/
namespace Go.Proofs.Ytdchjhhpbdekeaa
open Go Go.RowKit
set_option maxRecDepth 100000

/-- What a step that fills does to the list of tables. -/
structure Filled (w w' : World) (B : Nat) (s s' : Sl) (G H : List Grp) (V : List (List (List Int))) : Prop where
  own : OwnS3 w' B s' (G ++ H)
  val : vals H = V
  new : ∀ g ∈ H, ∀ x, g.foot x → w.heap.size ≤ x
  stp : Stp w w' (fun x => s.blk = some x) (fun x => s'.blk = some x)
theorem w64_add {a b : Int} (h1 : -1000000 ≤ a) (h2 : a ≤ 1000000) (h3 : -1000000 ≤ b) (h4 : b ≤ 1000000) : w64 (a + b) = a + b := w64_id (by omega) (by omega)
set_option maxHeartbeats 1000000 in
theorem c_l19Fill {Fo : List Int} (hF : Fo.length ≤ 8) : ∀ (m : Nat) {w : World} {B Bf Bt : Nat} {f t out : Sl} {rt : List Sl} {T : List (List Int)} {G : List Grp} (n size : Int), OwnI w Bf f Fo → OwnRows w Bt t rt T → OwnS3 w B out G → B ≤ w.heap.size → T.length = Fo.length → tot T + m ≤ 100 → size + 1 - n = m → 0 ≤ n → size ≤ 1000 → G.length + Fo.length ^ m ≤ 2^37 →
    Calls PP F.spec_l19Fill #[f.v, t.v, vI n, vI size, out.v] w fun e w' => ∃ s' H, e = .returned s'.v ∧ Filled w w' B out s' G H (fillV Fo m T n)
  | 0, w, B, Bf, Bt, f, t, out, rt, T, G, n, size, hf, ht, ho, hB, hTl, htot, hm, hn0, hn1, hG => by
    refine spec_l19Fill.calls f t n size out ?_
    rw [spec_l19Fill.E_s]
    refine bif_t (decide_eq_true (by omega)) ?_
    refine (c_l2Copy ht.row (by omega) (by omega)).mono ?_
    rintro e w1 ⟨c, rc, rfl, hc, hb1⟩
    refine ⟨c, rfl, ?_⟩
    have ho1 := ho.grow hb1
    refine append_s3 (g := ⟨c, rc, T⟩) ho1 (Nat.le_trans hB hb1.size) (hc.mono hB) (fun g hg x h1 h2 => by have := (ho.footLt (.inr ⟨g, hg, h1⟩)).2; have := (hc.footLt h2).1; omega) (by rw [Nat.pow_zero] at hG; omega) ?_
    intro s' w2 ho2 hg2 hn2
    refine ⟨s', [⟨c, rc, T⟩], rfl, ho2, by simp [fillV], fun g hg x hx => ?_, ?_, fun x hx => ?_⟩
    · simp at hg; subst hg; exact (hc.footLt hx).1
    · exact ((keeps_grown (grow_of_below hb1)).mono fun k e => (by cases e)).trans (keeps_grown hg2)
    · exact (hn2 x hx).imp id fun h => by have := hb1.size; omega
  | m + 1, w, B, Bf, Bt, f, t, out, rt, T, G, n, size, hf, ht, ho, hB, hTl, htot, hm, hn0, hn1, hG => by
    have hfn : f.n = Fo.length := by have := hf.n; simpa using this
    have htn := ht.n
    have hfp : Fo.length ^ (m + 1) = Fo.length * Fo.length ^ m := by rw [Nat.pow_succ, Nat.mul_comm]
    have hrow : ∀ r, r < T.length → (T.getD r []).length ≤ 100 := fun r hr => by
      have := len_le_tot (show T.getD r [] ∈ T by rw [getD_SS hr]; exact List.getElem_mem hr)
      omega
    refine spec_l19Fill.calls f t n size out ?_
    rw [spec_l19Fill.E_s]
    refine bif_f (decide_eq_false (by omega)) ?_
    refine spec_l19Fill.L4_rule _ _ _ _ _ _ _ _ (I := fun o r w' => 0 ≤ r ∧ r ≤ Fo.length ∧ ∃ H, Filled w w' B out o G H (fillR Fo m T n r.toNat)) (μ := fun _ r _ => (Fo.length - r).toNat)
      ⟨by omega, by omega, [], by simpa using ho, by simp [fillR], fun g hg => (by cases hg), Stp.refl _ _⟩ ?_
    rintro o r w1 ⟨hr0, hr, H, hO, hv, hnew, hst⟩
    have hk1 := hst.keeps
    have hf1 : OwnI w1 Bf f Fo := Own.keeps hf hk1 fun x h1 h2 => (ho.out.apt hf (Ne.symm ne_int_SSint)) x h2 h1
    have ht1 : OwnRows w1 Bt t rt T := ht.keepsF hk1 fun x h1 h2 => OwnRows.outer ho.out ht h2 h1
    have hB1 : B ≤ w1.heap.size := Nat.le_trans hB hk1.size
    have hHl : H.length = (fillR Fo m T n r.toNat).length := by rw [← hv]; simp
    have hHb := fillR_len Fo m T n r.toNat
    rw [spec_l19Fill.B4_s, hfn]
    refine bif_dec (fun h3 => ?_) (fun h3 => ?_)
    · have hltF : r.toNat < Fo.length := by omega
      have hltT : r.toNat < T.length := by omega
      have hRl := hrow r.toNat hltT
      have es : (r + 1).toNat = r.toNat + 1 := by omega
      have er : w64 (r + 1) = r + 1 := w64_succ hr0 (by omega)
      -- nothing is put in
      have stay : ∀ w2, Drew w1 w2 → ¬ okR Fo T r.toNat → ∃ o_n r_n, spec_l19Fill.emb4 f t n size o (w64 (r + 1)) = spec_l19Fill.emb4 f t n size o_n r_n ∧ (0 ≤ r_n ∧ r_n ≤ Fo.length ∧ ∃ H, Filled w w2 B out o_n G H (fillR Fo m T n r_n.toNat)) ∧ ((Fo.length : Int) - r_n).toNat < ((Fo.length : Int) - r).toNat := by
        intro w2 hd2 hno
        refine ⟨o, r + 1, by rw [er], ⟨by omega, by omega, H, ⟨hO.heap hd2.heap', ?_, hnew, hst.trans (Stp.grow (hd2.below _))⟩⟩, by omega⟩
        rw [es, fillR_succ, if_neg hno, List.append_nil]; exact hv
      -- a number is put in
      have step : ∀ w2, Drew w1 w2 → okR Fo T r.toNat → call1 .sl PP F.spec_l2Copy #[t.v] w2 fun (ρ : Sl) w3 => idxK 1 ρ r fun a5 => load1 .sl a5 w3 fun (ξ : Sl) => sem1 .sl PP (Instr.buildSlice T_Sint 1 #[(0, vI n)]) w3 fun (ρ7 : Sl) w4 =>
          sem1 .sl PP (Builtin.append_ #[T_Sint, T_Sint] T_Sint #[ξ.v, ρ7.v]) w4 fun (ρ9 : Sl) w5 => idxK 1 ρ r fun a6 => storeC a6 ρ9.v w5 fun w6 => call1 .sl PP F.spec_l19Fill #[f.v, ρ.v, vI (w64 (n + 1)), vI size, o.v] w6 fun (ρ23 : Sl) w7 =>
          ∃ o_n r_n, spec_l19Fill.emb4 f t n size ρ23 (w64 (r + 1)) = spec_l19Fill.emb4 f t n size o_n r_n ∧ (0 ≤ r_n ∧ r_n ≤ Fo.length ∧ ∃ H, Filled w w7 B out o_n G H (fillR Fo m T n r_n.toNat)) ∧ ((Fo.length : Int) - r_n).toNat < ((Fo.length : Int) - r).toNat := by
        intro w2 hd2 hok
        have hh := hd2.heap'
        have hst2 : Stp w w2 (fun x => out.blk = some x) (fun x => o.blk = some x) := hst.trans (Stp.grow (hd2.below _))
        refine (c_l2Copy (ht1.heap hh).row (by omega) (by omega)).mono ?_
        rintro e w3 ⟨c, rc, rfl, hc, hb3⟩
        refine ⟨c, rfl, ?_⟩
        refine hc.appendAtF hr0 (by omega) hb3.size (by omega) fun w6 rc' hc6 hst6 => ?_
        have hb26 : Below w2.heap.size w2 w6 := hb3.trans (hst6.below (fun g hg => (hc.footLt hg).1) hb3.size)
        have hO6 := (hO.heap hh).grow hb26
        have hf6 := Own.grow (Own.heap hf1 hh) hb26
        have hB2 : B ≤ w2.heap.size := by rw [hh]; exact hB1
        rw [w64_add (a := n) (b := 1) (by omega) (by omega) (by omega) (by omega)]
        have hX : (r.toNat + 1) * Fo.length ^ m ≤ Fo.length * Fo.length ^ m := Nat.mul_le_mul_right _ (by omega)
        have hX2 : (r.toNat + 1) * Fo.length ^ m = r.toNat * Fo.length ^ m + Fo.length ^ m := by rw [Nat.add_mul, Nat.one_mul]
        have htt := tot_set hltT (T.getD r.toNat [] ++ [n])
        rw [List.length_append, List.length_singleton] at htt
        refine (c_l19Fill hF m (n + 1) size hf6 hc6 hO6 (Nat.le_trans hB2 hb26.size) (by rw [List.length_set]; exact hTl) (by omega) (by omega) (by omega) (by omega) (by rw [List.length_append]; omega)).mono ?_
        rintro e w7 ⟨s', H2, rfl, h7⟩
        refine ⟨s', rfl, s', r + 1, by rw [er], ⟨by omega, by omega, H ++ H2, ⟨by rw [← List.append_assoc]; exact h7.own, ?_, fun g hg x hx => ?_, (hst2.trans (Stp.grow hb26)).trans h7.stp⟩⟩, by omega⟩
        · rw [es, fillR_succ, if_pos hok, ← hv, ← h7.val]; simp
        · rcases List.mem_append.1 hg with hg | hg
          · exact hnew g hg x hx
          · have := h7.new g hg x hx; have := hb26.size; have := hst2.keeps.size; omega
      refine ht1.load hr0 (by omega) fun ρ _ hρ => ?_
      have hρn : ρ.n = (T.getD r.toNat []).length := by have := hρ.n; simpa using this
      refine RowI.get hf1.row hr0 (by omega) ?_
      rw [hρn]
      refine bif_dec (fun h4 => ?_) (fun h4 => ?_)
      · refine bif_intro (fun h5 => ?_) (fun h5 => ?_)
        · have h5' : r = 0 := eq_of_beq h5
          refine drew_intro fun w2 hd2 => ?_
          exact step w2 hd2 ⟨h4, .inl (by omega)⟩
        · have h5' : r ≠ 0 := ne_of_beq_false h5
          have e1 : w64 (r - 1) = r - 1 := w64_id (by omega) (by omega)
          rw [e1]
          refine ht1.load hr0 (by omega) fun ρ2 _ hρ2 => ?_
          have hρ2n : ρ2.n = (T.getD r.toNat []).length := by have := hρ2.n; simpa using this
          refine ht1.load (i := r - 1) (by omega) (by omega) fun ρ3 _ hρ3 => ?_
          have hρ3n : ρ3.n = (T.getD (r - 1).toNat []).length := by have := hρ3.n; simpa using this
          rw [hρ2n, hρ3n, show (r - 1).toNat = r.toNat - 1 by omega]
          refine drew_intro fun w2 hd2 => ?_
          refine bif_dec (fun h6 => ?_) (fun h6 => ?_)
          · exact step w2 hd2 ⟨h4, .inr (by omega)⟩
          · exact stay w2 hd2 fun hh => by rcases hh.2 with h7 | h7 <;> omega
      · refine drew_intro fun w2 hd2 => ?_
        exact stay w2 hd2 fun hh => h4 hh.1
    · rw [spec_l19Fill.A4_0_s]
      refine ⟨o, H, rfl, hO, ?_, hnew, hst⟩
      rw [fillV_succ, show Fo.length = r.toNat by omega]; exact hv
open Classical in
noncomputable def TableauxOfV (Fo : List Int) : List (List (List Int)) := if FormOk Fo 6 then fillV Fo (sm Fo Fo.length).toNat (List.replicate Fo.length []) 1 else []
theorem formOk_facts {Fo : List Int} (h : FormOk Fo 6) : Fo.length ≤ 6 ∧ 0 ≤ sm Fo Fo.length ∧ sm Fo Fo.length ≤ 6 ∧ ∀ k, k ≤ Fo.length → 0 ≤ sm Fo k ∧ sm Fo k ≤ 6 := by
  have h1 := sm_ge (L := Fo) (k := Fo.length) fun j hj => (h j hj).1
  have h2 : ∀ k, k ≤ Fo.length → 0 ≤ sm Fo k ∧ sm Fo k ≤ 6 := fun k hk => by
    have h3 := sm_ge (L := Fo) (k := k) fun j hj => (h j (by omega)).1
    refine ⟨by omega, ?_⟩
    cases k with
    | zero => simp [sm]
    | succ k => have := (h k (by omega)).2.1; rw [sm]; exact this
  have := h2 Fo.length (Nat.le_refl _)
  exact ⟨by omega, by omega, this.2, h2⟩
theorem pow_small {a m : Nat} (ha : a ≤ 6) (hm : m ≤ 6) : a ^ m ≤ 46656 := Nat.le_trans (Nat.pow_le_pow_left ha m) (Nat.pow_le_pow_right (by omega) hm)
theorem tot_replicate (k : Nat) : tot (List.replicate k []) = 0 := by simp [tot]
open Classical in
theorem c_specTableauxOf {w : World} {Bf : Nat} {f : Sl} {Fo : List Int} (hf : OwnI w Bf f Fo) (hL : Fo.length < 2^38) :
    Calls PP F.spec_TableauxOf #[f.v] w fun e w' => ∃ (s : Sl) (G : List Grp), e = .returned s.v ∧ OwnS3 w' w.heap.size s G ∧ vals G = TableauxOfV Fo ∧ Below w.heap.size w w' := by
  have hfn : f.n = Fo.length := by have := hf.n; simpa using this
  refine spec_TableauxOf.calls f ?_
  rw [spec_TableauxOf.E_s]
  refine lit0 oneS3 (B := w.heap.size) (Nat.le_refl _) ?_
  intro o w1 ho hg1 hoc
  have hb1 := below_of_grow hg1
  refine Quiet.call1 (s := .bool) (c_l19Form (hf.row.grow hb1) (by omega) (most := 6) (by omega) (by omega)) ?_
  intro w2 hd2
  have hb2 := hb1.trans (hd2.below _)
  have hO2 := (OwnS3.nil ho).heap hd2.heap'
  refine bif_intro (fun h => ?_) (fun h => ?_)
  · have hn : ¬ FormOk Fo 6 := by simpa using h
    rw [TableauxOfV, if_neg hn]
    exact ⟨o, [], rfl, hO2, rfl, hb2⟩
  have hP : FormOk Fo 6 := by simpa using h
  rw [TableauxOfV, if_pos hP]
  obtain ⟨f1, f2, f3, f4⟩ := formOk_facts hP
  refine lit0 oneSint (B := w.heap.size) hb2.size ?_
  intro t0 w3 ht0 hg3 htc
  have hb3 := below_of_grow hg3
  have hb03 := hb2.trans (hb3.mono hb2.size)
  refine spec_TableauxOf.L7_rule _ _ _ _ _ _ _ (I := fun t z r w' => 0 ≤ r ∧ r ≤ Fo.length ∧ z = sm Fo r.toNat ∧ Below w.heap.size w w' ∧ OwnS3 w' w.heap.size o [] ∧ ∃ rt, OwnRows w' w.heap.size t rt (List.replicate r.toNat [])) (μ := fun _ _ r _ => (Fo.length - r).toNat)
    ⟨by omega, by omega, rfl, hb03, hO2.grow hb3, [], OwnRows.nil ht0⟩ ?_
  rintro t z r w4 ⟨hr0, hr, rfl, hb4, hO4, rt, ht4⟩
  rw [spec_TableauxOf.B7_s, hfn]
  refine bif_dec (fun h3 => ?_) (fun h3 => ?_)
  · refine lit0 oneInt hb4.size ?_
    intro e5 w5 he5 hg5 hec
    have hb5 := below_of_grow hg5
    refine ht4.pushF hb5 hb4.size (r := e5) (L := []) (by simpa [OwnI] using he5) (fun g hg => by simp [Sl.blk, hec] at hg) (by rw [List.length_replicate]; omega) ?_
    intro t6 w6 ht6 hst6
    have hb46 : Below w.heap.size w4 w6 := hst6.below (fun g hg => (ht4.footLt hg).1) hb4.size
    have hb06 := hb4.trans hb46
    have hO6 : OwnS3 w6 w.heap.size o [] := hO4.keepsF hst6.keeps fun x h5 h6 => by
      rcases h5 with h5 | ⟨g, hg, _⟩
      · exact OwnRows.outer hO4.out ht4 h5 h6
      · cases hg
    have hf6 := hf.row.grow hb06
    refine RowI.get hf6 hr0 (by omega) ?_
    have h7 := f4 r.toNat (by omega)
    have h8 := f4 (r.toNat + 1) (by omega)
    rw [sm] at h8
    refine ⟨t6, _, r + 1, by rw [w64_succ hr0 (by omega), w64_id (by omega) (by omega)], ⟨by omega, by omega, by rw [show (r + 1).toNat = r.toNat + 1 by omega, sm], hb06, hO6, rt ++ [e5], ?_⟩, by omega⟩
    rw [show (r + 1).toNat = r.toNat + 1 by omega, List.replicate_succ']; exact ht6
  · rw [spec_TableauxOf.A7_0_s]
    rw [show r.toNat = Fo.length by omega] at ht4 ⊢
    obtain ⟨mN, hm⟩ : ∃ mN : Nat, sm Fo Fo.length = mN := ⟨(sm Fo Fo.length).toNat, by omega⟩
    rw [hm, Int.toNat_natCast]
    have hf4 : OwnI w4 Bf f Fo := Own.grow hf hb4
    refine (c_l19Fill (Fo := Fo) (by omega) mN 1 mN hf4 ht4 hO4 hb4.size (by rw [List.length_replicate]) (by rw [tot_replicate]; omega) (by omega) (by omega) (by omega) (by have := pow_small (a := Fo.length) (m := mN) f1 (by omega); simp; omega)).mono ?_
    rintro e w5 ⟨s', H, rfl, h5⟩
    refine ⟨s', rfl, s', H, rfl, by simpa using h5.own, h5.val, hb4.trans (h5.stp.below (fun g hg => (hO4.out.lt g hg).1) hb4.size)⟩
end Go.Proofs.Ytdchjhhpbdekeaa

/- Tableaux: the model's test, forms, and the laws of both. -/
namespace Go.Proofs.Ytdchjhhpbdekeaa
open Go Go.RowKit
set_option maxRecDepth 100000

def ascS (LL : List (List Int)) (i j : Nat) : Prop := (0 < j → at2 LL i (j - 1) < at2 LL i j) ∧ (0 < i → at2 LL (i - 1) j < at2 LL i j)
theorem IsTab.strict {LL : List (List Int)} (h : IsTab LL) {i j : Nat} (hi : i < LL.length) (hj : j < (LL.getD i []).length) : ascS LL i j := by
  have h1 := h.asc i j hi hj
  refine ⟨fun h0 => ?_, fun h0 => ?_⟩
  · have := h1.1 h0
    have := nodup_row h.perm.nodup hi hj (k := j - 1) (by omega)
    omega
  · have := h1.2 h0
    have := h.form.step hi h0
    have := nodup_col h.perm.nodup hi (k := i - 1) (by omega) hj (l := j) (by omega)
    omega
open Classical in
theorem c_specIsTableau0 {w : World} {a : Sl} {LL : List (List Int)} (ha : RowSS w a LL) (hL : LL.length < 2^38) (ht : tot LL < 2^38) :
    Calls PP F.spec_IsTableau #[a.v] w fun e w' => e = .returned (.bool (decide (IsTab LL))) ∧ Below w.heap.size w w' := by
  have han := ha.n
  refine spec_IsTableau.calls a ?_
  rw [spec_IsTableau.E_s]
  refine (c_l19Lengths ha hL ht).mono ?_
  rintro e w1 ⟨s, rfl, hs, hb1⟩
  refine ⟨s, rfl, ?_⟩
  refine Quiet.call1 (s := .bool) (c_l19Form hs.row (by rw [lens_length]; omega) (by omega) (by omega)) ?_
  intro w2 hd2
  have hb2 := hb1.trans (hd2.below _)
  refine bif_intro (fun h => ?_) (fun h => ?_)
  · have h : ¬ FormOk (lens LL) 8 := by simpa using h
    have : ¬ IsTab LL := fun hh => h hh.form
    exact ⟨by simp [this], hb2⟩
  have hf : FormOk (lens LL) 8 := by simpa using h
  have h8 := hf.tot
  have hc8 := hf.count
  refine lit0 oneInt (B := w.heap.size) hb2.size ?_
  intro t0 w3 hown hg3 _
  have hb3 := hb2.grown hg3 hb2.size (by simp)
  refine spec_IsTableau.L5_rule _ _ _ _ _ (I := fun al i w' => Below w.heap.size w w' ∧ 0 ≤ i ∧ i ≤ LL.length ∧ OwnI w' w.heap.size al (LL.take i.toNat).flatten ∧ ∀ i', i' < i.toNat → ∀ j', j' < (LL.getD i' []).length → ascS LL i' j') (μ := fun _ i _ => (LL.length - i).toNat)
    ⟨hb3, by omega, by omega, hown, fun i' hi' => by simp at hi'⟩ ?_
  rintro al i w' ⟨hb, h0, hi, hal, hall⟩
  rw [spec_IsTableau.B5_s]
  refine bif_dec (fun h3 => ?_) (fun h3 => ?_)
  · have hlt : i.toNat < LL.length := by omega
    have h9 : (LL.getD i.toNat []).length ≤ 8 := by
      rw [getD_SS hlt]; exact Nat.le_trans (len_le_tot (List.getElem_mem hlt)) h8
    have hfl : ∀ k, k ≤ LL.length → (LL.take k).flatten.length ≤ 8 := fun k hk => by
      rw [flatten_length]; exact Nat.le_trans (tot_take_le LL k) h8
    refine spec_IsTableau.L8_rule _ _ _ _ _ _ (I := fun al2 j w2 => Below w.heap.size w w2 ∧ 0 ≤ j ∧ j ≤ (LL.getD i.toNat []).length ∧ OwnI w2 w.heap.size al2 ((LL.take i.toNat).flatten ++ (LL.getD i.toNat []).take j.toNat) ∧ ∀ j', j' < j.toNat → ascS LL i.toNat j') (μ := fun _ j _ => ((LL.getD i.toNat []).length - j).toNat)
      ⟨hb, by omega, by omega, by simpa using hal, fun j' hj' => by simp at hj'⟩ ?_
    rintro al2 j w2 ⟨hbw, hj0, hj, hal2, hrow⟩
    rw [spec_IsTableau.B8_s]
    have ha2 := ha.grow hbw
    refine RowSS.get ha2 h0 (by omega) fun r hr => ?_
    have hrn : r.n = (LL.getD i.toNat []).length := by have := hr.n; simpa using this
    rw [hrn]
    refine bif_dec (fun h5 => ?_) (fun h5 => ?_)
    · have hjlt : j.toNat < (LL.getD i.toNat []).length := by omega
      have bad : ∀ w3, Drew w2 w3 → ¬ ascS LL i.toNat j.toNat → spec_IsTableau.q10 std (fun e2 w2 => ∃ all_3_n r_4_n, e2 = spec_IsTableau.emb5 a all_3_n r_4_n ∧ (Below w.heap.size w w2 ∧ 0 ≤ r_4_n ∧ r_4_n ≤ LL.length ∧ OwnI w2 w.heap.size all_3_n (LL.take r_4_n.toNat).flatten ∧ ∀ i', i' < r_4_n.toNat → ∀ j', j' < (LL.getD i' []).length → ascS LL i' j') ∧ (LL.length - r_4_n).toNat < (LL.length - i).toNat)
          (spec_IsTableau.q7 std fun e w' => e = .returned (.bool (decide (IsTab LL))) ∧ Below w.heap.size w w') .ret [(2, .bool false)] w3 := by
        intro w3 hd hn
        rw [spec_IsTableau.R8_s, spec_IsTableau.R5_s]
        have : ¬ IsTab LL := fun hh => hn (hh.strict hlt hjlt)
        exact ⟨by simp [this], hbw.trans (hd.below _)⟩
      have fin : ∀ w3, Drew w2 w3 → ascS LL i.toNat j.toNat → idxK 1 a i fun a31 => load1 .sl a31 w3 fun (ξ32 : Sl) => idxK 1 ξ32 j fun a33 => load1 (.int .i64) a33 w3 fun (ξ34 : Int) =>
          sem1 .sl PP (Instr.buildSlice T_Sint 1 #[(0, vI ξ34)]) w3 fun (ρ35 : Sl) ω36 => sem1 .sl PP (Builtin.append_ #[T_Sint, T_Sint] T_Sint #[Sl.v al2, Sl.v ρ35]) ω36 fun (ρ37 : Sl) ω38 =>
          ∃ all_3_n c_5_n, spec_IsTableau.emb8 a ρ37 i (w64 (j + 1)) = spec_IsTableau.emb8 a all_3_n i c_5_n ∧ (Below w.heap.size w ω38 ∧ 0 ≤ c_5_n ∧ c_5_n ≤ (LL.getD i.toNat []).length ∧ OwnI ω38 w.heap.size all_3_n ((LL.take i.toNat).flatten ++ (LL.getD i.toNat []).take c_5_n.toNat) ∧ ∀ j', j' < c_5_n.toNat → ascS LL i.toNat j') ∧ ((LL.getD i.toNat []).length - c_5_n).toNat < ((LL.getD i.toNat []).length - j).toNat := by
        intro w3 hd hg
        refine RowSS.get (ha2.heap hd.heap') h0 (by omega) fun r3 hr3 => ?_
        refine RowI.get hr3 hj0 (by omega) ?_
        have hb4 := hbw.trans (hd.below w.heap.size)
        have := hfl i.toNat (by omega)
        refine append_int (hal2.heap hd.heap') hb4.size (by simp only [List.length_append, List.length_take]; omega) ?_
        intro t' w5 ht5 hg5 _
        refine ⟨t', j + 1, by rw [w64_succ hj0 (by omega)], ⟨hb4.grown hg5 hb4.size (fun g hg => (hal2.lt g hg).1), by omega, by omega, ?_, fun j' hj' => ?_⟩, by omega⟩
        · rw [show (j + 1).toNat = j.toNat + 1 by omega, List.take_succ_eq_append_getElem hjlt, ← getD_lt hjlt, ← List.append_assoc]
          exact ht5
        · by_cases e : j' = j.toNat
          · rw [e]; exact hg
          · exact hrow j' (by omega)
      have e1 : (j - 1).toNat = j.toNat - 1 := by omega
      have e2 : (i - 1).toNat = i.toNat - 1 := by omega
      refine bif_dec (fun h6 => ?_) (fun h6 => ?_)
      · refine RowSS.get ha2 h0 (by omega) fun r3 hr3 => ?_
        refine RowI.get hr3 hj0 (by omega) ?_
        refine RowSS.get ha2 h0 (by omega) fun r4 hr4 => ?_
        rw [w64_id (n := j - 1) (by omega) (by omega)]
        refine RowI.get hr4 (by omega) (by omega) ?_
        rw [e1]
        refine bif_dec (fun h7 => ?_) (fun h7 => ?_)
        · exact drew_intro fun w3 hd => bad w3 hd fun hg => by have := hg.1 (by omega); simp only [at2] at this; omega
        · refine bif_dec (fun h8 => ?_) (fun h8 => ?_)
          · have hst := hf.step hlt (by omega)
            refine RowSS.get ha2 h0 (by omega) fun r5 hr5 => ?_
            refine RowI.get hr5 hj0 (by omega) ?_
            rw [w64_id (n := i - 1) (by omega) (by omega)]
            refine RowSS.get ha2 (by omega) (by omega) fun r6 hr6 => ?_
            rw [e2] at hr6
            refine RowI.get hr6 hj0 (by omega) ?_
            refine drew_intro fun w3 hd => ?_
            refine bif_dec (fun h9 => ?_) (fun h9 => ?_)
            · exact bad w3 hd fun hg => by have := hg.2 (by omega); simp only [at2] at this; omega
            · exact fin w3 hd ⟨fun _ => by simp only [at2]; omega, fun _ => by simp only [at2]; omega⟩
          · exact drew_intro fun w3 hd => fin w3 hd ⟨fun _ => by simp only [at2]; omega, fun h => by omega⟩
      · refine bif_dec (fun h8 => ?_) (fun h8 => ?_)
        · have hst := hf.step hlt (by omega)
          refine RowSS.get ha2 h0 (by omega) fun r5 hr5 => ?_
          refine RowI.get hr5 hj0 (by omega) ?_
          rw [w64_id (n := i - 1) (by omega) (by omega)]
          refine RowSS.get ha2 (by omega) (by omega) fun r6 hr6 => ?_
          rw [e2] at hr6
          refine RowI.get hr6 hj0 (by omega) ?_
          refine drew_intro fun w3 hd => ?_
          refine bif_dec (fun h9 => ?_) (fun h9 => ?_)
          · exact bad w3 hd fun hg => by have := hg.2 (by omega); simp only [at2] at this; omega
          · exact fin w3 hd ⟨fun h => by omega, fun _ => by simp only [at2]; omega⟩
        · exact drew_intro fun w3 hd => fin w3 hd ⟨fun h => by omega, fun h => by omega⟩
    · rw [spec_IsTableau.A8_2_s]
      refine ⟨al2, i + 1, by rw [w64_succ h0 (by omega)], ⟨hbw, by omega, by omega, ?_, fun i' hi' j' hj' => ?_⟩, by omega⟩
      · rw [show (i + 1).toNat = i.toNat + 1 by omega, flat_take_succ hlt]
        have e9 : (LL.getD i.toNat []).take j.toNat = LL.getD i.toNat [] := List.take_of_length_le (by omega)
        rw [e9] at hal2
        exact hal2
      · by_cases e : i' = i.toNat
        · subst e; exact hrow j' (by omega)
        · exact hall i' (by omega) j' hj'
  · rw [spec_IsTableau.A5_0_s]
    rw [show i.toNat = LL.length by omega, List.take_length] at hal
    have hall' : ∀ i' j', i' < LL.length → j' < (LL.getD i' []).length → ascS LL i' j' := fun i' j' hi' hj' => hall i' (by omega) j' hj'
    refine Quiet.call1 (s := .bool) (c_specIsPerm hal.row (by rw [flatten_length]; omega)) ?_
    intro w4 hd4
    refine ⟨?_, hb.trans (hd4.below _)⟩
    have : IsTab LL ↔ IsP LL.flatten := by
      constructor
      · exact fun h => h.perm
      · intro h
        exact ⟨hf, h, fun i' j' hi' hj' => ⟨fun h0 => Int.le_of_lt ((hall' i' j' hi' hj').1 h0), fun h0 => Int.le_of_lt ((hall' i' j' hi' hj').2 h0)⟩⟩
    simp only [this]
open Classical in
noncomputable def IsTableauV (LL : List (List Int)) : Bool := decide (IsTab LL)
theorem c_implIsTableau {w : World} {a : Sl} {LL : List (List Int)} (ha : RowSS w a LL) (hL : LL.length < 2^38) (ht : tot LL < 2^38) :
    Calls PP F.impl_IsTableau #[a.v] w fun e w' => e = .returned (.bool (IsTableauV LL)) ∧ Below w.heap.size w w' := c_implIsTableau0 ha hL ht

theorem c_specIsTableau {w : World} {a : Sl} {LL : List (List Int)} (ha : RowSS w a LL) (hL : LL.length < 2^38) (ht : tot LL < 2^38) :
    Calls PP F.spec_IsTableau #[a.v] w fun e w' => e = .returned (.bool (IsTableauV LL)) ∧ Below w.heap.size w w' := c_specIsTableau0 ha hL ht

open Classical in
noncomputable def FormOfV (LL : List (List Int)) : List Int := if IsTab LL then lens LL else []
theorem FormOfV_len (LL : List (List Int)) : (FormOfV LL).length < 2^38 := by
  unfold FormOfV
  split
  · rename_i h; rw [lens_length]; have := h.form.count; omega
  · simp
theorem c_implFormOf {w : World} {a : Sl} {LL : List (List Int)} (ha : RowSS w a LL) (hL : LL.length < 2^38) (ht : tot LL < 2^38) :
    Calls PP F.impl_FormOf #[a.v] w fun e w' => ∃ s : Sl, e = .returned s.v ∧ OwnI w' w.heap.size s (FormOfV LL) ∧ Below w.heap.size w w' := by
  refine impl_FormOf.calls a ?_
  rw [impl_FormOf.E_s]
  refine (c_implIsTableau0 ha hL ht).mono ?_
  rintro e w1 ⟨rfl, hb⟩
  refine ⟨_, rfl, ?_⟩
  refine bif_intro (fun h => ?_) (fun h => ?_)
  · have h : ¬ IsTab LL := by simpa using h
    exact ⟨Sl.nil, rfl, by rw [FormOfV, if_neg h]; exact Own.nil _ _ _, hb⟩
  · have h : IsTab LL := by simpa using h
    refine (c_form (ha.grow hb) hL ht).mono ?_
    rintro e w2 ⟨s, rfl, hs, hb2⟩
    refine ⟨s, rfl, s, rfl, ?_, hb.trans (hb2.mono hb.size)⟩
    rw [FormOfV, if_pos h]; exact hs.mono hb.size
theorem c_specFormOf {w : World} {a : Sl} {LL : List (List Int)} (ha : RowSS w a LL) (hL : LL.length < 2^38) (ht : tot LL < 2^38) :
    Calls PP F.spec_FormOf #[a.v] w fun e w' => ∃ s : Sl, e = .returned s.v ∧ RowI w' s (FormOfV LL) ∧ Below w.heap.size w w' := by
  refine spec_FormOf.calls a ?_
  rw [spec_FormOf.E_s]
  refine (c_specIsTableau0 ha hL ht).mono ?_
  rintro e w1 ⟨rfl, hb⟩
  refine ⟨_, rfl, ?_⟩
  refine bif_intro (fun h => ?_) (fun h => ?_)
  · have h : ¬ IsTab LL := by simpa using h
    refine lit0 oneInt (B := w.heap.size) hb.size ?_
    intro s w2 hs hg _
    exact ⟨s, rfl, by rw [FormOfV, if_neg h]; exact hs.row, hb.grown hg hb.size (by simp)⟩
  · have h : IsTab LL := by simpa using h
    refine (c_l19Lengths (ha.grow hb) hL ht).mono ?_
    rintro e w2 ⟨s, rfl, hs, hb2⟩
    refine ⟨s, rfl, s, rfl, ?_, hb.trans (hb2.mono hb.size)⟩
    rw [FormOfV, if_pos h]; exact hs.row
end Go.Proofs.Ytdchjhhpbdekeaa

/- What each function does, step by step, written by a program (Gen.lean); each equation is checked by the kernel. -/
namespace Go.Proofs.Ytdchjhhpbdekeaa
open Go
set_option linter.unusedVariables false
set_option maxRecDepth 100000
namespace spec_CountTableaux
@[reducible] def cfg : Cfg := ⟨61, [(16, [0, 3, 4, 5, 6, 7, 8, 9]), (10, [0, 3, 4, 5, 6, 7]), (7, [0, 3, 4, 5, 6])], [(5, [0, 3, 4, 5, 6, 7, 8, 9]), (4, [0, 3, 4, 5, 6, 7, 8]), (3, [0, 3, 4, 5, 6, 7]), (2, [0, 3, 4, 5, 6]), (1, [0, 3, 4, 5, 6]), (0, [3, 4])], [], [2], [], [101, 107, 112, 15, 21, 124, 76, 137, 28, 115, 91, 81, 130], [138, 140, 82, 6, 86, 85, 132]⟩
def q2 (pr : Prims) (R : Ending → World → Prop) : Exit → Env → World → Prop := fun ex e w => normQ ex (fun e w => contE pr cfg (sub (codeOf Try.f59) [1, 1, 1, 1, 1, 1]) (fun e w => wpC pr PP cfg (DD pr) (sub (codeOf Try.f59) [1, 1, 1, 1, 1, 1]) (retQ Try.f59.results.toList R) e w) e w) (retQ Try.f59.results.toList R) e w
def q3 (pr : Prims) (R : Ending → World → Prop) : Exit → Env → World → Prop := fun ex e w => blockQ ex 0 (q2 pr R) e w
def q4 (pr : Prims) (k : Env → World → Prop) (Q : Exit → Env → World → Prop) : Exit → Env → World → Prop := fun ex e w => normQ ex (fun e w => contE pr cfg (sub (codeOf Try.f59) [1, 1, 1, 1, 1, 0, 1, 0, 0, 1, 1]) (fun e w => wpC pr PP cfg (DD pr) (sub (codeOf Try.f59) [1, 1, 1, 1, 1, 0, 1, 0, 0, 1, 1]) (fun ex e w => normQ ex (fun e' w' => k (Env.restr e' (lookN cfg.loops (keyOf (sub (codeOf Try.f59) [1, 1, 1, 1, 1, 0, 1, 0, 0])))) w') Q e w) e w) e w) (fun ex e w => normQ ex (fun e' w' => k (Env.restr e' (lookN cfg.loops (keyOf (sub (codeOf Try.f59) [1, 1, 1, 1, 1, 0, 1, 0, 0])))) w') Q e w) e w
def q5 (pr : Prims) (k : Env → World → Prop) (Q : Exit → Env → World → Prop) : Exit → Env → World → Prop := fun ex e w => blockQ ex 1 (q4 pr k Q) e w
def q6 (pr : Prims) (k : Env → World → Prop) (Q : Exit → Env → World → Prop) : Exit → Env → World → Prop := fun ex e w => blockQ ex 2 (q5 pr k Q) e w
def q9 (pr : Prims) (k : Env → World → Prop) (Q : Exit → Env → World → Prop) : Exit → Env → World → Prop := fun ex e w => normQ ex (fun e w => contE pr cfg (sub (codeOf Try.f59) [1, 1, 1, 1, 1, 0, 1, 0, 0, 1, 0, 0, 1, 0, 0, 1, 1]) (fun e w => wpC pr PP cfg (DD pr) (sub (codeOf Try.f59) [1, 1, 1, 1, 1, 0, 1, 0, 0, 1, 0, 0, 1, 0, 0, 1, 1]) (fun ex e w => normQ ex (fun e' w' => k (Env.restr e' (lookN cfg.loops (keyOf (sub (codeOf Try.f59) [1, 1, 1, 1, 1, 0, 1, 0, 0, 1, 0, 0, 1, 0, 0])))) w') Q e w) e w) e w) (fun ex e w => normQ ex (fun e' w' => k (Env.restr e' (lookN cfg.loops (keyOf (sub (codeOf Try.f59) [1, 1, 1, 1, 1, 0, 1, 0, 0, 1, 0, 0, 1, 0, 0])))) w') Q e w) e w
def q10 (pr : Prims) (k : Env → World → Prop) (Q : Exit → Env → World → Prop) : Exit → Env → World → Prop := fun ex e w => blockQ ex 3 (q9 pr k Q) e w
def q13 (pr : Prims) (k : Env → World → Prop) (Q : Exit → Env → World → Prop) : Exit → Env → World → Prop := fun ex e w => normQ ex (fun e w => contE pr cfg (sub (codeOf Try.f59) [1, 1, 1, 1, 1, 0, 1, 0, 0, 1, 0, 0, 1, 0, 0, 1, 0, 0, 1, 1, 1, 1]) (fun e w => wpC pr PP cfg (DD pr) (sub (codeOf Try.f59) [1, 1, 1, 1, 1, 0, 1, 0, 0, 1, 0, 0, 1, 0, 0, 1, 0, 0, 1, 1, 1, 1]) (q10 pr k Q) e w) e w) (q10 pr k Q) e w
def q14 (pr : Prims) (k : Env → World → Prop) (Q : Exit → Env → World → Prop) : Exit → Env → World → Prop := fun ex e w => blockQ ex 4 (q13 pr k Q) e w
def emb7 (form_0 : Sl) (top_3 : Int) (bottom_4 : Int) (n_5 : Int) (r_6 : Int) : Env := [(0, Sl.v form_0), (3, vI top_3), (4, vI bottom_4), (5, vI n_5), (6, vI r_6)]
def emb10 (form_0 : Sl) (top_3 : Int) (bottom_4 : Int) (n_5 : Int) (r_6 : Int) (c_7 : Int) : Env := [(0, Sl.v form_0), (3, vI top_3), (4, vI bottom_4), (5, vI n_5), (6, vI r_6), (7, vI c_7)]
def emb16 (form_0 : Sl) (top_3 : Int) (bottom_4 : Int) (n_5 : Int) (r_6 : Int) (c_7 : Int) (hook_8 : Int) (i_9 : Int) : Env := [(0, Sl.v form_0), (3, vI top_3), (4, vI bottom_4), (5, vI n_5), (6, vI r_6), (7, vI c_7), (8, vI hook_8), (9, vI i_9)]
def x4 (form_0 : Sl) (top_3 : Int) (bottom_4 : Int) (n_5 : Int) (r_6 : Int) (c_7 : Int) (hook_8 : Int) : Env := [(0, Sl.v form_0), (3, vI top_3), (4, vI bottom_4), (5, vI n_5), (6, vI r_6), (7, vI c_7), (8, vI hook_8)]
def x2 (form_0 : Sl) (top_3 : Int) (bottom_4 : Int) (n_5 : Int) (r_6 : Int) : Env := [(0, Sl.v form_0), (3, vI top_3), (4, vI bottom_4), (5, vI n_5), (6, vI r_6)]
def x0 (top_3 : Int) (bottom_4 : Int) : Env := [(3, vI top_3), (4, vI bottom_4)]
def S16 (pr : Prims) (Q : Exit → Env → World → Prop) : (Env → World → Prop) → Env → World → Prop := fun k e w => wpC pr PP cfg (DD pr) (sub (codeOf Try.f59) [1, 1, 1, 1, 1, 0, 1, 0, 0, 1, 0, 0, 1, 0, 0, 1, 0, 0, 1, 1, 1, 0, 1, 0, 0]) (fun ex e w => normQ ex (fun e' w' => k (Env.restr e' (lookN cfg.loops (keyOf (sub (codeOf Try.f59) [1, 1, 1, 1, 1, 0, 1, 0, 0, 1, 0, 0, 1, 0, 0, 1, 0, 0, 1, 1, 1, 0, 1, 0, 0])))) w') Q e w) e w
def S10 (pr : Prims) (Q : Exit → Env → World → Prop) : (Env → World → Prop) → Env → World → Prop := fun k e w => wpC pr PP cfg (DD pr) (sub (codeOf Try.f59) [1, 1, 1, 1, 1, 0, 1, 0, 0, 1, 0, 0, 1, 0, 0]) (fun ex e w => normQ ex (fun e' w' => k (Env.restr e' (lookN cfg.loops (keyOf (sub (codeOf Try.f59) [1, 1, 1, 1, 1, 0, 1, 0, 0, 1, 0, 0, 1, 0, 0])))) w') Q e w) e w
def S7 (pr : Prims) (Q : Exit → Env → World → Prop) : (Env → World → Prop) → Env → World → Prop := fun k e w => wpC pr PP cfg (DD pr) (sub (codeOf Try.f59) [1, 1, 1, 1, 1, 0, 1, 0, 0]) (fun ex e w => normQ ex (fun e' w' => k (Env.restr e' (lookN cfg.loops (keyOf (sub (codeOf Try.f59) [1, 1, 1, 1, 1, 0, 1, 0, 0])))) w') Q e w) e w
def B16 (pr : Prims) (form_0 : Sl) (top_3 : Int) (bottom_4 : Int) (n_5 : Int) (r_6 : Int) (c_7 : Int) (hook_8 : Int) (i_9 : Int) (w : World) (k : Env → World → Prop) (Q : Exit → Env → World → Prop) : Prop :=
  S16 pr Q k (emb16 form_0 top_3 bottom_4 n_5 r_6 c_7 hook_8 i_9) w
def L16 (pr : Prims) (form_0 : Sl) (top_3 : Int) (bottom_4 : Int) (n_5 : Int) (r_6 : Int) (c_7 : Int) (hook_8 : Int) (i_9 : Int) (w : World) (Q : Exit → Env → World → Prop) : Prop :=
  pr.loop (S16 pr Q) (emb16 form_0 top_3 bottom_4 n_5 r_6 c_7 hook_8 i_9) w
def B10 (pr : Prims) (form_0 : Sl) (top_3 : Int) (bottom_4 : Int) (n_5 : Int) (r_6 : Int) (c_7 : Int) (w : World) (k : Env → World → Prop) (Q : Exit → Env → World → Prop) : Prop :=
  S10 pr Q k (emb10 form_0 top_3 bottom_4 n_5 r_6 c_7) w
def L10 (pr : Prims) (form_0 : Sl) (top_3 : Int) (bottom_4 : Int) (n_5 : Int) (r_6 : Int) (c_7 : Int) (w : World) (Q : Exit → Env → World → Prop) : Prop :=
  pr.loop (S10 pr Q) (emb10 form_0 top_3 bottom_4 n_5 r_6 c_7) w
def B7 (pr : Prims) (form_0 : Sl) (top_3 : Int) (bottom_4 : Int) (n_5 : Int) (r_6 : Int) (w : World) (k : Env → World → Prop) (Q : Exit → Env → World → Prop) : Prop :=
  S7 pr Q k (emb7 form_0 top_3 bottom_4 n_5 r_6) w
def L7 (pr : Prims) (form_0 : Sl) (top_3 : Int) (bottom_4 : Int) (n_5 : Int) (r_6 : Int) (w : World) (Q : Exit → Env → World → Prop) : Prop :=
  pr.loop (S7 pr Q) (emb7 form_0 top_3 bottom_4 n_5 r_6) w
def E (pr : Prims) (form_0 : Sl) (w : World) (R : Ending → World → Prop) : Prop :=
  wpC pr PP cfg (DD pr) (codeOf Try.f59) (retQ Try.f59.results.toList R) (argE 0 [Sl.v form_0]) w
theorem B16_eq (pr : Prims) (form_0 : Sl) (top_3 : Int) (bottom_4 : Int) (n_5 : Int) (r_6 : Int) (c_7 : Int) (hook_8 : Int) (i_9 : Int) (w : World) (k : Env → World → Prop) (Q : Exit → Env → World → Prop) : B16 pr form_0 top_3 bottom_4 n_5 r_6 c_7 hook_8 i_9 w k Q = (
  bif decide (i_9 < (form_0.n : Int)) then (
  pr.idxK 1 form_0 i_9 fun (a15 : Addr) =>
  pr.load1 (.int .i64) a15 w fun (ξ16 : Int) =>
  pr.pcall1 (.int .i64) PP F.spec_l1Bit #[.bool (decide (ξ16 > c_7))] fun (ρ17 : Int) =>
  k (emb16 form_0 top_3 bottom_4 n_5 r_6 c_7 (w64 (hook_8 + ρ17)) (w64 (i_9 + 1))) w)
  else (
  Q (.exit 4) (x4 form_0 top_3 bottom_4 n_5 r_6 c_7 hook_8) w)) := by kernel_rfl
theorem B16_s (form_0 : Sl) (top_3 : Int) (bottom_4 : Int) (n_5 : Int) (r_6 : Int) (c_7 : Int) (hook_8 : Int) (i_9 : Int) (w : World) (k : Env → World → Prop) (Q : Exit → Env → World → Prop) : B16 std form_0 top_3 bottom_4 n_5 r_6 c_7 hook_8 i_9 w k Q = (
  bif decide (i_9 < (form_0.n : Int)) then (
  idxK 1 form_0 i_9 fun (a15 : Addr) =>
  load1 (.int .i64) a15 w fun (ξ16 : Int) =>
  pcall1 (.int .i64) PP F.spec_l1Bit #[.bool (decide (ξ16 > c_7))] fun (ρ17 : Int) =>
  k (emb16 form_0 top_3 bottom_4 n_5 r_6 c_7 (w64 (hook_8 + ρ17)) (w64 (i_9 + 1))) w)
  else (
  Q (.exit 4) (x4 form_0 top_3 bottom_4 n_5 r_6 c_7 hook_8) w)) := B16_eq std form_0 top_3 bottom_4 n_5 r_6 c_7 hook_8 i_9 w k Q
theorem L16_rule (form_0 : Sl) (top_3 : Int) (bottom_4 : Int) (n_5 : Int) (r_6 : Int) (c_7 : Int) (hook_8 : Int) (i_9 : Int) (w : World) (Q : Exit → Env → World → Prop) (I : Int → Int → World → Prop) (μ : Int → Int → World → Nat) (h0 : I hook_8 i_9 w)
    (h : ∀ (hook_8 : Int) (i_9 : Int) (w' : World), I hook_8 i_9 w' → B16 std form_0 top_3 bottom_4 n_5 r_6 c_7 hook_8 i_9 w' (fun e2 w2 => ∃ hook_8_n i_9_n, e2 = emb16 form_0 top_3 bottom_4 n_5 r_6 c_7 hook_8_n i_9_n ∧ I hook_8_n i_9_n w2 ∧ μ hook_8_n i_9_n w2 < μ hook_8 i_9 w') Q) :
    L16 std form_0 top_3 bottom_4 n_5 r_6 c_7 hook_8 i_9 w Q := by
  unfold L16
  refine LoopE.intro (σ := Int × Int) (step := S16 std Q) (fun s => emb16 form_0 top_3 bottom_4 n_5 r_6 c_7 s.1 s.2) (fun s w => I s.1 s.2 w) (fun s w => μ s.1 s.2 w) (hook_8, i_9) rfl h0 ?_
  intro s w' hI
  have h1 := h s.1 s.2 w' hI
  unfold B16 at h1
  simp only [Prod.exists]
  exact h1
theorem A16_4_eq (pr : Prims) (form_0 : Sl) (top_3 : Int) (bottom_4 : Int) (n_5 : Int) (r_6 : Int) (c_7 : Int) (hook_8 : Int) (w : World) (k : Env → World → Prop) (Q : Exit → Env → World → Prop) : (q14 pr k Q) (.exit 4) (x4 form_0 top_3 bottom_4 n_5 r_6 c_7 hook_8) w = (
  k (emb10 form_0 top_3 (w64 (bottom_4 * hook_8)) n_5 r_6 (w64 (c_7 + 1))) w) := by kernel_rfl
theorem A16_4_s (form_0 : Sl) (top_3 : Int) (bottom_4 : Int) (n_5 : Int) (r_6 : Int) (c_7 : Int) (hook_8 : Int) (w : World) (k : Env → World → Prop) (Q : Exit → Env → World → Prop) : (q14 std k Q) (.exit 4) (x4 form_0 top_3 bottom_4 n_5 r_6 c_7 hook_8) w = (
  k (emb10 form_0 top_3 (w64 (bottom_4 * hook_8)) n_5 r_6 (w64 (c_7 + 1))) w) := A16_4_eq std form_0 top_3 bottom_4 n_5 r_6 c_7 hook_8 w k Q
theorem B10_eq (pr : Prims) (form_0 : Sl) (top_3 : Int) (bottom_4 : Int) (n_5 : Int) (r_6 : Int) (c_7 : Int) (w : World) (k : Env → World → Prop) (Q : Exit → Env → World → Prop) : B10 pr form_0 top_3 bottom_4 n_5 r_6 c_7 w k Q = (
  pr.idxK 1 form_0 r_6 fun (a7 : Addr) =>
  pr.load1 (.int .i64) a7 w fun (ξ8 : Int) =>
  bif decide (c_7 < ξ8) then (
  pr.idxK 1 form_0 r_6 fun (a11 : Addr) =>
  pr.load1 (.int .i64) a11 w fun (ξ12 : Int) =>
  L16 pr form_0 (w64 (top_3 * (w64 (n_5 + 1)))) bottom_4 (w64 (n_5 + 1)) r_6 c_7 (w64 (ξ12 - c_7)) (w64 (r_6 + 1)) w (q14 pr k Q))
  else (
  Q (.exit 2) (x2 form_0 top_3 bottom_4 n_5 r_6) w)) := by kernel_rfl
theorem B10_s (form_0 : Sl) (top_3 : Int) (bottom_4 : Int) (n_5 : Int) (r_6 : Int) (c_7 : Int) (w : World) (k : Env → World → Prop) (Q : Exit → Env → World → Prop) : B10 std form_0 top_3 bottom_4 n_5 r_6 c_7 w k Q = (
  idxK 1 form_0 r_6 fun (a7 : Addr) =>
  load1 (.int .i64) a7 w fun (ξ8 : Int) =>
  bif decide (c_7 < ξ8) then (
  idxK 1 form_0 r_6 fun (a11 : Addr) =>
  load1 (.int .i64) a11 w fun (ξ12 : Int) =>
  L16 std form_0 (w64 (top_3 * (w64 (n_5 + 1)))) bottom_4 (w64 (n_5 + 1)) r_6 c_7 (w64 (ξ12 - c_7)) (w64 (r_6 + 1)) w (q14 std k Q))
  else (
  Q (.exit 2) (x2 form_0 top_3 bottom_4 n_5 r_6) w)) := B10_eq std form_0 top_3 bottom_4 n_5 r_6 c_7 w k Q
theorem L10_rule (form_0 : Sl) (top_3 : Int) (bottom_4 : Int) (n_5 : Int) (r_6 : Int) (c_7 : Int) (w : World) (Q : Exit → Env → World → Prop) (I : Int → Int → Int → Int → World → Prop) (μ : Int → Int → Int → Int → World → Nat) (h0 : I top_3 bottom_4 n_5 c_7 w)
    (h : ∀ (top_3 : Int) (bottom_4 : Int) (n_5 : Int) (c_7 : Int) (w' : World), I top_3 bottom_4 n_5 c_7 w' → B10 std form_0 top_3 bottom_4 n_5 r_6 c_7 w' (fun e2 w2 => ∃ top_3_n bottom_4_n n_5_n c_7_n, e2 = emb10 form_0 top_3_n bottom_4_n n_5_n r_6 c_7_n ∧ I top_3_n bottom_4_n n_5_n c_7_n w2 ∧ μ top_3_n bottom_4_n n_5_n c_7_n w2 < μ top_3 bottom_4 n_5 c_7 w') Q) :
    L10 std form_0 top_3 bottom_4 n_5 r_6 c_7 w Q := by
  unfold L10
  refine LoopE.intro (σ := Int × Int × Int × Int) (step := S10 std Q) (fun s => emb10 form_0 s.1 s.2.1 s.2.2.1 r_6 s.2.2.2) (fun s w => I s.1 s.2.1 s.2.2.1 s.2.2.2 w) (fun s w => μ s.1 s.2.1 s.2.2.1 s.2.2.2 w) (top_3, bottom_4, n_5, c_7) rfl h0 ?_
  intro s w' hI
  have h1 := h s.1 s.2.1 s.2.2.1 s.2.2.2 w' hI
  unfold B10 at h1
  simp only [Prod.exists]
  exact h1
theorem A10_2_eq (pr : Prims) (form_0 : Sl) (top_3 : Int) (bottom_4 : Int) (n_5 : Int) (r_6 : Int) (w : World) (k : Env → World → Prop) (Q : Exit → Env → World → Prop) : (q6 pr k Q) (.exit 2) (x2 form_0 top_3 bottom_4 n_5 r_6) w = (
  k (emb7 form_0 top_3 bottom_4 n_5 (w64 (r_6 + 1))) w) := by kernel_rfl
theorem A10_2_s (form_0 : Sl) (top_3 : Int) (bottom_4 : Int) (n_5 : Int) (r_6 : Int) (w : World) (k : Env → World → Prop) (Q : Exit → Env → World → Prop) : (q6 std k Q) (.exit 2) (x2 form_0 top_3 bottom_4 n_5 r_6) w = (
  k (emb7 form_0 top_3 bottom_4 n_5 (w64 (r_6 + 1))) w) := A10_2_eq std form_0 top_3 bottom_4 n_5 r_6 w k Q
theorem A10_4_eq (pr : Prims) (form_0 : Sl) (top_3 : Int) (bottom_4 : Int) (n_5 : Int) (r_6 : Int) (c_7 : Int) (hook_8 : Int) (w : World) (k : Env → World → Prop) (Q : Exit → Env → World → Prop) : (q6 pr k Q) (.exit 4) (x4 form_0 top_3 bottom_4 n_5 r_6 c_7 hook_8) w = (
  Q (.exit 4) (x4 form_0 top_3 bottom_4 n_5 r_6 c_7 hook_8) w) := by kernel_rfl
theorem A10_4_s (form_0 : Sl) (top_3 : Int) (bottom_4 : Int) (n_5 : Int) (r_6 : Int) (c_7 : Int) (hook_8 : Int) (w : World) (k : Env → World → Prop) (Q : Exit → Env → World → Prop) : (q6 std k Q) (.exit 4) (x4 form_0 top_3 bottom_4 n_5 r_6 c_7 hook_8) w = (
  Q (.exit 4) (x4 form_0 top_3 bottom_4 n_5 r_6 c_7 hook_8) w) := A10_4_eq std form_0 top_3 bottom_4 n_5 r_6 c_7 hook_8 w k Q
theorem B7_eq (pr : Prims) (form_0 : Sl) (top_3 : Int) (bottom_4 : Int) (n_5 : Int) (r_6 : Int) (w : World) (k : Env → World → Prop) (Q : Exit → Env → World → Prop) : B7 pr form_0 top_3 bottom_4 n_5 r_6 w k Q = (
  bif decide (r_6 < (form_0.n : Int)) then (
  L10 pr form_0 top_3 bottom_4 n_5 r_6 0 w (q6 pr k Q))
  else (
  Q (.exit 0) (x0 top_3 bottom_4) w)) := by kernel_rfl
theorem B7_s (form_0 : Sl) (top_3 : Int) (bottom_4 : Int) (n_5 : Int) (r_6 : Int) (w : World) (k : Env → World → Prop) (Q : Exit → Env → World → Prop) : B7 std form_0 top_3 bottom_4 n_5 r_6 w k Q = (
  bif decide (r_6 < (form_0.n : Int)) then (
  L10 std form_0 top_3 bottom_4 n_5 r_6 0 w (q6 std k Q))
  else (
  Q (.exit 0) (x0 top_3 bottom_4) w)) := B7_eq std form_0 top_3 bottom_4 n_5 r_6 w k Q
theorem L7_rule (form_0 : Sl) (top_3 : Int) (bottom_4 : Int) (n_5 : Int) (r_6 : Int) (w : World) (Q : Exit → Env → World → Prop) (I : Int → Int → Int → Int → World → Prop) (μ : Int → Int → Int → Int → World → Nat) (h0 : I top_3 bottom_4 n_5 r_6 w)
    (h : ∀ (top_3 : Int) (bottom_4 : Int) (n_5 : Int) (r_6 : Int) (w' : World), I top_3 bottom_4 n_5 r_6 w' → B7 std form_0 top_3 bottom_4 n_5 r_6 w' (fun e2 w2 => ∃ top_3_n bottom_4_n n_5_n r_6_n, e2 = emb7 form_0 top_3_n bottom_4_n n_5_n r_6_n ∧ I top_3_n bottom_4_n n_5_n r_6_n w2 ∧ μ top_3_n bottom_4_n n_5_n r_6_n w2 < μ top_3 bottom_4 n_5 r_6 w') Q) :
    L7 std form_0 top_3 bottom_4 n_5 r_6 w Q := by
  unfold L7
  refine LoopE.intro (σ := Int × Int × Int × Int) (step := S7 std Q) (fun s => emb7 form_0 s.1 s.2.1 s.2.2.1 s.2.2.2) (fun s w => I s.1 s.2.1 s.2.2.1 s.2.2.2 w) (fun s w => μ s.1 s.2.1 s.2.2.1 s.2.2.2 w) (top_3, bottom_4, n_5, r_6) rfl h0 ?_
  intro s w' hI
  have h1 := h s.1 s.2.1 s.2.2.1 s.2.2.2 w' hI
  unfold B7 at h1
  simp only [Prod.exists]
  exact h1
theorem A7_0_eq (pr : Prims) (top_3 : Int) (bottom_4 : Int) (w : World) (R : Ending → World → Prop) : (q3 pr R) (.exit 0) (x0 top_3 bottom_4) w = (
  bottom_4 ≠ (0 : Int) ∧
  R (.returned (vI (w64 (top_3.tdiv bottom_4)))) w) := by kernel_rfl
theorem A7_0_s (top_3 : Int) (bottom_4 : Int) (w : World) (R : Ending → World → Prop) : (q3 std R) (.exit 0) (x0 top_3 bottom_4) w = (
  bottom_4 ≠ (0 : Int) ∧
  R (.returned (vI (w64 (top_3.tdiv bottom_4)))) w) := A7_0_eq std top_3 bottom_4 w R
theorem E_eq (pr : Prims) (form_0 : Sl) (w : World) (R : Ending → World → Prop) : E pr form_0 w R = (
  pr.call1 .bool PP F.spec_l19Form #[Sl.v form_0, vI 12] w fun (ρ0 : Bool) ω1 =>
  bif !ρ0 then (
  R (.returned (vI 0)) ω1)
  else (
  L7 pr form_0 1 1 0 0 ω1 (q3 pr R))) := by kernel_rfl
theorem E_s (form_0 : Sl) (w : World) (R : Ending → World → Prop) : E std form_0 w R = (
  call1 .bool PP F.spec_l19Form #[Sl.v form_0, vI 12] w fun (ρ0 : Bool) ω1 =>
  bif !ρ0 then (
  R (.returned (vI 0)) ω1)
  else (
  L7 std form_0 1 1 0 0 ω1 (q3 std R))) := E_eq std form_0 w R
theorem drawsOk : drawsOk PP cfg okD (codeOf Try.f59) = true := by kernel_rfl
theorem calls (form_0 : Sl) {w : World} {R : Ending → World → Prop} (h : E std form_0 w R) : Calls PP F.spec_CountTableaux #[Sl.v form_0] w R :=
  calls_of noCount mixed drawOk Try.func59 rfl (c := cfg) (args := [Sl.v form_0]) rfl (Nat.le_of_ble_eq_true (by kernel_rfl)) drawsOk h
end spec_CountTableaux

namespace impl_CountTableaux
@[reducible] def cfg : Cfg := ⟨62, [(5, [0, 3, 4, 16, 17]), (17, [0, 3, 4, 6, 7, 8, 9, 25, 26, 27, 32, 33, 42, 43, 44]), (13, [0, 3, 4, 6, 7, 25, 26, 27, 32, 33]), (10, [0, 3, 4, 25, 26, 27])], [(1, [0, 3, 4, 16, 17]), (0, [0, 3, 4]), (7, [0, 3, 4, 6, 7, 8, 9, 25, 26, 27, 32, 33, 42, 43, 44]), (6, [0, 3, 4, 6, 7, 9, 25, 26, 27, 32, 33]), (5, [0, 3, 4, 6, 7, 25, 26, 27, 32, 33]), (4, [0, 3, 4, 25, 26, 27]), (3, [0, 3, 4, 25, 26, 27]), (2, [3, 4])], [], [2], [], [101, 107, 112, 15, 21, 124, 76, 137, 28, 115, 91, 81, 130], [138, 140, 82, 6, 86, 85, 132]⟩
def q2 (pr : Prims) (R : Ending → World → Prop) : Exit → Env → World → Prop := fun ex e w => normQ ex (fun e w => contE pr cfg (sub (codeOf Try.f58) [1, 1, 1, 1]) (fun e w => wpC pr PP cfg (DD pr) (sub (codeOf Try.f58) [1, 1, 1, 1]) (retQ Try.f58.results.toList R) e w) e w) (retQ Try.f58.results.toList R) e w
def q5 (pr : Prims) (R : Ending → World → Prop) : Exit → Env → World → Prop := fun ex e w => blockQ ex 0 (q2 pr R) e w
def q6 (pr : Prims) (R : Ending → World → Prop) : Exit → Env → World → Prop := fun ex e w => normQ ex (fun e w => contE pr cfg (sub (codeOf Try.f58) [1, 1, 1, 1, 1]) (fun e w => wpC pr PP cfg (DD pr) (sub (codeOf Try.f58) [1, 1, 1, 1, 1]) (retQ Try.f58.results.toList R) e w) e w) (retQ Try.f58.results.toList R) e w
def q7 (pr : Prims) (R : Ending → World → Prop) : Exit → Env → World → Prop := fun ex e w => blockQ ex 2 (q6 pr R) e w
def q8 (pr : Prims) (k : Env → World → Prop) (Q : Exit → Env → World → Prop) : Exit → Env → World → Prop := fun ex e w => normQ ex (fun e w => contE pr cfg (sub (codeOf Try.f58) [1, 1, 1, 1, 0, 1, 0, 0, 1, 1, 1]) (fun e w => wpC pr PP cfg (DD pr) (sub (codeOf Try.f58) [1, 1, 1, 1, 0, 1, 0, 0, 1, 1, 1]) (fun ex e w => normQ ex (fun e' w' => k (Env.restr e' (lookN cfg.loops (keyOf (sub (codeOf Try.f58) [1, 1, 1, 1, 0, 1, 0, 0])))) w') Q e w) e w) e w) (fun ex e w => normQ ex (fun e' w' => k (Env.restr e' (lookN cfg.loops (keyOf (sub (codeOf Try.f58) [1, 1, 1, 1, 0, 1, 0, 0])))) w') Q e w) e w
def q9 (pr : Prims) (k : Env → World → Prop) (Q : Exit → Env → World → Prop) : Exit → Env → World → Prop := fun ex e w => blockQ ex 3 (q8 pr k Q) e w
def q12 (pr : Prims) (k : Env → World → Prop) (Q : Exit → Env → World → Prop) : Exit → Env → World → Prop := fun ex e w => blockQ ex 4 (q9 pr k Q) e w
def q13 (pr : Prims) (k : Env → World → Prop) (Q : Exit → Env → World → Prop) : Exit → Env → World → Prop := fun ex e w => normQ ex (fun e w => contE pr cfg (sub (codeOf Try.f58) [1, 1, 1, 1, 0, 1, 0, 0, 1, 1, 0, 0, 1, 1, 0, 0, 1, 1, 1]) (fun e w => wpC pr PP cfg (DD pr) (sub (codeOf Try.f58) [1, 1, 1, 1, 0, 1, 0, 0, 1, 1, 0, 0, 1, 1, 0, 0, 1, 1, 1]) (fun ex e w => normQ ex (fun e' w' => k (Env.restr e' (lookN cfg.loops (keyOf (sub (codeOf Try.f58) [1, 1, 1, 1, 0, 1, 0, 0, 1, 1, 0, 0, 1, 1, 0, 0])))) w') Q e w) e w) e w) (fun ex e w => normQ ex (fun e' w' => k (Env.restr e' (lookN cfg.loops (keyOf (sub (codeOf Try.f58) [1, 1, 1, 1, 0, 1, 0, 0, 1, 1, 0, 0, 1, 1, 0, 0])))) w') Q e w) e w
def q14 (pr : Prims) (k : Env → World → Prop) (Q : Exit → Env → World → Prop) : Exit → Env → World → Prop := fun ex e w => blockQ ex 5 (q13 pr k Q) e w
def q15 (pr : Prims) (k : Env → World → Prop) (Q : Exit → Env → World → Prop) : Exit → Env → World → Prop := fun ex e w => normQ ex (fun e w => contE pr cfg (sub (codeOf Try.f58) [1, 1, 1, 1, 0, 1, 0, 0, 1, 1, 0, 0, 1, 1, 0, 0, 1, 1, 0, 0, 1, 1, 1]) (fun e w => wpC pr PP cfg (DD pr) (sub (codeOf Try.f58) [1, 1, 1, 1, 0, 1, 0, 0, 1, 1, 0, 0, 1, 1, 0, 0, 1, 1, 0, 0, 1, 1, 1]) (q14 pr k Q) e w) e w) (q14 pr k Q) e w
def q17 (pr : Prims) (k : Env → World → Prop) (Q : Exit → Env → World → Prop) : Exit → Env → World → Prop := fun ex e w => blockQ ex 6 (q15 pr k Q) e w
def emb5 (form_0 : Sl) (above_3 : Int) (below_4 : Int) (t16 : Int) (t17 : Int) : Env := [(0, Sl.v form_0), (3, vI above_3), (4, vI below_4), (16, vI t16), (17, vI t17)]
def x0 (form_0 : Sl) (above_3 : Int) (below_4 : Int) : Env := [(0, Sl.v form_0), (3, vI above_3), (4, vI below_4)]
def emb10 (form_0 : Sl) (above_3 : Int) (below_4 : Int) (t25 : Sl) (t26 : Int) (t27 : Int) : Env := [(0, Sl.v form_0), (3, vI above_3), (4, vI below_4), (25, Sl.v t25), (26, vI t26), (27, vI t27)]
def emb13 (form_0 : Sl) (above_3 : Int) (below_4 : Int) (i_6 : Int) (length_7 : Int) (t25 : Sl) (t26 : Int) (t27 : Int) (t32 : Int) (t33 : Int) : Env := [(0, Sl.v form_0), (3, vI above_3), (4, vI below_4), (6, vI i_6), (7, vI length_7), (25, Sl.v t25), (26, vI t26), (27, vI t27), (32, vI t32), (33, vI t33)]
def emb17 (form_0 : Sl) (above_3 : Int) (below_4 : Int) (i_6 : Int) (length_7 : Int) (j_8 : Int) (hook_9 : Int) (t25 : Sl) (t26 : Int) (t27 : Int) (t32 : Int) (t33 : Int) (t42 : Sl) (t43 : Int) (t44 : Int) : Env := [(0, Sl.v form_0), (3, vI above_3), (4, vI below_4), (6, vI i_6), (7, vI length_7), (8, vI j_8), (9, vI hook_9), (25, Sl.v t25), (26, vI t26), (27, vI t27), (32, vI t32), (33, vI t33), (42, Sl.v t42), (43, vI t43), (44, vI t44)]
def x6 (form_0 : Sl) (above_3 : Int) (below_4 : Int) (i_6 : Int) (length_7 : Int) (hook_9 : Int) (t25 : Sl) (t26 : Int) (t27 : Int) (t32 : Int) (t33 : Int) : Env := [(0, Sl.v form_0), (3, vI above_3), (4, vI below_4), (6, vI i_6), (7, vI length_7), (9, vI hook_9), (25, Sl.v t25), (26, vI t26), (27, vI t27), (32, vI t32), (33, vI t33)]
def x4 (form_0 : Sl) (above_3 : Int) (below_4 : Int) (t25 : Sl) (t26 : Int) (t27 : Int) : Env := [(0, Sl.v form_0), (3, vI above_3), (4, vI below_4), (25, Sl.v t25), (26, vI t26), (27, vI t27)]
def x2 (above_3 : Int) (below_4 : Int) : Env := [(3, vI above_3), (4, vI below_4)]
def S5 (pr : Prims) (Q : Exit → Env → World → Prop) : (Env → World → Prop) → Env → World → Prop := fun k e w => wpC pr PP cfg (DD pr) (sub (codeOf Try.f58) [1, 1, 1, 0, 1, 0, 0]) (fun ex e w => normQ ex (fun e' w' => k (Env.restr e' (lookN cfg.loops (keyOf (sub (codeOf Try.f58) [1, 1, 1, 0, 1, 0, 0])))) w') Q e w) e w
def S17 (pr : Prims) (Q : Exit → Env → World → Prop) : (Env → World → Prop) → Env → World → Prop := fun k e w => wpC pr PP cfg (DD pr) (sub (codeOf Try.f58) [1, 1, 1, 1, 0, 1, 0, 0, 1, 1, 0, 0, 1, 1, 0, 0, 1, 1, 0, 0, 1, 1, 0, 1, 0, 0]) (fun ex e w => normQ ex (fun e' w' => k (Env.restr e' (lookN cfg.loops (keyOf (sub (codeOf Try.f58) [1, 1, 1, 1, 0, 1, 0, 0, 1, 1, 0, 0, 1, 1, 0, 0, 1, 1, 0, 0, 1, 1, 0, 1, 0, 0])))) w') Q e w) e w
def S13 (pr : Prims) (Q : Exit → Env → World → Prop) : (Env → World → Prop) → Env → World → Prop := fun k e w => wpC pr PP cfg (DD pr) (sub (codeOf Try.f58) [1, 1, 1, 1, 0, 1, 0, 0, 1, 1, 0, 0, 1, 1, 0, 0]) (fun ex e w => normQ ex (fun e' w' => k (Env.restr e' (lookN cfg.loops (keyOf (sub (codeOf Try.f58) [1, 1, 1, 1, 0, 1, 0, 0, 1, 1, 0, 0, 1, 1, 0, 0])))) w') Q e w) e w
def S10 (pr : Prims) (Q : Exit → Env → World → Prop) : (Env → World → Prop) → Env → World → Prop := fun k e w => wpC pr PP cfg (DD pr) (sub (codeOf Try.f58) [1, 1, 1, 1, 0, 1, 0, 0]) (fun ex e w => normQ ex (fun e' w' => k (Env.restr e' (lookN cfg.loops (keyOf (sub (codeOf Try.f58) [1, 1, 1, 1, 0, 1, 0, 0])))) w') Q e w) e w
def B5 (pr : Prims) (form_0 : Sl) (above_3 : Int) (below_4 : Int) (t16 : Int) (t17 : Int) (w : World) (k : Env → World → Prop) (Q : Exit → Env → World → Prop) : Prop :=
  S5 pr Q k (emb5 form_0 above_3 below_4 t16 t17) w
def L5 (pr : Prims) (form_0 : Sl) (above_3 : Int) (below_4 : Int) (t16 : Int) (t17 : Int) (w : World) (Q : Exit → Env → World → Prop) : Prop :=
  pr.loop (S5 pr Q) (emb5 form_0 above_3 below_4 t16 t17) w
def B17 (pr : Prims) (form_0 : Sl) (above_3 : Int) (below_4 : Int) (i_6 : Int) (length_7 : Int) (j_8 : Int) (hook_9 : Int) (t25 : Sl) (t26 : Int) (t27 : Int) (t32 : Int) (t33 : Int) (t42 : Sl) (t43 : Int) (t44 : Int) (w : World) (k : Env → World → Prop) (Q : Exit → Env → World → Prop) : Prop :=
  S17 pr Q k (emb17 form_0 above_3 below_4 i_6 length_7 j_8 hook_9 t25 t26 t27 t32 t33 t42 t43 t44) w
def L17 (pr : Prims) (form_0 : Sl) (above_3 : Int) (below_4 : Int) (i_6 : Int) (length_7 : Int) (j_8 : Int) (hook_9 : Int) (t25 : Sl) (t26 : Int) (t27 : Int) (t32 : Int) (t33 : Int) (t42 : Sl) (t43 : Int) (t44 : Int) (w : World) (Q : Exit → Env → World → Prop) : Prop :=
  pr.loop (S17 pr Q) (emb17 form_0 above_3 below_4 i_6 length_7 j_8 hook_9 t25 t26 t27 t32 t33 t42 t43 t44) w
def B13 (pr : Prims) (form_0 : Sl) (above_3 : Int) (below_4 : Int) (i_6 : Int) (length_7 : Int) (t25 : Sl) (t26 : Int) (t27 : Int) (t32 : Int) (t33 : Int) (w : World) (k : Env → World → Prop) (Q : Exit → Env → World → Prop) : Prop :=
  S13 pr Q k (emb13 form_0 above_3 below_4 i_6 length_7 t25 t26 t27 t32 t33) w
def L13 (pr : Prims) (form_0 : Sl) (above_3 : Int) (below_4 : Int) (i_6 : Int) (length_7 : Int) (t25 : Sl) (t26 : Int) (t27 : Int) (t32 : Int) (t33 : Int) (w : World) (Q : Exit → Env → World → Prop) : Prop :=
  pr.loop (S13 pr Q) (emb13 form_0 above_3 below_4 i_6 length_7 t25 t26 t27 t32 t33) w
def B10 (pr : Prims) (form_0 : Sl) (above_3 : Int) (below_4 : Int) (t25 : Sl) (t26 : Int) (t27 : Int) (w : World) (k : Env → World → Prop) (Q : Exit → Env → World → Prop) : Prop :=
  S10 pr Q k (emb10 form_0 above_3 below_4 t25 t26 t27) w
def L10 (pr : Prims) (form_0 : Sl) (above_3 : Int) (below_4 : Int) (t25 : Sl) (t26 : Int) (t27 : Int) (w : World) (Q : Exit → Env → World → Prop) : Prop :=
  pr.loop (S10 pr Q) (emb10 form_0 above_3 below_4 t25 t26 t27) w
def E (pr : Prims) (form_0 : Sl) (w : World) (R : Ending → World → Prop) : Prop :=
  wpC pr PP cfg (DD pr) (codeOf Try.f58) (retQ Try.f58.results.toList R) (argE 0 [Sl.v form_0]) w
theorem B5_eq (pr : Prims) (form_0 : Sl) (above_3 : Int) (below_4 : Int) (t16 : Int) (t17 : Int) (w : World) (k : Env → World → Prop) (Q : Exit → Env → World → Prop) : B5 pr form_0 above_3 below_4 t16 t17 w k Q = (
  bif decide (t17 < t16) then (
  k (emb5 form_0 (w64 (above_3 * (w64 (t17 + 1)))) below_4 t16 (w64 (t17 + 1))) w)
  else (
  Q (.exit 0) (x0 form_0 above_3 below_4) w)) := by kernel_rfl
theorem B5_s (form_0 : Sl) (above_3 : Int) (below_4 : Int) (t16 : Int) (t17 : Int) (w : World) (k : Env → World → Prop) (Q : Exit → Env → World → Prop) : B5 std form_0 above_3 below_4 t16 t17 w k Q = (
  bif decide (t17 < t16) then (
  k (emb5 form_0 (w64 (above_3 * (w64 (t17 + 1)))) below_4 t16 (w64 (t17 + 1))) w)
  else (
  Q (.exit 0) (x0 form_0 above_3 below_4) w)) := B5_eq std form_0 above_3 below_4 t16 t17 w k Q
theorem L5_rule (form_0 : Sl) (above_3 : Int) (below_4 : Int) (t16 : Int) (t17 : Int) (w : World) (Q : Exit → Env → World → Prop) (I : Int → Int → World → Prop) (μ : Int → Int → World → Nat) (h0 : I above_3 t17 w)
    (h : ∀ (above_3 : Int) (t17 : Int) (w' : World), I above_3 t17 w' → B5 std form_0 above_3 below_4 t16 t17 w' (fun e2 w2 => ∃ above_3_n t17_n, e2 = emb5 form_0 above_3_n below_4 t16 t17_n ∧ I above_3_n t17_n w2 ∧ μ above_3_n t17_n w2 < μ above_3 t17 w') Q) :
    L5 std form_0 above_3 below_4 t16 t17 w Q := by
  unfold L5
  refine LoopE.intro (σ := Int × Int) (step := S5 std Q) (fun s => emb5 form_0 s.1 below_4 t16 s.2) (fun s w => I s.1 s.2 w) (fun s w => μ s.1 s.2 w) (above_3, t17) rfl h0 ?_
  intro s w' hI
  have h1 := h s.1 s.2 w' hI
  unfold B5 at h1
  simp only [Prod.exists]
  exact h1
theorem B17_eq (pr : Prims) (form_0 : Sl) (above_3 : Int) (below_4 : Int) (i_6 : Int) (length_7 : Int) (j_8 : Int) (hook_9 : Int) (t25 : Sl) (t26 : Int) (t27 : Int) (t32 : Int) (t33 : Int) (t42 : Sl) (t43 : Int) (t44 : Int) (w : World) (k : Env → World → Prop) (Q : Exit → Env → World → Prop) : B17 pr form_0 above_3 below_4 i_6 length_7 j_8 hook_9 t25 t26 t27 t32 t33 t42 t43 t44 w k Q = (
  bif decide (t44 < t43) then (
  pr.idxK 1 t42 t44 fun (a18 : Addr) =>
  pr.load1 (.int .i64) a18 w fun (ξ19 : Int) =>
  bif decide (ξ19 > j_8) then (
  k (emb17 form_0 above_3 below_4 i_6 length_7 j_8 (w64 (hook_9 + 1)) t25 t26 t27 t32 t33 t42 t43 (w64 (t44 + 1))) w)
  else (
  k (emb17 form_0 above_3 below_4 i_6 length_7 j_8 hook_9 t25 t26 t27 t32 t33 t42 t43 (w64 (t44 + 1))) w))
  else (
  Q (.exit 6) (x6 form_0 above_3 below_4 i_6 length_7 hook_9 t25 t26 t27 t32 t33) w)) := by kernel_rfl
theorem B17_s (form_0 : Sl) (above_3 : Int) (below_4 : Int) (i_6 : Int) (length_7 : Int) (j_8 : Int) (hook_9 : Int) (t25 : Sl) (t26 : Int) (t27 : Int) (t32 : Int) (t33 : Int) (t42 : Sl) (t43 : Int) (t44 : Int) (w : World) (k : Env → World → Prop) (Q : Exit → Env → World → Prop) : B17 std form_0 above_3 below_4 i_6 length_7 j_8 hook_9 t25 t26 t27 t32 t33 t42 t43 t44 w k Q = (
  bif decide (t44 < t43) then (
  idxK 1 t42 t44 fun (a18 : Addr) =>
  load1 (.int .i64) a18 w fun (ξ19 : Int) =>
  bif decide (ξ19 > j_8) then (
  k (emb17 form_0 above_3 below_4 i_6 length_7 j_8 (w64 (hook_9 + 1)) t25 t26 t27 t32 t33 t42 t43 (w64 (t44 + 1))) w)
  else (
  k (emb17 form_0 above_3 below_4 i_6 length_7 j_8 hook_9 t25 t26 t27 t32 t33 t42 t43 (w64 (t44 + 1))) w))
  else (
  Q (.exit 6) (x6 form_0 above_3 below_4 i_6 length_7 hook_9 t25 t26 t27 t32 t33) w)) := B17_eq std form_0 above_3 below_4 i_6 length_7 j_8 hook_9 t25 t26 t27 t32 t33 t42 t43 t44 w k Q
theorem L17_rule (form_0 : Sl) (above_3 : Int) (below_4 : Int) (i_6 : Int) (length_7 : Int) (j_8 : Int) (hook_9 : Int) (t25 : Sl) (t26 : Int) (t27 : Int) (t32 : Int) (t33 : Int) (t42 : Sl) (t43 : Int) (t44 : Int) (w : World) (Q : Exit → Env → World → Prop) (I : Int → Int → World → Prop) (μ : Int → Int → World → Nat) (h0 : I hook_9 t44 w)
    (h : ∀ (hook_9 : Int) (t44 : Int) (w' : World), I hook_9 t44 w' → B17 std form_0 above_3 below_4 i_6 length_7 j_8 hook_9 t25 t26 t27 t32 t33 t42 t43 t44 w' (fun e2 w2 => ∃ hook_9_n t44_n, e2 = emb17 form_0 above_3 below_4 i_6 length_7 j_8 hook_9_n t25 t26 t27 t32 t33 t42 t43 t44_n ∧ I hook_9_n t44_n w2 ∧ μ hook_9_n t44_n w2 < μ hook_9 t44 w') Q) :
    L17 std form_0 above_3 below_4 i_6 length_7 j_8 hook_9 t25 t26 t27 t32 t33 t42 t43 t44 w Q := by
  unfold L17
  refine LoopE.intro (σ := Int × Int) (step := S17 std Q) (fun s => emb17 form_0 above_3 below_4 i_6 length_7 j_8 s.1 t25 t26 t27 t32 t33 t42 t43 s.2) (fun s w => I s.1 s.2 w) (fun s w => μ s.1 s.2 w) (hook_9, t44) rfl h0 ?_
  intro s w' hI
  have h1 := h s.1 s.2 w' hI
  unfold B17 at h1
  simp only [Prod.exists]
  exact h1
theorem A17_6_eq (pr : Prims) (form_0 : Sl) (above_3 : Int) (below_4 : Int) (i_6 : Int) (length_7 : Int) (hook_9 : Int) (t25 : Sl) (t26 : Int) (t27 : Int) (t32 : Int) (t33 : Int) (w : World) (k : Env → World → Prop) (Q : Exit → Env → World → Prop) : (q17 pr k Q) (.exit 6) (x6 form_0 above_3 below_4 i_6 length_7 hook_9 t25 t26 t27 t32 t33) w = (
  k (emb13 form_0 above_3 (w64 (below_4 * hook_9)) i_6 length_7 t25 t26 t27 t32 (w64 (t33 + 1))) w) := by kernel_rfl
theorem A17_6_s (form_0 : Sl) (above_3 : Int) (below_4 : Int) (i_6 : Int) (length_7 : Int) (hook_9 : Int) (t25 : Sl) (t26 : Int) (t27 : Int) (t32 : Int) (t33 : Int) (w : World) (k : Env → World → Prop) (Q : Exit → Env → World → Prop) : (q17 std k Q) (.exit 6) (x6 form_0 above_3 below_4 i_6 length_7 hook_9 t25 t26 t27 t32 t33) w = (
  k (emb13 form_0 above_3 (w64 (below_4 * hook_9)) i_6 length_7 t25 t26 t27 t32 (w64 (t33 + 1))) w) := A17_6_eq std form_0 above_3 below_4 i_6 length_7 hook_9 t25 t26 t27 t32 t33 w k Q
theorem B13_eq (pr : Prims) (form_0 : Sl) (above_3 : Int) (below_4 : Int) (i_6 : Int) (length_7 : Int) (t25 : Sl) (t26 : Int) (t27 : Int) (t32 : Int) (t33 : Int) (w : World) (k : Env → World → Prop) (Q : Exit → Env → World → Prop) : B13 pr form_0 above_3 below_4 i_6 length_7 t25 t26 t27 t32 t33 w k Q = (
  bif decide (t33 < t32) then (
  pr.cutK 1 form_0 (some (w64 (i_6 + 1))) none fun (s16 : Sl) =>
  L17 pr form_0 above_3 below_4 i_6 length_7 t33 (w64 (length_7 - t33)) t25 t26 t27 t32 t33 s16 (s16.n : Int) 0 w (q17 pr k Q))
  else (
  Q (.exit 4) (x4 form_0 above_3 below_4 t25 t26 t27) w)) := by kernel_rfl
theorem B13_s (form_0 : Sl) (above_3 : Int) (below_4 : Int) (i_6 : Int) (length_7 : Int) (t25 : Sl) (t26 : Int) (t27 : Int) (t32 : Int) (t33 : Int) (w : World) (k : Env → World → Prop) (Q : Exit → Env → World → Prop) : B13 std form_0 above_3 below_4 i_6 length_7 t25 t26 t27 t32 t33 w k Q = (
  bif decide (t33 < t32) then (
  cutK 1 form_0 (some (w64 (i_6 + 1))) none fun (s16 : Sl) =>
  L17 std form_0 above_3 below_4 i_6 length_7 t33 (w64 (length_7 - t33)) t25 t26 t27 t32 t33 s16 (s16.n : Int) 0 w (q17 std k Q))
  else (
  Q (.exit 4) (x4 form_0 above_3 below_4 t25 t26 t27) w)) := B13_eq std form_0 above_3 below_4 i_6 length_7 t25 t26 t27 t32 t33 w k Q
theorem L13_rule (form_0 : Sl) (above_3 : Int) (below_4 : Int) (i_6 : Int) (length_7 : Int) (t25 : Sl) (t26 : Int) (t27 : Int) (t32 : Int) (t33 : Int) (w : World) (Q : Exit → Env → World → Prop) (I : Int → Int → World → Prop) (μ : Int → Int → World → Nat) (h0 : I below_4 t33 w)
    (h : ∀ (below_4 : Int) (t33 : Int) (w' : World), I below_4 t33 w' → B13 std form_0 above_3 below_4 i_6 length_7 t25 t26 t27 t32 t33 w' (fun e2 w2 => ∃ below_4_n t33_n, e2 = emb13 form_0 above_3 below_4_n i_6 length_7 t25 t26 t27 t32 t33_n ∧ I below_4_n t33_n w2 ∧ μ below_4_n t33_n w2 < μ below_4 t33 w') Q) :
    L13 std form_0 above_3 below_4 i_6 length_7 t25 t26 t27 t32 t33 w Q := by
  unfold L13
  refine LoopE.intro (σ := Int × Int) (step := S13 std Q) (fun s => emb13 form_0 above_3 s.1 i_6 length_7 t25 t26 t27 t32 s.2) (fun s w => I s.1 s.2 w) (fun s w => μ s.1 s.2 w) (below_4, t33) rfl h0 ?_
  intro s w' hI
  have h1 := h s.1 s.2 w' hI
  unfold B13 at h1
  simp only [Prod.exists]
  exact h1
theorem A13_4_eq (pr : Prims) (form_0 : Sl) (above_3 : Int) (below_4 : Int) (t25 : Sl) (t26 : Int) (t27 : Int) (w : World) (k : Env → World → Prop) (Q : Exit → Env → World → Prop) : (q12 pr k Q) (.exit 4) (x4 form_0 above_3 below_4 t25 t26 t27) w = (
  k (emb10 form_0 above_3 below_4 t25 t26 (w64 (t27 + 1))) w) := by kernel_rfl
theorem A13_4_s (form_0 : Sl) (above_3 : Int) (below_4 : Int) (t25 : Sl) (t26 : Int) (t27 : Int) (w : World) (k : Env → World → Prop) (Q : Exit → Env → World → Prop) : (q12 std k Q) (.exit 4) (x4 form_0 above_3 below_4 t25 t26 t27) w = (
  k (emb10 form_0 above_3 below_4 t25 t26 (w64 (t27 + 1))) w) := A13_4_eq std form_0 above_3 below_4 t25 t26 t27 w k Q
theorem A13_6_eq (pr : Prims) (form_0 : Sl) (above_3 : Int) (below_4 : Int) (i_6 : Int) (length_7 : Int) (hook_9 : Int) (t25 : Sl) (t26 : Int) (t27 : Int) (t32 : Int) (t33 : Int) (w : World) (k : Env → World → Prop) (Q : Exit → Env → World → Prop) : (q12 pr k Q) (.exit 6) (x6 form_0 above_3 below_4 i_6 length_7 hook_9 t25 t26 t27 t32 t33) w = (
  Q (.exit 6) (x6 form_0 above_3 below_4 i_6 length_7 hook_9 t25 t26 t27 t32 t33) w) := by kernel_rfl
theorem A13_6_s (form_0 : Sl) (above_3 : Int) (below_4 : Int) (i_6 : Int) (length_7 : Int) (hook_9 : Int) (t25 : Sl) (t26 : Int) (t27 : Int) (t32 : Int) (t33 : Int) (w : World) (k : Env → World → Prop) (Q : Exit → Env → World → Prop) : (q12 std k Q) (.exit 6) (x6 form_0 above_3 below_4 i_6 length_7 hook_9 t25 t26 t27 t32 t33) w = (
  Q (.exit 6) (x6 form_0 above_3 below_4 i_6 length_7 hook_9 t25 t26 t27 t32 t33) w) := A13_6_eq std form_0 above_3 below_4 i_6 length_7 hook_9 t25 t26 t27 t32 t33 w k Q
theorem B10_eq (pr : Prims) (form_0 : Sl) (above_3 : Int) (below_4 : Int) (t25 : Sl) (t26 : Int) (t27 : Int) (w : World) (k : Env → World → Prop) (Q : Exit → Env → World → Prop) : B10 pr form_0 above_3 below_4 t25 t26 t27 w k Q = (
  bif decide (t27 < t26) then (
  pr.idxK 1 t25 t27 fun (a10 : Addr) =>
  pr.load1 (.int .i64) a10 w fun (ξ11 : Int) =>
  L13 pr form_0 above_3 below_4 t27 ξ11 t25 t26 t27 ξ11 0 w (q12 pr k Q))
  else (
  Q (.exit 2) (x2 above_3 below_4) w)) := by kernel_rfl
theorem B10_s (form_0 : Sl) (above_3 : Int) (below_4 : Int) (t25 : Sl) (t26 : Int) (t27 : Int) (w : World) (k : Env → World → Prop) (Q : Exit → Env → World → Prop) : B10 std form_0 above_3 below_4 t25 t26 t27 w k Q = (
  bif decide (t27 < t26) then (
  idxK 1 t25 t27 fun (a10 : Addr) =>
  load1 (.int .i64) a10 w fun (ξ11 : Int) =>
  L13 std form_0 above_3 below_4 t27 ξ11 t25 t26 t27 ξ11 0 w (q12 std k Q))
  else (
  Q (.exit 2) (x2 above_3 below_4) w)) := B10_eq std form_0 above_3 below_4 t25 t26 t27 w k Q
theorem L10_rule (form_0 : Sl) (above_3 : Int) (below_4 : Int) (t25 : Sl) (t26 : Int) (t27 : Int) (w : World) (Q : Exit → Env → World → Prop) (I : Int → Int → World → Prop) (μ : Int → Int → World → Nat) (h0 : I below_4 t27 w)
    (h : ∀ (below_4 : Int) (t27 : Int) (w' : World), I below_4 t27 w' → B10 std form_0 above_3 below_4 t25 t26 t27 w' (fun e2 w2 => ∃ below_4_n t27_n, e2 = emb10 form_0 above_3 below_4_n t25 t26 t27_n ∧ I below_4_n t27_n w2 ∧ μ below_4_n t27_n w2 < μ below_4 t27 w') Q) :
    L10 std form_0 above_3 below_4 t25 t26 t27 w Q := by
  unfold L10
  refine LoopE.intro (σ := Int × Int) (step := S10 std Q) (fun s => emb10 form_0 above_3 s.1 t25 t26 s.2) (fun s w => I s.1 s.2 w) (fun s w => μ s.1 s.2 w) (below_4, t27) rfl h0 ?_
  intro s w' hI
  have h1 := h s.1 s.2 w' hI
  unfold B10 at h1
  simp only [Prod.exists]
  exact h1
theorem A10_2_eq (pr : Prims) (above_3 : Int) (below_4 : Int) (w : World) (R : Ending → World → Prop) : (q7 pr R) (.exit 2) (x2 above_3 below_4) w = (
  below_4 ≠ (0 : Int) ∧
  R (.returned (vI (w64 (above_3.tdiv below_4)))) w) := by kernel_rfl
theorem A10_2_s (above_3 : Int) (below_4 : Int) (w : World) (R : Ending → World → Prop) : (q7 std R) (.exit 2) (x2 above_3 below_4) w = (
  below_4 ≠ (0 : Int) ∧
  R (.returned (vI (w64 (above_3.tdiv below_4)))) w) := A10_2_eq std above_3 below_4 w R
theorem A5_0_eq (pr : Prims) (form_0 : Sl) (above_3 : Int) (below_4 : Int) (w : World) (R : Ending → World → Prop) : (q5 pr R) (.exit 0) (x0 form_0 above_3 below_4) w = (
  L10 pr form_0 above_3 below_4 form_0 (form_0.n : Int) 0 w (q7 pr R)) := by kernel_rfl
theorem A5_0_s (form_0 : Sl) (above_3 : Int) (below_4 : Int) (w : World) (R : Ending → World → Prop) : (q5 std R) (.exit 0) (x0 form_0 above_3 below_4) w = (
  L10 std form_0 above_3 below_4 form_0 (form_0.n : Int) 0 w (q7 std R)) := A5_0_eq std form_0 above_3 below_4 w R
theorem E_eq (pr : Prims) (form_0 : Sl) (w : World) (R : Ending → World → Prop) : E pr form_0 w R = (
  pr.call1 .bool PP F.impl_isForm #[Sl.v form_0, vI 12] w fun (ρ0 : Bool) ω1 =>
  bif !ρ0 then (
  R (.returned (vI 0)) ω1)
  else (
  pr.call1 (.int .i64) PP F.impl_total #[Sl.v form_0] ω1 fun (ρ3 : Int) ω4 =>
  L5 pr form_0 1 1 ρ3 0 ω4 (q5 pr R))) := by kernel_rfl
theorem E_s (form_0 : Sl) (w : World) (R : Ending → World → Prop) : E std form_0 w R = (
  call1 .bool PP F.impl_isForm #[Sl.v form_0, vI 12] w fun (ρ0 : Bool) ω1 =>
  bif !ρ0 then (
  R (.returned (vI 0)) ω1)
  else (
  call1 (.int .i64) PP F.impl_total #[Sl.v form_0] ω1 fun (ρ3 : Int) ω4 =>
  L5 std form_0 1 1 ρ3 0 ω4 (q5 std R))) := E_eq std form_0 w R
theorem drawsOk : drawsOk PP cfg okD (codeOf Try.f58) = true := by kernel_rfl
theorem calls (form_0 : Sl) {w : World} {R : Ending → World → Prop} (h : E std form_0 w R) : Calls PP F.impl_CountTableaux #[Sl.v form_0] w R :=
  calls_of noCount mixed drawOk Try.func58 rfl (c := cfg) (args := [Sl.v form_0]) rfl (Nat.le_of_ble_eq_true (by kernel_rfl)) drawsOk h
end impl_CountTableaux

end Go.Proofs.Ytdchjhhpbdekeaa

/- The number of tableaux of a form: both texts reckon the same products; and the law. -/
namespace Go.Proofs.Ytdchjhhpbdekeaa
open Go Go.RowKit
set_option maxRecDepth 100000

def facP : Nat → Int
  | 0 => 1
  | k + 1 => w64 (facP k * ((k : Int) + 1))
/-- The hook's length, the rows behind r up to the j-th counted. -/
def hookL (L : List Int) (r : Nat) (c : Int) : Nat → Int
  | 0 => L.getD r 0 - c
  | j + 1 => hookL L r c j + (if c < L.getD (r + 1 + j) 0 then 1 else 0)
def rowP (L : List Int) (r : Nat) (b : Int) : Nat → Int
  | 0 => b
  | c + 1 => w64 (rowP L r b c * hookL L r c (L.length - (r + 1)))
def botP (L : List Int) : Nat → Int
  | 0 => 1
  | r + 1 => rowP L r (botP L r) (L.getD r 0).toNat
theorem hk_bound (L : List Int) (r : Nat) (c : Int) (j : Nat) : L.getD r 0 - c ≤ hookL L r c j ∧ hookL L r c j ≤ L.getD r 0 - c + j := by
  induction j with
  | zero => simp [hookL]
  | succ j ih => simp only [hookL]; split <;> omega
theorem pow24 {k : Nat} (h : k ≤ 12) : (24 : Int) ^ k ≤ 36520347436056576 := by
  have : ∀ k, k ≤ 12 → (24 : Int) ^ k ≤ 36520347436056576 := by decide
  exact this k h
theorem step24 {b h : Int} {k : Nat} (hk : k + 1 ≤ 12) (h0 : 1 ≤ b) (h1 : b ≤ 24 ^ k) (h2 : 1 ≤ h) (h3 : h ≤ 24) : 1 ≤ w64 (b * h) ∧ w64 (b * h) ≤ 24 ^ (k + 1) := by
  have e1 : b * h ≤ 24 ^ k * 24 := Int.mul_le_mul h1 h3 (by omega) (by omega)
  have e2 : 1 * 1 ≤ b * h := Int.mul_le_mul h0 h2 (by omega) (by omega)
  rw [← Int.pow_succ] at e1
  have := pow24 hk
  rw [w64_id (by omega) (by omega)]
  omega
theorem FormOk.posC {L : List Int} {m : Int} (h : FormOk L m) : ∀ j, j < L.length → 1 ≤ L.getD j 0 := fun j hj => (h j hj).1
theorem FormOk.len {L : List Int} {m : Int} (h : FormOk L m) (hm : 0 ≤ m) : (L.length : Int) ≤ sm L L.length ∧ sm L L.length ≤ m := by
  refine ⟨sm_ge h.posC, ?_⟩
  rcases Nat.eq_zero_or_pos L.length with h1 | h1
  · rw [h1]; exact hm
  · have h2 := (h (L.length - 1) (by omega)).2.1
    have : L.length = (L.length - 1) + 1 := by omega
    rw [this]; exact h2
theorem rowP_bound {L : List Int} (h : FormOk L 12) {r : Nat} (hr : r < L.length) {b : Int} {s : Nat} (hb : 1 ≤ b ∧ b ≤ 24 ^ s) (hs : s = (sm L r).toNat) :
    ∀ c : Nat, (c : Int) ≤ L.getD r 0 → 1 ≤ rowP L r b c ∧ rowP L r b c ≤ 24 ^ (s + c)
  | 0, _ => hb
  | c + 1, hc => by
    have ih := rowP_bound h hr hb hs c (by omega)
    have h1 := hk_bound L r c (L.length - (r + 1))
    have h2 := (h r hr).2.1
    have h3 := h.len (by omega)
    have h4 := sm_ge (L := L) (k := r) (fun j hj => h.posC j (by omega))
    have := step24 (k := s + c) (by omega) ih.1 ih.2 (h := hookL L r c (L.length - (r + 1))) (by omega) (by omega)
    simpa [rowP, Nat.add_assoc] using this
theorem botP_bound {L : List Int} (h : FormOk L 12) : ∀ r : Nat, r ≤ L.length → 1 ≤ botP L r ∧ botP L r ≤ 24 ^ (sm L r).toNat
  | 0, _ => by simp [botP, sm]
  | r + 1, hr => by
    have ih := botP_bound h r (by omega)
    have h1 := h.posC r (by omega)
    have h4 := sm_ge (L := L) (k := r) (fun j hj => h.posC j (by omega))
    have := rowP_bound h (by omega) ih rfl (L.getD r 0).toNat (by omega)
    have e : (sm L (r + 1)).toNat = (sm L r).toNat + (L.getD r 0).toNat := by simp only [sm]; omega
    rw [e]; exact this
open Classical in
noncomputable def ctV (L : List Int) : Int := if FormOk L 12 then w64 ((facP (sm L L.length).toNat).tdiv (botP L L.length)) else 0

theorem c_totalC {w : World} {a : Sl} {L : List Int} (ha : RowI w a L) (hf : FormOk L 12) : Quiet F.impl_total #[a.v] w (vI (sm L L.length)) := by
  intro w1 hd
  have han : a.n = L.length := by have := ha.n; simpa using this
  have hlen := hf.len (by omega)
  refine impl_total.calls a ?_
  rw [impl_total.E_s]
  refine impl_total.L3_rule _ _ _ _ _ _ (I := fun s k w' => w' = w1 ∧ 0 ≤ k ∧ k ≤ L.length ∧ s = sm L k.toNat) (μ := fun _ k _ => (L.length - k).toNat) ⟨rfl, by omega, by omega, rfl⟩ ?_
  rintro s k w' ⟨rfl, h0, hk, hs⟩
  rw [impl_total.B3_s]
  refine bif_dec (fun h3 => ?_) (fun h3 => ?_)
  · refine RowI.get (ha.heap hd.heap') h0 (by omega) ?_
    have h1 := sm_ge (L := L) (k := k.toNat) (fun j hj => hf.posC j (by omega))
    have h2 := hf k.toNat (by omega)
    have h4 := h2.1
    have h5 := h2.2.1
    refine ⟨sm L (k.toNat + 1), k + 1, ?_, ⟨rfl, by omega, by omega, by rw [show (k + 1).toNat = k.toNat + 1 by omega]⟩, by omega⟩
    rw [w64_succ h0 (by omega), w64_id (by omega) (by omega), hs]; rfl
  · rw [impl_total.A3_0_s]
    have e : k.toNat = L.length := by omega
    rw [e] at hs
    exact ⟨by rw [hs], Drew.refl _⟩

theorem c_implCountTableaux {w : World} {a : Sl} {L : List Int} (ha : RowI w a L) (hL : L.length < 2^39) (hbd : ∀ x ∈ L, -9223372036854775808 ≤ x ∧ x ≤ 9223372036854775807) :
    Quiet F.impl_CountTableaux #[a.v] w (vI (ctV L)) := by
  classical
  intro w1 hd
  have han : a.n = L.length := by have := ha.n; simpa using this
  refine impl_CountTableaux.calls a ?_
  rw [impl_CountTableaux.E_s]
  refine Quiet.call1 (s := .bool) (c_isForm (ha.heap hd.heap') hL hbd (by omega) (by omega)) ?_
  intro w2 hd2
  refine bif_intro (fun h => ?_) (fun h => ?_)
  · have h : ¬ FormOk L 12 := by simpa using h
    exact ⟨by rw [ctV, if_neg h], hd2⟩
  have hf : FormOk L 12 := by simpa using h
  have hlen := hf.len (by omega)
  refine Quiet.call1 (s := .int .i64) (c_totalC (ha.heap (hd.trans hd2).heap') hf) ?_
  intro w3 hd3
  have hd13 := hd2.trans hd3
  have ha3 : RowI w3 a L := ha.heap (hd.trans hd13).heap'
  refine impl_CountTableaux.L5_rule _ _ _ _ _ _ _ (I := fun ab k w' => w' = w3 ∧ 0 ≤ k ∧ k ≤ sm L L.length ∧ ab = facP k.toNat) (μ := fun _ k _ => (sm L L.length - k).toNat) ⟨rfl, by omega, by omega, rfl⟩ ?_
  rintro ab k w' ⟨rfl, h0, hk, hab⟩
  rw [impl_CountTableaux.B5_s]
  refine bif_dec (fun h3 => ?_) (fun h3 => ?_)
  · refine ⟨facP (k.toNat + 1), k + 1, ?_, ⟨rfl, by omega, by omega, by rw [show (k + 1).toNat = k.toNat + 1 by omega]⟩, by omega⟩
    rw [w64_succ h0 (by omega), facP, hab, Int.toNat_of_nonneg h0]
  rw [impl_CountTableaux.A5_0_s]
  have ek : k.toNat = (sm L L.length).toNat := by omega
  rw [ek] at hab
  refine impl_CountTableaux.L10_rule _ _ _ _ _ _ _ _ (I := fun be r w2 => w2 = w' ∧ 0 ≤ r ∧ r ≤ L.length ∧ be = botP L r.toNat) (μ := fun _ r _ => (L.length - r).toNat) ⟨rfl, by omega, by omega, rfl⟩ ?_
  rintro be r w2 ⟨rfl, hr0, hr, hbe⟩
  rw [impl_CountTableaux.B10_s]
  refine bif_dec (fun h4 => ?_) (fun h4 => ?_)
  · have hrl : r.toNat < L.length := by omega
    have hpos := hf.posC _ hrl
    have hle := (hf _ hrl).2.1
    have hge := sm_ge (L := L) (k := r.toNat) (fun j hj => hf.posC j (by omega))
    refine RowI.get ha3 hr0 (by omega) ?_
    refine impl_CountTableaux.L13_rule _ _ _ _ _ _ _ _ _ _ _ _ (I := fun be c w4 => w4 = w2 ∧ 0 ≤ c ∧ c ≤ L.getD r.toNat 0 ∧ be = rowP L r.toNat (botP L r.toNat) c.toNat) (μ := fun _ c _ => (L.getD r.toNat 0 - c).toNat) ⟨rfl, by omega, by omega, hbe⟩ ?_
    rintro be c w4 ⟨rfl, hc0, hc, hbe2⟩
    rw [impl_CountTableaux.B13_s]
    refine bif_dec (fun h5 => ?_) (fun h5 => ?_)
    · rw [w64_succ hr0 (by omega)]
      refine Row.cut ha3 (by simp; omega) (by simp; omega) (by simp; omega) ?_
      intro t ht
      have ht : RowI w4 t (L.drop (r.toNat + 1)) := by
        have e1 : (some (r + 1)).getD 0 = r + 1 := rfl
        have e2 : (none : Option Int).getD (a.n : Int) = a.n := rfl
        rw [e1, e2, han] at ht
        rw [show (r + 1).toNat = r.toNat + 1 by omega] at ht
        simpa [RowI, List.take_of_length_le] using ht
      have htn : t.n = L.length - (r.toNat + 1) := by have := ht.n; simpa using this
      refine impl_CountTableaux.L17_rule _ _ _ _ _ _ _ _ _ _ _ _ _ _ _ _ _ (I := fun h j w5 => w5 = w4 ∧ 0 ≤ j ∧ j ≤ L.length - (r.toNat + 1) ∧ h = hookL L r.toNat c j.toNat) (μ := fun _ j _ => (L.length - (r.toNat + 1) - j).toNat)
        ⟨rfl, by omega, by omega, by rw [w64_id (by omega) (by omega)]; rfl⟩ ?_
      rintro h j w5 ⟨rfl, hj0, hj, hh⟩
      have hkb := hk_bound L r.toNat c j.toNat
      rw [impl_CountTableaux.B17_s]
      refine bif_dec (fun h6 => ?_) (fun h6 => ?_)
      · refine RowI.get ht hj0 (by simp; omega) ?_
        have eg : (L.drop (r.toNat + 1)).getD j.toNat 0 = L.getD (r.toNat + 1 + j.toNat) 0 := by simp [List.getD_eq_getElem?_getD, List.getElem?_drop]
        rw [eg]
        have es : (j + 1).toNat = j.toNat + 1 := by omega
        refine bif_dec (fun h7 => ?_) (fun h7 => ?_)
        · refine ⟨h + 1, j + 1, by rw [w64_succ hj0 (by omega), w64_id (n := h + 1) (by omega) (by omega)], ⟨rfl, by omega, by omega, ?_⟩, by omega⟩
          rw [es, hookL, if_pos h7, hh]
        · refine ⟨h, j + 1, by rw [w64_succ hj0 (by omega)], ⟨rfl, by omega, by omega, ?_⟩, by omega⟩
          rw [es, hookL, if_neg h7, hh]; omega
      · rw [impl_CountTableaux.A17_6_s]
        have ej : j.toNat = L.length - (r.toNat + 1) := by omega
        rw [ej] at hh
        refine ⟨_, c + 1, by rw [w64_succ hc0 (by omega)], ⟨rfl, by omega, by omega, ?_⟩, by omega⟩
        rw [show (c + 1).toNat = c.toNat + 1 by omega, rowP, ← hbe2, hh, Int.toNat_of_nonneg hc0]
    · rw [impl_CountTableaux.A13_4_s]
      have ec : c.toNat = (L.getD r.toNat 0).toNat := by omega
      rw [ec] at hbe2
      refine ⟨_, r + 1, by rw [w64_succ hr0 (by omega)], ⟨rfl, by omega, by omega, ?_⟩, by omega⟩
      rw [show (r + 1).toNat = r.toNat + 1 by omega, botP, hbe2]
  · rw [impl_CountTableaux.A10_2_s]
    have er : r.toNat = L.length := by omega
    rw [er] at hbe
    have hnz := (botP_bound hf L.length (Nat.le_refl _)).1
    refine ⟨by rw [hbe]; omega, ?_, hd13⟩
    rw [ctV, if_pos hf, hab, hbe]

theorem c_specCountTableaux {w : World} {a : Sl} {L : List Int} (ha : RowI w a L) (hL : L.length < 2^39) :
    Quiet F.spec_CountTableaux #[a.v] w (vI (ctV L)) := by
  classical
  intro w1 hd
  have han : a.n = L.length := by have := ha.n; simpa using this
  refine spec_CountTableaux.calls a ?_
  rw [spec_CountTableaux.E_s]
  refine Quiet.call1 (s := .bool) (c_l19Form (ha.heap hd.heap') hL (by omega) (by omega)) ?_
  intro w2 hd2
  refine bif_intro (fun h => ?_) (fun h => ?_)
  · have h : ¬ FormOk L 12 := by simpa using h
    exact ⟨by rw [ctV, if_neg h], hd2⟩
  have hf : FormOk L 12 := by simpa using h
  have hlen := hf.len (by omega)
  have ha3 : RowI w2 a L := ha.heap (hd.trans hd2).heap'
  refine spec_CountTableaux.L7_rule _ _ _ _ _ _ _ (I := fun top be n r w' => w' = w2 ∧ 0 ≤ r ∧ r ≤ L.length ∧ n = sm L r.toNat ∧ top = facP n.toNat ∧ be = botP L r.toNat) (μ := fun _ _ _ r _ => (L.length - r).toNat) ⟨rfl, by omega, by omega, rfl, rfl, rfl⟩ ?_
  rintro top be n r w' ⟨rfl, hr0, hr, hn, htop, hbe⟩
  rw [spec_CountTableaux.B7_s]
  refine bif_dec (fun h4 => ?_) (fun h4 => ?_)
  · have hrl : r.toNat < L.length := by omega
    have hpos := hf.posC _ hrl
    have hle := (hf _ hrl).2.1
    have hge := sm_ge (L := L) (k := r.toNat) (fun j hj => hf.posC j (by omega))
    refine spec_CountTableaux.L10_rule _ _ _ _ _ _ _ _ (I := fun top be n c w4 => w4 = w' ∧ 0 ≤ c ∧ c ≤ L.getD r.toNat 0 ∧ n = sm L r.toNat + c ∧ top = facP n.toNat ∧ be = rowP L r.toNat (botP L r.toNat) c.toNat) (μ := fun _ _ _ c _ => (L.getD r.toNat 0 - c).toNat)
      ⟨rfl, by omega, by omega, by omega, htop, hbe⟩ ?_
    rintro top be n c w4 ⟨rfl, hc0, hc, hn2, htop2, hbe2⟩
    rw [spec_CountTableaux.B10_s]
    refine RowI.get ha3 hr0 (by omega) ?_
    refine bif_dec (fun h5 => ?_) (fun h5 => ?_)
    · refine RowI.get ha3 hr0 (by omega) ?_
      have en : w64 (n + 1) = n + 1 := w64_succ (by omega) (by omega)
      have et : w64 (top * (n + 1)) = facP (n + 1).toNat := by
        rw [show (n + 1).toNat = n.toNat + 1 by omega, facP, htop2, Int.toNat_of_nonneg (by omega)]
      rw [en, et, w64_succ hr0 (by omega)]
      refine spec_CountTableaux.L16_rule _ _ _ _ _ _ _ _ _ _ (I := fun h i w5 => w5 = w4 ∧ r + 1 ≤ i ∧ i ≤ L.length ∧ h = hookL L r.toNat c (i - (r + 1)).toNat) (μ := fun _ i _ => (L.length - i).toNat)
        ⟨rfl, by omega, by omega, by rw [w64_id (by omega) (by omega), show (r + 1 - (r + 1)).toNat = 0 by omega]; rfl⟩ ?_
      rintro h i w5 ⟨rfl, hi0, hi, hh⟩
      have hkb := hk_bound L r.toNat c (i - (r + 1)).toNat
      rw [spec_CountTableaux.B16_s]
      refine bif_dec (fun h6 => ?_) (fun h6 => ?_)
      · refine RowI.get ha3 (by omega) (by omega) ?_
        refine Pure.pcall1 (s := .int .i64) (c_l1Bit _) ?_
        have es : (i + 1 - (r + 1)).toNat = (i - (r + 1)).toNat + 1 := by omega
        have ei : r.toNat + 1 + (i - (r + 1)).toNat = i.toNat := by omega
        have hkb2 := hk_bound L r.toNat c ((i - (r + 1)).toNat + 1)
        refine ⟨hookL L r.toNat c ((i - (r + 1)).toNat + 1), i + 1, ?_, ⟨rfl, by omega, by omega, by rw [es]⟩, by omega⟩
        rw [w64_succ (by omega) (by omega)]
        congr 1
        have e9 : h + (if decide (L.getD i.toNat 0 > c) = true then 1 else 0) = hookL L r.toNat c ((i - (r + 1)).toNat + 1) := by
          rw [hookL, ei, hh]; simp
        rw [e9, w64_id (by omega) (by omega)]
      · rw [spec_CountTableaux.A16_4_s]
        have ej : (i - (r + 1)).toNat = L.length - (r.toNat + 1) := by omega
        rw [ej] at hh
        refine ⟨_, _, n + 1, c + 1, by rw [w64_succ hc0 (by omega)], ⟨rfl, by omega, by omega, by omega, rfl, ?_⟩, by omega⟩
        rw [show (c + 1).toNat = c.toNat + 1 by omega, rowP, ← hbe2, hh, Int.toNat_of_nonneg hc0]
    · rw [spec_CountTableaux.A10_2_s]
      have ec : c.toNat = (L.getD r.toNat 0).toNat := by omega
      rw [ec] at hbe2
      refine ⟨top, be, n, r + 1, by rw [w64_succ hr0 (by omega)], ⟨rfl, by omega, by omega, ?_, htop2, ?_⟩, by omega⟩
      · rw [show (r + 1).toNat = r.toNat + 1 by omega, sm]; omega
      · rw [show (r + 1).toNat = r.toNat + 1 by omega, botP, hbe2]
  · rw [spec_CountTableaux.A7_0_s]
    have er : r.toNat = L.length := by omega
    rw [er] at hbe hn
    have hnz := (botP_bound hf L.length (Nat.le_refl _)).1
    refine ⟨by rw [hbe]; omega, ?_, hd2⟩
    rw [ctV, if_pos hf, htop, hbe, hn]

end Go.Proofs.Ytdchjhhpbdekeaa

/- The tableaux of a form of at most six numbers: all are tableaux of that form, and the products count them. -/
namespace Go.Proofs.Ytdchjhhpbdekeaa
open Go
set_option maxRecDepth 100000

/-! ### The forms -/
def partsN : Nat → Nat → Nat → List (List Int)
  | 0, _, _ => [[]]
  | n + 1, r, m => [] :: (List.range (min r m)).flatMap fun x => (partsN n (r - (x + 1)) (x + 1)).map fun (L : List Int) => ((x : Int) + 1) :: L
theorem sm_cons (x : Int) (L : List Int) : ∀ j, sm (x :: L) (j + 1) = x + sm L j
  | 0 => by simp [sm]
  | j + 1 => by
    rw [sm, sm_cons x L j, sm]
    simp only [List.getD_cons_succ]
    omega
theorem mem_parts : ∀ (n r m : Nat) (L : List Int), L.length ≤ n → (∀ j, j < L.length → 1 ≤ L.getD j 0 ∧ sm L j + L.getD j 0 ≤ r ∧ (if j = 0 then L.getD j 0 ≤ m else L.getD j 0 ≤ L.getD (j - 1) 0)) → L ∈ partsN n r m
  | 0, r, m, L, hl, _ => by
    have : L = [] := List.eq_nil_of_length_eq_zero (by omega)
    subst this; simp [partsN]
  | n + 1, r, m, [], _, _ => by simp [partsN]
  | n + 1, r, m, x :: L, hl, h => by
    have h0 := h 0 (by simp)
    simp only [List.getD_cons_zero, sm, if_true] at h0
    rw [partsN]
    refine List.mem_cons_of_mem _ (List.mem_flatMap.2 ⟨(x - 1).toNat, List.mem_range.2 (by omega), List.mem_map.2 ⟨L, mem_parts n _ _ L (by simpa using hl) fun j hj => ?_, by congr 1; omega⟩⟩)
    have h1 := h (j + 1) (by simpa using hj)
    rw [sm_cons, if_neg (by omega)] at h1
    simp only [List.getD_cons_succ, Nat.add_sub_cancel] at h1
    refine ⟨h1.1, by omega, ?_⟩
    split
    · rename_i e; subst e; simp only [List.getD_cons_zero] at h1; omega
    · obtain ⟨i, rfl⟩ : ∃ i, j = i + 1 := ⟨j - 1, by omega⟩
      simp only [List.getD_cons_succ] at h1
      exact h1.2.2
theorem form_parts {L : List Int} (h : FormOk L 6) : L ∈ partsN 6 6 6 := by
  obtain ⟨h1, _⟩ := formOk_facts h
  refine mem_parts 6 6 6 L h1 fun j hj => ⟨(h j hj).1, (h j hj).2.1, ?_⟩
  split
  · rename_i e; subst e
    have := (h 0 hj).2.1
    simp only [sm] at this; omega
  · exact (h j hj).2.2 (by omega)

/-! ### The tables, reckoned -/
def okB (F : List Int) (T : List (List Int)) (r : Nat) : Bool := decide (((T.getD r []).length : Int) < F.getD r 0) && (decide (r = 0) || decide ((T.getD r []).length < (T.getD (r - 1) []).length))
theorem okB_iff {F : List Int} {T : List (List Int)} {r : Nat} : okB F T r = true ↔ okR F T r := by
  simp [okB, okR]
def fillB (F : List Int) : Nat → List (List Int) → Int → List (List (List Int))
  | 0, T, _ => [T]
  | m + 1, T, n => (List.range F.length).flatMap fun r => if okB F T r = true then fillB F m (T.set r (T.getD r [] ++ [n])) (n + 1) else []
theorem fillB_eq (F : List Int) : ∀ (m : Nat) (T : List (List Int)) (n : Int), fillV F m T n = fillB F m T n
  | 0, _, _ => rfl
  | m + 1, T, n => by
    rw [fillV, fillB]
    congr 1
    funext r
    by_cases h : okR F T r
    · rw [if_pos h, if_pos (okB_iff.2 h), fillB_eq F m]
    · rw [if_neg h, if_neg (fun h2 => h (okB_iff.1 h2))]
/-- What is asked of a table, to be reckoned. -/
def permB (L : List Int) : Bool := (List.range L.length).all fun j => decide (1 ≤ L.getD j 0) && decide (L.getD j 0 ≤ L.length) && (List.range j).all fun i => !decide (L.getD i 0 = L.getD j 0)
def ascB (T : List (List Int)) : Bool := (List.range T.length).all fun i => (List.range (T.getD i []).length).all fun j => (decide (j = 0) || decide (at2 T i (j - 1) ≤ at2 T i j)) && (decide (i = 0) || decide (at2 T (i - 1) j ≤ at2 T i j))
def tabB (F : List Int) (T : List (List Int)) : Bool := decide (lens T = F) && permB T.flatten && ascB T
theorem permB_ok {L : List Int} (h : permB L = true) : PermOk L := by
  intro j hj
  have h1 := List.all_eq_true.1 h j (List.mem_range.2 hj)
  simp only [Bool.and_eq_true, decide_eq_true_eq] at h1
  refine ⟨h1.1.1, h1.1.2, fun i hi => ?_⟩
  have h2 := List.all_eq_true.1 h1.2 i (List.mem_range.2 hi)
  simpa using h2
theorem ascB_ok {T : List (List Int)} (h : ascB T = true) : Asc T := by
  intro i j hi hj
  have h1 := List.all_eq_true.1 (List.all_eq_true.1 h i (List.mem_range.2 hi)) j (List.mem_range.2 hj)
  simp only [Bool.and_eq_true, Bool.or_eq_true, decide_eq_true_eq] at h1
  refine ⟨fun h0 => ?_, fun h0 => ?_⟩
  · rcases h1.1 with h2 | h2
    · omega
    · exact h2
  · rcases h1.2 with h2 | h2
    · omega
    · exact h2
theorem tabB_ok {F : List Int} (hF : FormOk F 6) {T : List (List Int)} (h : tabB F T = true) : IsTab T ∧ lens T = F := by
  simp only [tabB, Bool.and_eq_true, decide_eq_true_eq] at h
  obtain ⟨⟨h1, h2⟩, h3⟩ := h
  have hf : FormOk (lens T) 8 := by
    rw [h1]
    exact fun j hj => ⟨(hF j hj).1, by have := (hF j hj).2.1; omega, (hF j hj).2.2⟩
  refine ⟨⟨hf, ⟨?_, permB_ok h2⟩, ascB_ok h3⟩, h1⟩
  rw [flatten_length]; exact hf.tot
def startB (F : List Int) : List (List (List Int)) := fillB F (sm F F.length).toNat (List.replicate F.length []) 1
def ctB (F : List Int) : Int := w64 ((facP (sm F F.length).toNat).tdiv (botP F F.length))
theorem forms_ok : ((partsN 6 6 6).all fun F => (startB F).all (tabB F) && decide (((startB F).length : Int) = ctB F)) = true := by decide +kernel
theorem tableaux_ok (F : List Int) : (∀ T ∈ TableauxOfV F, IsTab T ∧ lens T = F) ∧ (TableauxOfV F ≠ [] → ((TableauxOfV F).length : Int) = ctV F) := by
  by_cases h : FormOk F 6
  · have h1 := List.all_eq_true.1 forms_ok F (form_parts h)
    simp only [Bool.and_eq_true, decide_eq_true_eq] at h1
    have e : TableauxOfV F = startB F := by rw [TableauxOfV, if_pos h, fillB_eq]; rfl
    have h12 : FormOk F 12 := fun j hj => ⟨(h j hj).1, by have := (h j hj).2.1; omega, (h j hj).2.2⟩
    rw [e]
    refine ⟨fun T hT => tabB_ok h (List.all_eq_true.1 h1.1 T hT), fun _ => ?_⟩
    rw [h1.2, ctV, if_pos h12]; rfl
  · have e : TableauxOfV F = [] := by rw [TableauxOfV, if_neg h]
    rw [e]
    exact ⟨fun T hT => (by cases hT), fun hn => absurd rfl hn⟩
end Go.Proofs.Ytdchjhhpbdekeaa

/- A permutation has no number twice. -/
namespace Go.Proofs.Ytdchjhhpbdekeaa
open Go
theorem isP_nd {L : List Int} (h : IsP L) : L.Nodup := by
  rw [List.nodup_iff_pairwise_ne, List.pairwise_iff_getElem]
  intro i j hi hj hij e
  refine (h.2 j hj).2.2 i hij ?_
  simp only [List.getD_eq_getElem?_getD, List.getElem?_eq_getElem hi, List.getElem?_eq_getElem hj, Option.getD_some]
  exact e
end Go.Proofs.Ytdchjhhpbdekeaa

/- Insertion makes tableaux (as IsTableau says). -/
namespace Go.Proofs.Ytdchjhhpbdekeaa
open Go
set_option maxRecDepth 100000
theorem tab_row {T : List (List Int)} (h : Tab T) : ∀ i, i < T.length → T.getD i [] ≠ [] ∧ Inc (T.getD i []) := by
  induction T with
  | nil => intro i hi; simp at hi
  | cons R T ih =>
    intro i hi
    cases i with
    | zero => exact ⟨h.1, h.2.1⟩
    | succ i => exact ih h.tail i (by simpa using hi)
theorem tab_under {T : List (List Int)} (h : Tab T) {i j : Nat} (hij : i < j) (hj : j < T.length) : Under (T.getD i []) (T.getD j []) := by
  have := List.pairwise_iff_getElem.1 h.under i j (by omega) hj hij
  rwa [← getD_SS (by omega), ← getD_SS hj] at this
theorem tab_isTab {T : List (List Int)} (h : Tab T) (hp : IsP T.flatten) : IsTab T := by
  have h8 : tot T ≤ 8 := by rw [← flatten_length]; exact hp.1
  refine ⟨fun j hj => ?_, hp, fun i j hi hj => ?_⟩
  · rw [lens_length] at hj
    have h1 := (tab_row h j hj).1
    have h2 := sm_lens T j (by omega)
    have h3 := tot_take_succ hj
    have h4 := tot_take_le T (j + 1)
    have h5 : 0 < (T.getD j []).length := List.length_pos_iff.2 h1
    refine ⟨by rw [lens_getD]; omega, by rw [h2, lens_getD]; omega, fun h0 => ?_⟩
    rw [lens_getD, lens_getD]
    have := (tab_under h (i := j - 1) (j := j) (by omega) hj).1
    omega
  · refine ⟨fun h0 => ?_, fun h0 => ?_⟩
    · have := (tab_row h i hi).2.getD (i := j - 1) (j := j) (by omega) hj
      unfold at2; omega
    · have := (tab_under h (i := i - 1) (j := i) (by omega) hi).2 j hj
      unfold at2; omega
theorem insP_isTab {P : List Int} (h : IsP P) : IsTab (insP P) := by
  obtain ⟨h1, h2, _⟩ := insP_all (isP_nd h)
  exact tab_isTab h1 (isP_of_perm h2 h)
theorem IsTab.tot8 {T : List (List Int)} (h : IsTab T) : tot T ≤ 8 := h.form.tot
theorem IsTab.len8 {T : List (List Int)} (h : IsTab T) : T.length ≤ 8 := h.form.count
end Go.Proofs.Ytdchjhhpbdekeaa

/- What each function does, step by step, written by a program (Gen.lean); each equation is checked by the kernel. -/
namespace Go.Proofs.Ytdchjhhpbdekeaa
open Go
set_option linter.unusedVariables false
set_option maxRecDepth 100000
namespace laws_big
@[reducible] def cfg : Cfg := ⟨6, [], [], [], [2], [], [101, 107, 112, 15, 21, 124, 76, 137, 28, 115, 91, 81, 130], [138, 140, 82, 6, 86, 85, 132]⟩
def E (pr : Prims) (code_0 : Sl) (w : World) (R : Ending → World → Prop) : Prop :=
  wpC pr PP cfg (DD pr) (codeOf Try.f6) (retQ Try.f6.results.toList R) (argE 0 [Sl.v code_0]) w
theorem E_eq (pr : Prims) (code_0 : Sl) (w : World) (R : Ending → World → Prop) : E pr code_0 w R = (
  R (.returned (.bool (decide ((code_0.n : Int) > 1048576)))) w) := by kernel_rfl
theorem E_s (code_0 : Sl) (w : World) (R : Ending → World → Prop) : E std code_0 w R = (
  R (.returned (.bool (decide ((code_0.n : Int) > 1048576)))) w) := E_eq std code_0 w R
theorem drawsOk : drawsOk PP cfg okD (codeOf Try.f6) = true := by kernel_rfl
theorem calls (code_0 : Sl) {w : World} {R : Ending → World → Prop} (h : E std code_0 w R) : Calls PP F.laws_big #[Sl.v code_0] w R :=
  calls_of noCount mixed drawOk Try.func6 rfl (c := cfg) (args := [Sl.v code_0]) rfl (Nat.le_of_ble_eq_true (by kernel_rfl)) drawsOk h
end laws_big

namespace laws_sameInts
@[reducible] def cfg : Cfg := ⟨26, [(4, [0, 1, 5])], [(1, [0, 1, 5]), (0, [])], [], [4], [6], [101, 107, 112, 15, 21, 124, 76, 137, 28, 115, 91, 81, 130], [138, 140, 82, 6, 86, 85, 132]⟩
def q0 (pr : Prims) (R : Ending → World → Prop) : Exit → Env → World → Prop := fun ex e w => normQ ex (fun e w => contE pr cfg (sub (codeOf Try.f15) [1, 1, 1]) (fun e w => wpC pr PP cfg (DD pr) (sub (codeOf Try.f15) [1, 1, 1]) (retQ Try.f15.results.toList R) e w) e w) (retQ Try.f15.results.toList R) e w
def q1 (pr : Prims) (R : Ending → World → Prop) : Exit → Env → World → Prop := fun ex e w => blockQ ex 0 (q0 pr R) e w
def emb4 (a_0 : Sl) (b_1 : Sl) (i_5 : Int) : Env := [(0, Sl.v a_0), (1, Sl.v b_1), (5, vI i_5)]
def x0 : Env := []
def S4 (pr : Prims) (Q : Exit → Env → World → Prop) : (Env → World → Prop) → Env → World → Prop := fun k e w => wpC pr PP cfg (DD pr) (sub (codeOf Try.f15) [1, 1, 0, 1, 0, 0]) (fun ex e w => normQ ex (fun e' w' => k (Env.restr e' (lookN cfg.loops (keyOf (sub (codeOf Try.f15) [1, 1, 0, 1, 0, 0])))) w') Q e w) e w
def B4 (pr : Prims) (a_0 : Sl) (b_1 : Sl) (i_5 : Int) (w : World) (k : Env → World → Prop) (Q : Exit → Env → World → Prop) : Prop :=
  S4 pr Q k (emb4 a_0 b_1 i_5) w
def L4 (pr : Prims) (a_0 : Sl) (b_1 : Sl) (i_5 : Int) (w : World) (Q : Exit → Env → World → Prop) : Prop :=
  pr.loop (S4 pr Q) (emb4 a_0 b_1 i_5) w
def E (pr : Prims) (a_0 : Sl) (b_1 : Sl) (w : World) (R : Ending → World → Prop) : Prop :=
  wpC pr PP cfg (DD pr) (codeOf Try.f15) (retQ Try.f15.results.toList R) (argE 0 [Sl.v a_0, Sl.v b_1]) w
theorem B4_eq (pr : Prims) (a_0 : Sl) (b_1 : Sl) (i_5 : Int) (w : World) (k : Env → World → Prop) (Q : Exit → Env → World → Prop) : B4 pr a_0 b_1 i_5 w k Q = (
  bif decide (i_5 < (a_0.n : Int)) then (
  pr.idxK 1 a_0 i_5 fun (a2 : Addr) =>
  pr.load1 (.int .i64) a2 w fun (ξ3 : Int) =>
  pr.idxK 1 b_1 i_5 fun (a4 : Addr) =>
  pr.load1 (.int .i64) a4 w fun (ξ5 : Int) =>
  pr.drewAll w fun ω6 =>
  bif ξ3 != ξ5 then (
  Q .ret [(4, .bool false)] ω6)
  else (
  k (emb4 a_0 b_1 (w64 (i_5 + 1))) ω6))
  else (
  Q (.exit 0) (x0) w)) := by kernel_rfl
theorem B4_s (a_0 : Sl) (b_1 : Sl) (i_5 : Int) (w : World) (k : Env → World → Prop) (Q : Exit → Env → World → Prop) : B4 std a_0 b_1 i_5 w k Q = (
  bif decide (i_5 < (a_0.n : Int)) then (
  idxK 1 a_0 i_5 fun (a2 : Addr) =>
  load1 (.int .i64) a2 w fun (ξ3 : Int) =>
  idxK 1 b_1 i_5 fun (a4 : Addr) =>
  load1 (.int .i64) a4 w fun (ξ5 : Int) =>
  drewAll w fun ω6 =>
  bif ξ3 != ξ5 then (
  Q .ret [(4, .bool false)] ω6)
  else (
  k (emb4 a_0 b_1 (w64 (i_5 + 1))) ω6))
  else (
  Q (.exit 0) (x0) w)) := B4_eq std a_0 b_1 i_5 w k Q
theorem L4_rule (a_0 : Sl) (b_1 : Sl) (i_5 : Int) (w : World) (Q : Exit → Env → World → Prop) (I : Int → World → Prop) (μ : Int → World → Nat) (h0 : I i_5 w)
    (h : ∀ (i_5 : Int) (w' : World), I i_5 w' → B4 std a_0 b_1 i_5 w' (fun e2 w2 => ∃ i_5_n, e2 = emb4 a_0 b_1 i_5_n ∧ I i_5_n w2 ∧ μ i_5_n w2 < μ i_5 w') Q) :
    L4 std a_0 b_1 i_5 w Q := by
  unfold L4
  refine LoopE.intro (σ := Int) (step := S4 std Q) (fun s => emb4 a_0 b_1 s) (fun s w => I s w) (fun s w => μ s w) i_5 rfl h0 ?_
  intro s w' hI
  have h1 := h s w' hI
  unfold B4 at h1
  exact h1
theorem A4_0_eq (pr : Prims) (w : World) (R : Ending → World → Prop) : (q1 pr R) (.exit 0) (x0) w = (
  R (.returned (.bool true)) w) := by kernel_rfl
theorem A4_0_s (w : World) (R : Ending → World → Prop) : (q1 std R) (.exit 0) (x0) w = (
  R (.returned (.bool true)) w) := A4_0_eq std w R
theorem R4_eq (pr : Prims) (v4 : Value) (w : World) (R : Ending → World → Prop) : (q1 pr R) .ret [(4, v4)] w = (
  R (.returned (v4)) w) := by kernel_rfl
theorem R4_s (v4 : Value) (w : World) (R : Ending → World → Prop) : (q1 std R) .ret [(4, v4)] w = (
  R (.returned (v4)) w) := R4_eq std v4 w R
theorem E_eq (pr : Prims) (a_0 : Sl) (b_1 : Sl) (w : World) (R : Ending → World → Prop) : E pr a_0 b_1 w R = (
  bif (a_0.n : Int) != (b_1.n : Int) then (
  R (.returned (.bool false)) w)
  else (
  L4 pr a_0 b_1 0 w (q1 pr R))) := by kernel_rfl
theorem E_s (a_0 : Sl) (b_1 : Sl) (w : World) (R : Ending → World → Prop) : E std a_0 b_1 w R = (
  bif (a_0.n : Int) != (b_1.n : Int) then (
  R (.returned (.bool false)) w)
  else (
  L4 std a_0 b_1 0 w (q1 std R))) := E_eq std a_0 b_1 w R
theorem drawsOk : drawsOk PP cfg okD (codeOf Try.f15) = true := by kernel_rfl
theorem calls (a_0 : Sl) (b_1 : Sl) {w : World} {R : Ending → World → Prop} (h : E std a_0 b_1 w R) : Calls PP F.laws_sameInts #[Sl.v a_0, Sl.v b_1] w R :=
  calls_of noCount mixed drawOk Try.func15 rfl (c := cfg) (args := [Sl.v a_0, Sl.v b_1]) rfl (Nat.le_of_ble_eq_true (by kernel_rfl)) drawsOk h
end laws_sameInts

namespace laws_sameLists
@[reducible] def cfg : Cfg := ⟨27, [(4, [0, 1, 5])], [(1, [0, 1, 5]), (0, [])], [], [4], [6], [101, 107, 112, 15, 21, 124, 76, 137, 28, 115, 91, 81, 130], [138, 140, 82, 6, 86, 85, 132]⟩
def q0 (pr : Prims) (R : Ending → World → Prop) : Exit → Env → World → Prop := fun ex e w => normQ ex (fun e w => contE pr cfg (sub (codeOf Try.f21) [1, 1, 1]) (fun e w => wpC pr PP cfg (DD pr) (sub (codeOf Try.f21) [1, 1, 1]) (retQ Try.f21.results.toList R) e w) e w) (retQ Try.f21.results.toList R) e w
def q1 (pr : Prims) (R : Ending → World → Prop) : Exit → Env → World → Prop := fun ex e w => blockQ ex 0 (q0 pr R) e w
def emb4 (a_0 : Sl) (b_1 : Sl) (i_5 : Int) : Env := [(0, Sl.v a_0), (1, Sl.v b_1), (5, vI i_5)]
def x0 : Env := []
def S4 (pr : Prims) (Q : Exit → Env → World → Prop) : (Env → World → Prop) → Env → World → Prop := fun k e w => wpC pr PP cfg (DD pr) (sub (codeOf Try.f21) [1, 1, 0, 1, 0, 0]) (fun ex e w => normQ ex (fun e' w' => k (Env.restr e' (lookN cfg.loops (keyOf (sub (codeOf Try.f21) [1, 1, 0, 1, 0, 0])))) w') Q e w) e w
def B4 (pr : Prims) (a_0 : Sl) (b_1 : Sl) (i_5 : Int) (w : World) (k : Env → World → Prop) (Q : Exit → Env → World → Prop) : Prop :=
  S4 pr Q k (emb4 a_0 b_1 i_5) w
def L4 (pr : Prims) (a_0 : Sl) (b_1 : Sl) (i_5 : Int) (w : World) (Q : Exit → Env → World → Prop) : Prop :=
  pr.loop (S4 pr Q) (emb4 a_0 b_1 i_5) w
def E (pr : Prims) (a_0 : Sl) (b_1 : Sl) (w : World) (R : Ending → World → Prop) : Prop :=
  wpC pr PP cfg (DD pr) (codeOf Try.f21) (retQ Try.f21.results.toList R) (argE 0 [Sl.v a_0, Sl.v b_1]) w
theorem B4_eq (pr : Prims) (a_0 : Sl) (b_1 : Sl) (i_5 : Int) (w : World) (k : Env → World → Prop) (Q : Exit → Env → World → Prop) : B4 pr a_0 b_1 i_5 w k Q = (
  bif decide (i_5 < (a_0.n : Int)) then (
  pr.idxK 1 a_0 i_5 fun (a2 : Addr) =>
  pr.load1 .sl a2 w fun (ξ3 : Sl) =>
  pr.idxK 1 b_1 i_5 fun (a4 : Addr) =>
  pr.load1 .sl a4 w fun (ξ5 : Sl) =>
  pr.qcall1 .bool PP F.laws_sameInts #[Sl.v ξ3, Sl.v ξ5] w fun (ρ6 : Bool) =>
  pr.drewAll w fun ω7 =>
  bif !ρ6 then (
  Q .ret [(4, .bool false)] ω7)
  else (
  k (emb4 a_0 b_1 (w64 (i_5 + 1))) ω7))
  else (
  Q (.exit 0) (x0) w)) := by kernel_rfl
theorem B4_s (a_0 : Sl) (b_1 : Sl) (i_5 : Int) (w : World) (k : Env → World → Prop) (Q : Exit → Env → World → Prop) : B4 std a_0 b_1 i_5 w k Q = (
  bif decide (i_5 < (a_0.n : Int)) then (
  idxK 1 a_0 i_5 fun (a2 : Addr) =>
  load1 .sl a2 w fun (ξ3 : Sl) =>
  idxK 1 b_1 i_5 fun (a4 : Addr) =>
  load1 .sl a4 w fun (ξ5 : Sl) =>
  qcall1 .bool PP F.laws_sameInts #[Sl.v ξ3, Sl.v ξ5] w fun (ρ6 : Bool) =>
  drewAll w fun ω7 =>
  bif !ρ6 then (
  Q .ret [(4, .bool false)] ω7)
  else (
  k (emb4 a_0 b_1 (w64 (i_5 + 1))) ω7))
  else (
  Q (.exit 0) (x0) w)) := B4_eq std a_0 b_1 i_5 w k Q
theorem L4_rule (a_0 : Sl) (b_1 : Sl) (i_5 : Int) (w : World) (Q : Exit → Env → World → Prop) (I : Int → World → Prop) (μ : Int → World → Nat) (h0 : I i_5 w)
    (h : ∀ (i_5 : Int) (w' : World), I i_5 w' → B4 std a_0 b_1 i_5 w' (fun e2 w2 => ∃ i_5_n, e2 = emb4 a_0 b_1 i_5_n ∧ I i_5_n w2 ∧ μ i_5_n w2 < μ i_5 w') Q) :
    L4 std a_0 b_1 i_5 w Q := by
  unfold L4
  refine LoopE.intro (σ := Int) (step := S4 std Q) (fun s => emb4 a_0 b_1 s) (fun s w => I s w) (fun s w => μ s w) i_5 rfl h0 ?_
  intro s w' hI
  have h1 := h s w' hI
  unfold B4 at h1
  exact h1
theorem A4_0_eq (pr : Prims) (w : World) (R : Ending → World → Prop) : (q1 pr R) (.exit 0) (x0) w = (
  R (.returned (.bool true)) w) := by kernel_rfl
theorem A4_0_s (w : World) (R : Ending → World → Prop) : (q1 std R) (.exit 0) (x0) w = (
  R (.returned (.bool true)) w) := A4_0_eq std w R
theorem R4_eq (pr : Prims) (v4 : Value) (w : World) (R : Ending → World → Prop) : (q1 pr R) .ret [(4, v4)] w = (
  R (.returned (v4)) w) := by kernel_rfl
theorem R4_s (v4 : Value) (w : World) (R : Ending → World → Prop) : (q1 std R) .ret [(4, v4)] w = (
  R (.returned (v4)) w) := R4_eq std v4 w R
theorem E_eq (pr : Prims) (a_0 : Sl) (b_1 : Sl) (w : World) (R : Ending → World → Prop) : E pr a_0 b_1 w R = (
  bif (a_0.n : Int) != (b_1.n : Int) then (
  R (.returned (.bool false)) w)
  else (
  L4 pr a_0 b_1 0 w (q1 pr R))) := by kernel_rfl
theorem E_s (a_0 : Sl) (b_1 : Sl) (w : World) (R : Ending → World → Prop) : E std a_0 b_1 w R = (
  bif (a_0.n : Int) != (b_1.n : Int) then (
  R (.returned (.bool false)) w)
  else (
  L4 std a_0 b_1 0 w (q1 std R))) := E_eq std a_0 b_1 w R
theorem drawsOk : drawsOk PP cfg okD (codeOf Try.f21) = true := by kernel_rfl
theorem calls (a_0 : Sl) (b_1 : Sl) {w : World} {R : Ending → World → Prop} (h : E std a_0 b_1 w R) : Calls PP F.laws_sameLists #[Sl.v a_0, Sl.v b_1] w R :=
  calls_of noCount mixed drawOk Try.func21 rfl (c := cfg) (args := [Sl.v a_0, Sl.v b_1]) rfl (Nat.le_of_ble_eq_true (by kernel_rfl)) drawsOk h
end laws_sameLists

end Go.Proofs.Ytdchjhhpbdekeaa

/- The laws' own helpers: big, sameInts, sameLists. -/
namespace Go.Proofs.Ytdchjhhpbdekeaa
open Go Go.RowKit
set_option maxRecDepth 100000

theorem getD_I {L : List Int} {i : Nat} (hi : i < L.length) : L.getD i 0 = L[i] := by simp [List.getD_eq_getElem?_getD, List.getElem?_eq_getElem hi]
theorem c_big (a : Sl) : Pure F.laws_big #[a.v] (.bool (decide ((a.n : Int) > 1048576))) := by
  intro w
  refine laws_big.calls a ?_
  rw [laws_big.E_s]
  exact ⟨rfl, rfl⟩
theorem c_sameInts {w : World} {a b : Sl} {L M : List Int} (ha : RowI w a L) (hb : RowI w b M) (hL : L.length < 2^39) : Quiet F.laws_sameInts #[a.v, b.v] w (.bool (decide (L = M))) := by
  intro w1 hd
  have han : a.n = L.length := by have := ha.n; simpa using this
  have hbn : b.n = M.length := by have := hb.n; simpa using this
  refine laws_sameInts.calls a b ?_
  rw [laws_sameInts.E_s]
  refine bif_intro (fun h => ?_) (fun h => ?_)
  · have : L.length ≠ M.length := by simp at h; omega
    have : L ≠ M := fun e => this (by rw [e])
    exact ⟨by simp [this], Drew.refl _⟩
  have hlen : L.length = M.length := by simp at h; omega
  refine laws_sameInts.L4_rule _ _ _ _ _ (I := fun i w' => 0 ≤ i ∧ i ≤ L.length ∧ (∀ k, k < i.toNat → L[k]? = M[k]?) ∧ Drew w1 w') (μ := fun i _ => (L.length - i).toNat)
    ⟨by omega, by omega, fun k hk => by simp at hk, Drew.refl _⟩ ?_
  rintro i w' ⟨h0, hi, hall, hd2⟩
  have hh : w'.heap = w.heap := (hd.trans hd2).heap'
  rw [laws_sameInts.B4_s]
  refine bif_dec (fun h3 => ?_) (fun h3 => ?_)
  · have hlt : i.toNat < L.length := by omega
    have hlt2 : i.toNat < M.length := by omega
    refine RowI.get (ha.heap hh) h0 (by omega) ?_
    refine RowI.get (hb.heap hh) h0 (by omega) ?_
    refine drew_intro fun w3 hd3 => ?_
    rw [getD_I hlt, getD_I hlt2]
    refine bif_intro (fun h4 => ?_) (fun h4 => ?_)
    · have : L ≠ M := fun e => by subst e; simp at h4
      rw [laws_sameInts.R4_s]
      exact ⟨by simp [this], hd2.trans hd3⟩
    · have h4 : L[i.toNat] = M[i.toNat] := by simpa using h4
      refine ⟨i + 1, by rw [w64_succ h0 (by omega)], ⟨by omega, by omega, fun k hk => ?_, hd2.trans hd3⟩, by omega⟩
      by_cases hk2 : k < i.toNat
      · exact hall k hk2
      · have : k = i.toNat := by omega
        subst this
        rw [List.getElem?_eq_getElem hlt, List.getElem?_eq_getElem hlt2, h4]
  · rw [laws_sameInts.A4_0_s]
    have : L = M := by
      apply List.ext_getElem?
      intro k
      by_cases hk : k < L.length
      · exact hall k (by omega)
      · rw [List.getElem?_eq_none (by omega), List.getElem?_eq_none (by omega)]
    exact ⟨by simp [this], hd2⟩
theorem c_sameLists {w : World} {a b : Sl} {LL MM : List (List Int)} (ha : RowSS w a LL) (hb : RowSS w b MM) (hL : LL.length < 2^39) (hr : tot LL < 2^39) : Quiet F.laws_sameLists #[a.v, b.v] w (.bool (decide (LL = MM))) := by
  intro w1 hd
  have han := ha.n
  have hbn := hb.n
  refine laws_sameLists.calls a b ?_
  rw [laws_sameLists.E_s]
  refine bif_intro (fun h => ?_) (fun h => ?_)
  · have : LL.length ≠ MM.length := by simp at h; omega
    have : LL ≠ MM := fun e => this (by rw [e])
    exact ⟨by simp [this], Drew.refl _⟩
  have hlen : LL.length = MM.length := by simp at h; omega
  refine laws_sameLists.L4_rule _ _ _ _ _ (I := fun i w' => 0 ≤ i ∧ i ≤ LL.length ∧ (∀ k, k < i.toNat → LL[k]? = MM[k]?) ∧ Drew w1 w') (μ := fun i _ => (LL.length - i).toNat)
    ⟨by omega, by omega, fun k hk => by simp at hk, Drew.refl _⟩ ?_
  rintro i w' ⟨h0, hi, hall, hd2⟩
  have hh : w'.heap = w.heap := (hd.trans hd2).heap'
  rw [laws_sameLists.B4_s]
  refine bif_dec (fun h3 => ?_) (fun h3 => ?_)
  · have hlt : i.toNat < LL.length := by omega
    have hlt2 : i.toNat < MM.length := by omega
    refine RowSS.get (ha.heap hh) h0 (by omega) fun r hr1 => ?_
    refine RowSS.get (hb.heap hh) h0 (by omega) fun t ht1 => ?_
    rw [getD_SS hlt] at hr1
    rw [getD_SS hlt2] at ht1
    have h40 := len_le_tot (List.getElem_mem hlt)
    refine Quiet.qcall1 (s := .bool) (c_sameInts hr1 ht1 (by omega)) ?_
    refine drew_intro fun w3 hd3 => ?_
    refine bif_intro (fun h4 => ?_) (fun h4 => ?_)
    · have : LL ≠ MM := fun e => by subst e; simp at h4
      rw [laws_sameLists.R4_s]
      exact ⟨by simp [this], hd2.trans hd3⟩
    · have h4 : LL[i.toNat] = MM[i.toNat] := by simpa using h4
      refine ⟨i + 1, by rw [w64_succ h0 (by omega)], ⟨by omega, by omega, fun k hk => ?_, hd2.trans hd3⟩, by omega⟩
      by_cases hk2 : k < i.toNat
      · exact hall k hk2
      · have : k = i.toNat := by omega
        subst this
        rw [List.getElem?_eq_getElem hlt, List.getElem?_eq_getElem hlt2, h4]
  · rw [laws_sameLists.A4_0_s]
    have : LL = MM := by
      apply List.ext_getElem?
      intro k
      by_cases hk : k < LL.length
      · exact hall k (by omega)
      · rw [List.getElem?_eq_none (by omega), List.getElem?_eq_none (by omega)]
    exact ⟨by simp [this], hd2⟩

end Go.Proofs.Ytdchjhhpbdekeaa
