/- What each function does, step by step, written by a program (Gen.lean); each equation is checked by the kernel. -/
import Derived.Test.YtfainpmcdfckkaaHead
namespace Go.Proofs.Ytfainpmcdfckkaa
open Go
set_option linter.unusedVariables false
set_option maxRecDepth 100000
namespace impl_total
@[reducible] def cfg : Cfg := ⟨17, [(3, [3, 6, 7, 8])], [(1, [3, 6, 7, 8]), (0, [3])], [], [2], [], [91, 60, 17, 21, 24, 26, 65, 27, 82, 64, 85, 108, 78, 53, 51], [86, 52, 88]⟩
def q0 (pr : Prims) (R : Ending → World → Prop) : Exit → Env → World → Prop := fun ex e w => normQ ex (fun e w => contE pr cfg (sub (codeOf Try.f54) [1, 1, 1]) (fun e w => wpC pr PP cfg (DD pr) (sub (codeOf Try.f54) [1, 1, 1]) (retQ Try.f54.results.toList R) e w) e w) (retQ Try.f54.results.toList R) e w
def q1 (pr : Prims) (R : Ending → World → Prop) : Exit → Env → World → Prop := fun ex e w => blockQ ex 0 (q0 pr R) e w
def emb3 (sum_3 : Int) (t6 : Sl) (t7 : Int) (t8 : Int) : Env := [(3, vI sum_3), (6, Sl.v t6), (7, vI t7), (8, vI t8)]
def x0 (sum_3 : Int) : Env := [(3, vI sum_3)]
def S3 (pr : Prims) (Q : Exit → Env → World → Prop) : (Env → World → Prop) → Env → World → Prop := fun k e w => wpC pr PP cfg (DD pr) (sub (codeOf Try.f54) [1, 1, 0, 1, 0, 0]) (fun ex e w => normQ ex (fun e' w' => k (Env.restr e' (lookN cfg.loops (keyOf (sub (codeOf Try.f54) [1, 1, 0, 1, 0, 0])))) w') Q e w) e w
def B3 (pr : Prims) (sum_3 : Int) (t6 : Sl) (t7 : Int) (t8 : Int) (w : World) (k : Env → World → Prop) (Q : Exit → Env → World → Prop) : Prop :=
  S3 pr Q k (emb3 sum_3 t6 t7 t8) w
def L3 (pr : Prims) (sum_3 : Int) (t6 : Sl) (t7 : Int) (t8 : Int) (w : World) (Q : Exit → Env → World → Prop) : Prop :=
  pr.loop (S3 pr Q) (emb3 sum_3 t6 t7 t8) w
def E (pr : Prims) (list_0 : Sl) (w : World) (R : Ending → World → Prop) : Prop :=
  wpC pr PP cfg (DD pr) (codeOf Try.f54) (retQ Try.f54.results.toList R) (argE 0 [Sl.v list_0]) w
theorem B3_eq (pr : Prims) (sum_3 : Int) (t6 : Sl) (t7 : Int) (t8 : Int) (w : World) (k : Env → World → Prop) (Q : Exit → Env → World → Prop) : B3 pr sum_3 t6 t7 t8 w k Q = (
  bif decide (t8 < t7) then (
  pr.idxK 1 t6 t8 fun (a2 : Addr) =>
  pr.load1 (.int .i64) a2 w fun (ξ3 : Int) =>
  k (emb3 (w64 (sum_3 + ξ3)) t6 t7 (w64 (t8 + 1))) w)
  else (
  Q (.exit 0) (x0 sum_3) w)) := by kernel_rfl
theorem B3_s (sum_3 : Int) (t6 : Sl) (t7 : Int) (t8 : Int) (w : World) (k : Env → World → Prop) (Q : Exit → Env → World → Prop) : B3 std sum_3 t6 t7 t8 w k Q = (
  bif decide (t8 < t7) then (
  idxK 1 t6 t8 fun (a2 : Addr) =>
  load1 (.int .i64) a2 w fun (ξ3 : Int) =>
  k (emb3 (w64 (sum_3 + ξ3)) t6 t7 (w64 (t8 + 1))) w)
  else (
  Q (.exit 0) (x0 sum_3) w)) := B3_eq std sum_3 t6 t7 t8 w k Q
theorem L3_rule (sum_3 : Int) (t6 : Sl) (t7 : Int) (t8 : Int) (w : World) (Q : Exit → Env → World → Prop) (I : Int → Int → World → Prop) (μ : Int → Int → World → Nat) (h0 : I sum_3 t8 w)
    (h : ∀ (sum_3 : Int) (t8 : Int) (w' : World), I sum_3 t8 w' → B3 std sum_3 t6 t7 t8 w' (fun e2 w2 => ∃ sum_3_n t8_n, e2 = emb3 sum_3_n t6 t7 t8_n ∧ I sum_3_n t8_n w2 ∧ μ sum_3_n t8_n w2 < μ sum_3 t8 w') Q) :
    L3 std sum_3 t6 t7 t8 w Q := by
  unfold L3
  refine LoopE.intro (σ := Int × Int) (step := S3 std Q) (fun s => emb3 s.1 t6 t7 s.2) (fun s w => I s.1 s.2 w) (fun s w => μ s.1 s.2 w) (sum_3, t8) rfl h0 ?_
  intro s w' hI
  have h1 := h s.1 s.2 w' hI
  unfold B3 at h1
  simp only [Prod.exists]
  exact h1
theorem A3_0_eq (pr : Prims) (sum_3 : Int) (w : World) (R : Ending → World → Prop) : (q1 pr R) (.exit 0) (x0 sum_3) w = (
  R (.returned (vI sum_3)) w) := by kernel_rfl
theorem A3_0_s (sum_3 : Int) (w : World) (R : Ending → World → Prop) : (q1 std R) (.exit 0) (x0 sum_3) w = (
  R (.returned (vI sum_3)) w) := A3_0_eq std sum_3 w R
theorem E_eq (pr : Prims) (list_0 : Sl) (w : World) (R : Ending → World → Prop) : E pr list_0 w R = (
  L3 pr 0 list_0 (list_0.n : Int) 0 w (q1 pr R)) := by kernel_rfl
theorem E_s (list_0 : Sl) (w : World) (R : Ending → World → Prop) : E std list_0 w R = (
  L3 std 0 list_0 (list_0.n : Int) 0 w (q1 std R)) := E_eq std list_0 w R
theorem drawsOk : drawsOk PP cfg okD (codeOf Try.f54) = true := by kernel_rfl
theorem calls (list_0 : Sl) {w : World} {R : Ending → World → Prop} (h : E std list_0 w R) : Calls PP F.impl_total #[Sl.v list_0] w R :=
  calls_of noCount mixed drawOk Try.func54 rfl (c := cfg) (args := [Sl.v list_0]) rfl (Nat.le_of_ble_eq_true (by kernel_rfl)) drawsOk h
end impl_total

namespace impl_filled
@[reducible] def cfg : Cfg := ⟨85, [(5, [0, 1, 2, 3, 9, 19, 20])], [(1, [0, 1, 2, 3, 9, 19, 20]), (0, [9])], [], [8], [7], [91, 60, 17, 21, 24, 26, 65, 27, 82, 64, 85, 108, 78, 53, 51], [86, 52, 88]⟩
def q6 (pr : Prims) (R : Ending → World → Prop) : Exit → Env → World → Prop := fun ex e w => normQ ex (fun e w => contE pr cfg (sub (codeOf Try.f73) [1, 1, 1, 1]) (fun e w => wpC pr PP cfg (DD pr) (sub (codeOf Try.f73) [1, 1, 1, 1]) (retQ Try.f73.results.toList R) e w) e w) (retQ Try.f73.results.toList R) e w
def q7 (pr : Prims) (R : Ending → World → Prop) : Exit → Env → World → Prop := fun ex e w => blockQ ex 0 (q6 pr R) e w
def emb5 (form_0 : Sl) (t_1 : Sl) (next_2 : Int) (sum_3 : Int) (out_9 : Sl) (t19 : Int) (t20 : Int) : Env := [(0, Sl.v form_0), (1, Sl.v t_1), (2, vI next_2), (3, vI sum_3), (9, Sl.v out_9), (19, vI t19), (20, vI t20)]
def x0 (out_9 : Sl) : Env := [(9, Sl.v out_9)]
def S5 (pr : Prims) (Q : Exit → Env → World → Prop) : (Env → World → Prop) → Env → World → Prop := fun k e w => wpC pr PP cfg (DD pr) (sub (codeOf Try.f73) [1, 1, 1, 0, 1, 0, 0]) (fun ex e w => normQ ex (fun e' w' => k (Env.restr e' (lookN cfg.loops (keyOf (sub (codeOf Try.f73) [1, 1, 1, 0, 1, 0, 0])))) w') Q e w) e w
def B5 (pr : Prims) (form_0 : Sl) (t_1 : Sl) (next_2 : Int) (sum_3 : Int) (out_9 : Sl) (t19 : Int) (t20 : Int) (w : World) (k : Env → World → Prop) (Q : Exit → Env → World → Prop) : Prop :=
  S5 pr Q k (emb5 form_0 t_1 next_2 sum_3 out_9 t19 t20) w
def L5 (pr : Prims) (form_0 : Sl) (t_1 : Sl) (next_2 : Int) (sum_3 : Int) (out_9 : Sl) (t19 : Int) (t20 : Int) (w : World) (Q : Exit → Env → World → Prop) : Prop :=
  pr.loop (S5 pr Q) (emb5 form_0 t_1 next_2 sum_3 out_9 t19 t20) w
def E (pr : Prims) (form_0 : Sl) (t_1 : Sl) (next_2 : Int) (sum_3 : Int) (w : World) (R : Ending → World → Prop) : Prop :=
  wpC pr PP cfg (DD pr) (codeOf Try.f73) (retQ Try.f73.results.toList R) (argE 0 [Sl.v form_0, Sl.v t_1, vI next_2, vI sum_3]) w
theorem B5_eq (pr : Prims) (form_0 : Sl) (t_1 : Sl) (next_2 : Int) (sum_3 : Int) (out_9 : Sl) (t19 : Int) (t20 : Int) (w : World) (k : Env → World → Prop) (Q : Exit → Env → World → Prop) : B5 pr form_0 t_1 next_2 sum_3 out_9 t19 t20 w k Q = (
  bif decide (t20 < t19) then (
  pr.idxK 1 t_1 t20 fun (a8 : Addr) =>
  pr.load1 .sl a8 w fun (ξ9 : Sl) =>
  pr.idxK 1 form_0 t20 fun (a10 : Addr) =>
  pr.load1 (.int .i64) a10 w fun (ξ11 : Int) =>
  bif decide ((ξ9.n : Int) < ξ11) then (
  bif t20 == 0 then (
  pr.drewAll w fun ω12 =>
  pr.idxK 1 t_1 t20 fun (a13 : Addr) =>
  pr.load1 .sl a13 ω12 fun (ξ14 : Sl) =>
  pr.sem1 .sl PP (Instr.buildSlice T_Sint 1 #[(0, vI next_2)]) ω12 fun (ρ15 : Sl) ω16 =>
  pr.sem1 .sl PP (Builtin.append_ #[T_Sint, T_Sint] T_Sint #[Sl.v ξ14, Sl.v ρ15]) ω16 fun (ρ17 : Sl) ω18 =>
  pr.idxK 1 t_1 t20 fun (a19 : Addr) =>
  pr.storeC a19 (Sl.v ρ17) ω18 fun ω20 =>
  pr.call1 .sl PP F.impl_filled #[Sl.v form_0, Sl.v t_1, vI (w64 (next_2 + 1)), vI sum_3] ω20 fun (ρ21 : Sl) ω22 =>
  pr.sem1 .sl PP (Builtin.append_ #[T_SSSint, T_SSSint] T_SSSint #[Sl.v out_9, Sl.v ρ21]) ω22 fun (ρ23 : Sl) ω24 =>
  pr.drewAll ω24 fun ω25 =>
  pr.idxK 1 t_1 t20 fun (a26 : Addr) =>
  pr.idxK 1 t_1 t20 fun (a27 : Addr) =>
  (pr.load1 .sl a26 ω25 fun (ξ28 : Sl) =>
  pr.load1 .sl a27 ω25 fun (ξ29 : Sl) =>
  pr.cutK 1 ξ28 none (some (w64 ((ξ29.n : Int) - 1))) fun (s30 : Sl) =>
  pr.idxK 1 t_1 t20 fun (a31 : Addr) =>
  pr.storeC a31 (Sl.v s30) ω25 fun ω32 =>
  k (emb5 form_0 t_1 next_2 sum_3 ρ23 t19 (w64 (t20 + 1))) ω32) ∧
  (pr.load1 .sl a27 ω25 fun (ξ33 : Sl) =>
  pr.load1 .sl a26 ω25 fun (ξ34 : Sl) =>
  pr.cutK 1 ξ34 none (some (w64 ((ξ33.n : Int) - 1))) fun (s35 : Sl) =>
  pr.idxK 1 t_1 t20 fun (a36 : Addr) =>
  pr.storeC a36 (Sl.v s35) ω25 fun ω37 =>
  k (emb5 form_0 t_1 next_2 sum_3 ρ23 t19 (w64 (t20 + 1))) ω37))
  else (
  pr.idxK 1 t_1 (w64 (t20 - 1)) fun (a38 : Addr) =>
  pr.load1 .sl a38 w fun (ξ39 : Sl) =>
  pr.idxK 1 t_1 t20 fun (a40 : Addr) =>
  pr.load1 .sl a40 w fun (ξ41 : Sl) =>
  pr.drewAll w fun ω42 =>
  bif decide ((ξ39.n : Int) > (ξ41.n : Int)) then (
  pr.idxK 1 t_1 t20 fun (a43 : Addr) =>
  pr.load1 .sl a43 ω42 fun (ξ44 : Sl) =>
  pr.sem1 .sl PP (Instr.buildSlice T_Sint 1 #[(0, vI next_2)]) ω42 fun (ρ45 : Sl) ω46 =>
  pr.sem1 .sl PP (Builtin.append_ #[T_Sint, T_Sint] T_Sint #[Sl.v ξ44, Sl.v ρ45]) ω46 fun (ρ47 : Sl) ω48 =>
  pr.idxK 1 t_1 t20 fun (a49 : Addr) =>
  pr.storeC a49 (Sl.v ρ47) ω48 fun ω50 =>
  pr.call1 .sl PP F.impl_filled #[Sl.v form_0, Sl.v t_1, vI (w64 (next_2 + 1)), vI sum_3] ω50 fun (ρ51 : Sl) ω52 =>
  pr.sem1 .sl PP (Builtin.append_ #[T_SSSint, T_SSSint] T_SSSint #[Sl.v out_9, Sl.v ρ51]) ω52 fun (ρ53 : Sl) ω54 =>
  pr.drewAll ω54 fun ω55 =>
  pr.idxK 1 t_1 t20 fun (a56 : Addr) =>
  pr.idxK 1 t_1 t20 fun (a57 : Addr) =>
  (pr.load1 .sl a56 ω55 fun (ξ58 : Sl) =>
  pr.load1 .sl a57 ω55 fun (ξ59 : Sl) =>
  pr.cutK 1 ξ58 none (some (w64 ((ξ59.n : Int) - 1))) fun (s60 : Sl) =>
  pr.idxK 1 t_1 t20 fun (a61 : Addr) =>
  pr.storeC a61 (Sl.v s60) ω55 fun ω62 =>
  k (emb5 form_0 t_1 next_2 sum_3 ρ53 t19 (w64 (t20 + 1))) ω62) ∧
  (pr.load1 .sl a57 ω55 fun (ξ63 : Sl) =>
  pr.load1 .sl a56 ω55 fun (ξ64 : Sl) =>
  pr.cutK 1 ξ64 none (some (w64 ((ξ63.n : Int) - 1))) fun (s65 : Sl) =>
  pr.idxK 1 t_1 t20 fun (a66 : Addr) =>
  pr.storeC a66 (Sl.v s65) ω55 fun ω67 =>
  k (emb5 form_0 t_1 next_2 sum_3 ρ53 t19 (w64 (t20 + 1))) ω67))
  else (
  k (emb5 form_0 t_1 next_2 sum_3 out_9 t19 (w64 (t20 + 1))) ω42)))
  else (
  pr.drewAll w fun ω68 =>
  k (emb5 form_0 t_1 next_2 sum_3 out_9 t19 (w64 (t20 + 1))) ω68))
  else (
  Q (.exit 0) (x0 out_9) w)) := by kernel_rfl
theorem B5_s (form_0 : Sl) (t_1 : Sl) (next_2 : Int) (sum_3 : Int) (out_9 : Sl) (t19 : Int) (t20 : Int) (w : World) (k : Env → World → Prop) (Q : Exit → Env → World → Prop) : B5 std form_0 t_1 next_2 sum_3 out_9 t19 t20 w k Q = (
  bif decide (t20 < t19) then (
  idxK 1 t_1 t20 fun (a8 : Addr) =>
  load1 .sl a8 w fun (ξ9 : Sl) =>
  idxK 1 form_0 t20 fun (a10 : Addr) =>
  load1 (.int .i64) a10 w fun (ξ11 : Int) =>
  bif decide ((ξ9.n : Int) < ξ11) then (
  bif t20 == 0 then (
  drewAll w fun ω12 =>
  idxK 1 t_1 t20 fun (a13 : Addr) =>
  load1 .sl a13 ω12 fun (ξ14 : Sl) =>
  sem1 .sl PP (Instr.buildSlice T_Sint 1 #[(0, vI next_2)]) ω12 fun (ρ15 : Sl) ω16 =>
  sem1 .sl PP (Builtin.append_ #[T_Sint, T_Sint] T_Sint #[Sl.v ξ14, Sl.v ρ15]) ω16 fun (ρ17 : Sl) ω18 =>
  idxK 1 t_1 t20 fun (a19 : Addr) =>
  storeC a19 (Sl.v ρ17) ω18 fun ω20 =>
  call1 .sl PP F.impl_filled #[Sl.v form_0, Sl.v t_1, vI (w64 (next_2 + 1)), vI sum_3] ω20 fun (ρ21 : Sl) ω22 =>
  sem1 .sl PP (Builtin.append_ #[T_SSSint, T_SSSint] T_SSSint #[Sl.v out_9, Sl.v ρ21]) ω22 fun (ρ23 : Sl) ω24 =>
  drewAll ω24 fun ω25 =>
  idxK 1 t_1 t20 fun (a26 : Addr) =>
  idxK 1 t_1 t20 fun (a27 : Addr) =>
  (load1 .sl a26 ω25 fun (ξ28 : Sl) =>
  load1 .sl a27 ω25 fun (ξ29 : Sl) =>
  cutK 1 ξ28 none (some (w64 ((ξ29.n : Int) - 1))) fun (s30 : Sl) =>
  idxK 1 t_1 t20 fun (a31 : Addr) =>
  storeC a31 (Sl.v s30) ω25 fun ω32 =>
  k (emb5 form_0 t_1 next_2 sum_3 ρ23 t19 (w64 (t20 + 1))) ω32) ∧
  (load1 .sl a27 ω25 fun (ξ33 : Sl) =>
  load1 .sl a26 ω25 fun (ξ34 : Sl) =>
  cutK 1 ξ34 none (some (w64 ((ξ33.n : Int) - 1))) fun (s35 : Sl) =>
  idxK 1 t_1 t20 fun (a36 : Addr) =>
  storeC a36 (Sl.v s35) ω25 fun ω37 =>
  k (emb5 form_0 t_1 next_2 sum_3 ρ23 t19 (w64 (t20 + 1))) ω37))
  else (
  idxK 1 t_1 (w64 (t20 - 1)) fun (a38 : Addr) =>
  load1 .sl a38 w fun (ξ39 : Sl) =>
  idxK 1 t_1 t20 fun (a40 : Addr) =>
  load1 .sl a40 w fun (ξ41 : Sl) =>
  drewAll w fun ω42 =>
  bif decide ((ξ39.n : Int) > (ξ41.n : Int)) then (
  idxK 1 t_1 t20 fun (a43 : Addr) =>
  load1 .sl a43 ω42 fun (ξ44 : Sl) =>
  sem1 .sl PP (Instr.buildSlice T_Sint 1 #[(0, vI next_2)]) ω42 fun (ρ45 : Sl) ω46 =>
  sem1 .sl PP (Builtin.append_ #[T_Sint, T_Sint] T_Sint #[Sl.v ξ44, Sl.v ρ45]) ω46 fun (ρ47 : Sl) ω48 =>
  idxK 1 t_1 t20 fun (a49 : Addr) =>
  storeC a49 (Sl.v ρ47) ω48 fun ω50 =>
  call1 .sl PP F.impl_filled #[Sl.v form_0, Sl.v t_1, vI (w64 (next_2 + 1)), vI sum_3] ω50 fun (ρ51 : Sl) ω52 =>
  sem1 .sl PP (Builtin.append_ #[T_SSSint, T_SSSint] T_SSSint #[Sl.v out_9, Sl.v ρ51]) ω52 fun (ρ53 : Sl) ω54 =>
  drewAll ω54 fun ω55 =>
  idxK 1 t_1 t20 fun (a56 : Addr) =>
  idxK 1 t_1 t20 fun (a57 : Addr) =>
  (load1 .sl a56 ω55 fun (ξ58 : Sl) =>
  load1 .sl a57 ω55 fun (ξ59 : Sl) =>
  cutK 1 ξ58 none (some (w64 ((ξ59.n : Int) - 1))) fun (s60 : Sl) =>
  idxK 1 t_1 t20 fun (a61 : Addr) =>
  storeC a61 (Sl.v s60) ω55 fun ω62 =>
  k (emb5 form_0 t_1 next_2 sum_3 ρ53 t19 (w64 (t20 + 1))) ω62) ∧
  (load1 .sl a57 ω55 fun (ξ63 : Sl) =>
  load1 .sl a56 ω55 fun (ξ64 : Sl) =>
  cutK 1 ξ64 none (some (w64 ((ξ63.n : Int) - 1))) fun (s65 : Sl) =>
  idxK 1 t_1 t20 fun (a66 : Addr) =>
  storeC a66 (Sl.v s65) ω55 fun ω67 =>
  k (emb5 form_0 t_1 next_2 sum_3 ρ53 t19 (w64 (t20 + 1))) ω67))
  else (
  k (emb5 form_0 t_1 next_2 sum_3 out_9 t19 (w64 (t20 + 1))) ω42)))
  else (
  drewAll w fun ω68 =>
  k (emb5 form_0 t_1 next_2 sum_3 out_9 t19 (w64 (t20 + 1))) ω68))
  else (
  Q (.exit 0) (x0 out_9) w)) := B5_eq std form_0 t_1 next_2 sum_3 out_9 t19 t20 w k Q
theorem L5_rule (form_0 : Sl) (t_1 : Sl) (next_2 : Int) (sum_3 : Int) (out_9 : Sl) (t19 : Int) (t20 : Int) (w : World) (Q : Exit → Env → World → Prop) (I : Sl → Int → World → Prop) (μ : Sl → Int → World → Nat) (h0 : I out_9 t20 w)
    (h : ∀ (out_9 : Sl) (t20 : Int) (w' : World), I out_9 t20 w' → B5 std form_0 t_1 next_2 sum_3 out_9 t19 t20 w' (fun e2 w2 => ∃ out_9_n t20_n, e2 = emb5 form_0 t_1 next_2 sum_3 out_9_n t19 t20_n ∧ I out_9_n t20_n w2 ∧ μ out_9_n t20_n w2 < μ out_9 t20 w') Q) :
    L5 std form_0 t_1 next_2 sum_3 out_9 t19 t20 w Q := by
  unfold L5
  refine LoopE.intro (σ := Sl × Int) (step := S5 std Q) (fun s => emb5 form_0 t_1 next_2 sum_3 s.1 t19 s.2) (fun s w => I s.1 s.2 w) (fun s w => μ s.1 s.2 w) (out_9, t20) rfl h0 ?_
  intro s w' hI
  have h1 := h s.1 s.2 w' hI
  unfold B5 at h1
  simp only [Prod.exists]
  exact h1
theorem A5_0_eq (pr : Prims) (out_9 : Sl) (w : World) (R : Ending → World → Prop) : (q7 pr R) (.exit 0) (x0 out_9) w = (
  R (.returned (Sl.v out_9)) w) := by kernel_rfl
theorem A5_0_s (out_9 : Sl) (w : World) (R : Ending → World → Prop) : (q7 std R) (.exit 0) (x0 out_9) w = (
  R (.returned (Sl.v out_9)) w) := A5_0_eq std out_9 w R
theorem E_eq (pr : Prims) (form_0 : Sl) (t_1 : Sl) (next_2 : Int) (sum_3 : Int) (w : World) (R : Ending → World → Prop) : E pr form_0 t_1 next_2 sum_3 w R = (
  bif decide (next_2 > sum_3) then (
  pr.call1 .sl PP F.impl_copied #[Sl.v t_1] w fun (ρ0 : Sl) ω1 =>
  pr.sem1 .sl PP (Instr.buildSlice T_SSSint 1 #[(0, Sl.v ρ0)]) ω1 fun (ρ2 : Sl) ω3 =>
  R (.returned (Sl.v ρ2)) ω3)
  else (
  pr.sem1 .sl PP (Instr.buildSlice T_SSSint 0 #[]) w fun (ρ4 : Sl) ω5 =>
  L5 pr form_0 t_1 next_2 sum_3 ρ4 (form_0.n : Int) 0 ω5 (q7 pr R))) := by kernel_rfl
theorem E_s (form_0 : Sl) (t_1 : Sl) (next_2 : Int) (sum_3 : Int) (w : World) (R : Ending → World → Prop) : E std form_0 t_1 next_2 sum_3 w R = (
  bif decide (next_2 > sum_3) then (
  call1 .sl PP F.impl_copied #[Sl.v t_1] w fun (ρ0 : Sl) ω1 =>
  sem1 .sl PP (Instr.buildSlice T_SSSint 1 #[(0, Sl.v ρ0)]) ω1 fun (ρ2 : Sl) ω3 =>
  R (.returned (Sl.v ρ2)) ω3)
  else (
  sem1 .sl PP (Instr.buildSlice T_SSSint 0 #[]) w fun (ρ4 : Sl) ω5 =>
  L5 std form_0 t_1 next_2 sum_3 ρ4 (form_0.n : Int) 0 ω5 (q7 std R))) := E_eq std form_0 t_1 next_2 sum_3 w R
theorem drawsOk : drawsOk PP cfg okD (codeOf Try.f73) = true := by kernel_rfl
theorem calls (form_0 : Sl) (t_1 : Sl) (next_2 : Int) (sum_3 : Int) {w : World} {R : Ending → World → Prop} (h : E std form_0 t_1 next_2 sum_3 w R) : Calls PP F.impl_filled #[Sl.v form_0, Sl.v t_1, vI next_2, vI sum_3] w R :=
  calls_of noCount mixed drawOk Try.func73 rfl (c := cfg) (args := [Sl.v form_0, Sl.v t_1, vI next_2, vI sum_3]) rfl (Nat.le_of_ble_eq_true (by kernel_rfl)) drawsOk h
end impl_filled

namespace impl_TableauxOf
@[reducible] def cfg : Cfg := ⟨13, [], [], [], [2], [], [91, 60, 17, 21, 24, 26, 65, 27, 82, 64, 85, 108, 78, 53, 51], [86, 52, 88]⟩
def E (pr : Prims) (form_0 : Sl) (w : World) (R : Ending → World → Prop) : Prop :=
  wpC pr PP cfg (DD pr) (codeOf Try.f34) (retQ Try.f34.results.toList R) (argE 0 [Sl.v form_0]) w
theorem E_eq (pr : Prims) (form_0 : Sl) (w : World) (R : Ending → World → Prop) : E pr form_0 w R = (
  pr.call1 .bool PP F.impl_isForm #[Sl.v form_0, vI 6] w fun (ρ0 : Bool) ω1 =>
  bif !ρ0 then (
  R (.returned (Sl.v Sl.nil)) ω1)
  else (
  pr.drewAll ω1 fun ω2 =>
  (pr.sem1 .sl PP (Instr.makeSlice T_SSint (vI (form_0.n : Int)) (vI (form_0.n : Int))) ω2 fun (ρ3 : Sl) ω4 =>
  pr.call1 (.int .i64) PP F.impl_total #[Sl.v form_0] ω4 fun (ρ5 : Int) ω6 =>
  pr.call1 .sl PP F.impl_filled #[Sl.v form_0, Sl.v ρ3, vI 1, vI ρ5] ω6 fun (ρ7 : Sl) ω8 =>
  R (.returned (Sl.v ρ7)) ω8) ∧
  (pr.call1 (.int .i64) PP F.impl_total #[Sl.v form_0] ω2 fun (ρ9 : Int) ω10 =>
  pr.sem1 .sl PP (Instr.makeSlice T_SSint (vI (form_0.n : Int)) (vI (form_0.n : Int))) ω10 fun (ρ11 : Sl) ω12 =>
  pr.call1 .sl PP F.impl_filled #[Sl.v form_0, Sl.v ρ11, vI 1, vI ρ9] ω12 fun (ρ13 : Sl) ω14 =>
  R (.returned (Sl.v ρ13)) ω14))) := by kernel_rfl
theorem E_s (form_0 : Sl) (w : World) (R : Ending → World → Prop) : E std form_0 w R = (
  call1 .bool PP F.impl_isForm #[Sl.v form_0, vI 6] w fun (ρ0 : Bool) ω1 =>
  bif !ρ0 then (
  R (.returned (Sl.v Sl.nil)) ω1)
  else (
  drewAll ω1 fun ω2 =>
  (sem1 .sl PP (Instr.makeSlice T_SSint (vI (form_0.n : Int)) (vI (form_0.n : Int))) ω2 fun (ρ3 : Sl) ω4 =>
  call1 (.int .i64) PP F.impl_total #[Sl.v form_0] ω4 fun (ρ5 : Int) ω6 =>
  call1 .sl PP F.impl_filled #[Sl.v form_0, Sl.v ρ3, vI 1, vI ρ5] ω6 fun (ρ7 : Sl) ω8 =>
  R (.returned (Sl.v ρ7)) ω8) ∧
  (call1 (.int .i64) PP F.impl_total #[Sl.v form_0] ω2 fun (ρ9 : Int) ω10 =>
  sem1 .sl PP (Instr.makeSlice T_SSint (vI (form_0.n : Int)) (vI (form_0.n : Int))) ω10 fun (ρ11 : Sl) ω12 =>
  call1 .sl PP F.impl_filled #[Sl.v form_0, Sl.v ρ11, vI 1, vI ρ9] ω12 fun (ρ13 : Sl) ω14 =>
  R (.returned (Sl.v ρ13)) ω14))) := E_eq std form_0 w R
theorem drawsOk : drawsOk PP cfg okD (codeOf Try.f34) = true := by kernel_rfl
theorem calls (form_0 : Sl) {w : World} {R : Ending → World → Prop} (h : E std form_0 w R) : Calls PP F.impl_TableauxOf #[Sl.v form_0] w R :=
  calls_of noCount mixed drawOk Try.func34 rfl (c := cfg) (args := [Sl.v form_0]) rfl (Nat.le_of_ble_eq_true (by kernel_rfl)) drawsOk h
end impl_TableauxOf

namespace spec_l19Fill
@[reducible] def cfg : Cfg := ⟨75, [(4, [0, 1, 2, 3, 4, 11])], [(1, [0, 1, 2, 3, 4, 11]), (0, [4])], [], [10], [6], [91, 60, 17, 21, 24, 26, 65, 27, 82, 64, 85, 108, 78, 53, 51], [86, 52, 88]⟩
def q6 (pr : Prims) (R : Ending → World → Prop) : Exit → Env → World → Prop := fun ex e w => normQ ex (fun e w => contE pr cfg (sub (codeOf Try.f72) [1, 1, 1]) (fun e w => wpC pr PP cfg (DD pr) (sub (codeOf Try.f72) [1, 1, 1]) (retQ Try.f72.results.toList R) e w) e w) (retQ Try.f72.results.toList R) e w
def q7 (pr : Prims) (R : Ending → World → Prop) : Exit → Env → World → Prop := fun ex e w => blockQ ex 0 (q6 pr R) e w
def emb4 (form_0 : Sl) (t_1 : Sl) (n_2 : Int) (size_3 : Int) (out_4 : Sl) (r_11 : Int) : Env := [(0, Sl.v form_0), (1, Sl.v t_1), (2, vI n_2), (3, vI size_3), (4, Sl.v out_4), (11, vI r_11)]
def x0 (out_4 : Sl) : Env := [(4, Sl.v out_4)]
def S4 (pr : Prims) (Q : Exit → Env → World → Prop) : (Env → World → Prop) → Env → World → Prop := fun k e w => wpC pr PP cfg (DD pr) (sub (codeOf Try.f72) [1, 1, 0, 1, 0, 0]) (fun ex e w => normQ ex (fun e' w' => k (Env.restr e' (lookN cfg.loops (keyOf (sub (codeOf Try.f72) [1, 1, 0, 1, 0, 0])))) w') Q e w) e w
def B4 (pr : Prims) (form_0 : Sl) (t_1 : Sl) (n_2 : Int) (size_3 : Int) (out_4 : Sl) (r_11 : Int) (w : World) (k : Env → World → Prop) (Q : Exit → Env → World → Prop) : Prop :=
  S4 pr Q k (emb4 form_0 t_1 n_2 size_3 out_4 r_11) w
def L4 (pr : Prims) (form_0 : Sl) (t_1 : Sl) (n_2 : Int) (size_3 : Int) (out_4 : Sl) (r_11 : Int) (w : World) (Q : Exit → Env → World → Prop) : Prop :=
  pr.loop (S4 pr Q) (emb4 form_0 t_1 n_2 size_3 out_4 r_11) w
def E (pr : Prims) (form_0 : Sl) (t_1 : Sl) (n_2 : Int) (size_3 : Int) (out_4 : Sl) (w : World) (R : Ending → World → Prop) : Prop :=
  wpC pr PP cfg (DD pr) (codeOf Try.f72) (retQ Try.f72.results.toList R) (argE 0 [Sl.v form_0, Sl.v t_1, vI n_2, vI size_3, Sl.v out_4]) w
theorem B4_eq (pr : Prims) (form_0 : Sl) (t_1 : Sl) (n_2 : Int) (size_3 : Int) (out_4 : Sl) (r_11 : Int) (w : World) (k : Env → World → Prop) (Q : Exit → Env → World → Prop) : B4 pr form_0 t_1 n_2 size_3 out_4 r_11 w k Q = (
  bif decide (r_11 < (form_0.n : Int)) then (
  pr.idxK 1 t_1 r_11 fun (a8 : Addr) =>
  pr.load1 .sl a8 w fun (ξ9 : Sl) =>
  pr.idxK 1 form_0 r_11 fun (a10 : Addr) =>
  pr.load1 (.int .i64) a10 w fun (ξ11 : Int) =>
  bif decide ((ξ9.n : Int) < ξ11) then (
  bif r_11 == 0 then (
  pr.drewAll w fun ω12 =>
  pr.call1 .sl PP F.spec_l2Copy #[Sl.v t_1] ω12 fun (ρ13 : Sl) ω14 =>
  pr.idxK 1 ρ13 r_11 fun (a15 : Addr) =>
  pr.load1 .sl a15 ω14 fun (ξ16 : Sl) =>
  pr.sem1 .sl PP (Instr.buildSlice T_Sint 1 #[(0, vI n_2)]) ω14 fun (ρ17 : Sl) ω18 =>
  pr.sem1 .sl PP (Builtin.append_ #[T_Sint, T_Sint] T_Sint #[Sl.v ξ16, Sl.v ρ17]) ω18 fun (ρ19 : Sl) ω20 =>
  pr.idxK 1 ρ13 r_11 fun (a21 : Addr) =>
  pr.storeC a21 (Sl.v ρ19) ω20 fun ω22 =>
  pr.call1 .sl PP F.spec_l19Fill #[Sl.v form_0, Sl.v ρ13, vI (w64 (n_2 + 1)), vI size_3, Sl.v out_4] ω22 fun (ρ23 : Sl) ω24 =>
  k (emb4 form_0 t_1 n_2 size_3 ρ23 (w64 (r_11 + 1))) ω24)
  else (
  pr.idxK 1 t_1 r_11 fun (a25 : Addr) =>
  pr.load1 .sl a25 w fun (ξ26 : Sl) =>
  pr.idxK 1 t_1 (w64 (r_11 - 1)) fun (a27 : Addr) =>
  pr.load1 .sl a27 w fun (ξ28 : Sl) =>
  pr.drewAll w fun ω29 =>
  bif decide ((ξ26.n : Int) < (ξ28.n : Int)) then (
  pr.call1 .sl PP F.spec_l2Copy #[Sl.v t_1] ω29 fun (ρ30 : Sl) ω31 =>
  pr.idxK 1 ρ30 r_11 fun (a32 : Addr) =>
  pr.load1 .sl a32 ω31 fun (ξ33 : Sl) =>
  pr.sem1 .sl PP (Instr.buildSlice T_Sint 1 #[(0, vI n_2)]) ω31 fun (ρ34 : Sl) ω35 =>
  pr.sem1 .sl PP (Builtin.append_ #[T_Sint, T_Sint] T_Sint #[Sl.v ξ33, Sl.v ρ34]) ω35 fun (ρ36 : Sl) ω37 =>
  pr.idxK 1 ρ30 r_11 fun (a38 : Addr) =>
  pr.storeC a38 (Sl.v ρ36) ω37 fun ω39 =>
  pr.call1 .sl PP F.spec_l19Fill #[Sl.v form_0, Sl.v ρ30, vI (w64 (n_2 + 1)), vI size_3, Sl.v out_4] ω39 fun (ρ40 : Sl) ω41 =>
  k (emb4 form_0 t_1 n_2 size_3 ρ40 (w64 (r_11 + 1))) ω41)
  else (
  k (emb4 form_0 t_1 n_2 size_3 out_4 (w64 (r_11 + 1))) ω29)))
  else (
  pr.drewAll w fun ω42 =>
  k (emb4 form_0 t_1 n_2 size_3 out_4 (w64 (r_11 + 1))) ω42))
  else (
  Q (.exit 0) (x0 out_4) w)) := by kernel_rfl
theorem B4_s (form_0 : Sl) (t_1 : Sl) (n_2 : Int) (size_3 : Int) (out_4 : Sl) (r_11 : Int) (w : World) (k : Env → World → Prop) (Q : Exit → Env → World → Prop) : B4 std form_0 t_1 n_2 size_3 out_4 r_11 w k Q = (
  bif decide (r_11 < (form_0.n : Int)) then (
  idxK 1 t_1 r_11 fun (a8 : Addr) =>
  load1 .sl a8 w fun (ξ9 : Sl) =>
  idxK 1 form_0 r_11 fun (a10 : Addr) =>
  load1 (.int .i64) a10 w fun (ξ11 : Int) =>
  bif decide ((ξ9.n : Int) < ξ11) then (
  bif r_11 == 0 then (
  drewAll w fun ω12 =>
  call1 .sl PP F.spec_l2Copy #[Sl.v t_1] ω12 fun (ρ13 : Sl) ω14 =>
  idxK 1 ρ13 r_11 fun (a15 : Addr) =>
  load1 .sl a15 ω14 fun (ξ16 : Sl) =>
  sem1 .sl PP (Instr.buildSlice T_Sint 1 #[(0, vI n_2)]) ω14 fun (ρ17 : Sl) ω18 =>
  sem1 .sl PP (Builtin.append_ #[T_Sint, T_Sint] T_Sint #[Sl.v ξ16, Sl.v ρ17]) ω18 fun (ρ19 : Sl) ω20 =>
  idxK 1 ρ13 r_11 fun (a21 : Addr) =>
  storeC a21 (Sl.v ρ19) ω20 fun ω22 =>
  call1 .sl PP F.spec_l19Fill #[Sl.v form_0, Sl.v ρ13, vI (w64 (n_2 + 1)), vI size_3, Sl.v out_4] ω22 fun (ρ23 : Sl) ω24 =>
  k (emb4 form_0 t_1 n_2 size_3 ρ23 (w64 (r_11 + 1))) ω24)
  else (
  idxK 1 t_1 r_11 fun (a25 : Addr) =>
  load1 .sl a25 w fun (ξ26 : Sl) =>
  idxK 1 t_1 (w64 (r_11 - 1)) fun (a27 : Addr) =>
  load1 .sl a27 w fun (ξ28 : Sl) =>
  drewAll w fun ω29 =>
  bif decide ((ξ26.n : Int) < (ξ28.n : Int)) then (
  call1 .sl PP F.spec_l2Copy #[Sl.v t_1] ω29 fun (ρ30 : Sl) ω31 =>
  idxK 1 ρ30 r_11 fun (a32 : Addr) =>
  load1 .sl a32 ω31 fun (ξ33 : Sl) =>
  sem1 .sl PP (Instr.buildSlice T_Sint 1 #[(0, vI n_2)]) ω31 fun (ρ34 : Sl) ω35 =>
  sem1 .sl PP (Builtin.append_ #[T_Sint, T_Sint] T_Sint #[Sl.v ξ33, Sl.v ρ34]) ω35 fun (ρ36 : Sl) ω37 =>
  idxK 1 ρ30 r_11 fun (a38 : Addr) =>
  storeC a38 (Sl.v ρ36) ω37 fun ω39 =>
  call1 .sl PP F.spec_l19Fill #[Sl.v form_0, Sl.v ρ30, vI (w64 (n_2 + 1)), vI size_3, Sl.v out_4] ω39 fun (ρ40 : Sl) ω41 =>
  k (emb4 form_0 t_1 n_2 size_3 ρ40 (w64 (r_11 + 1))) ω41)
  else (
  k (emb4 form_0 t_1 n_2 size_3 out_4 (w64 (r_11 + 1))) ω29)))
  else (
  drewAll w fun ω42 =>
  k (emb4 form_0 t_1 n_2 size_3 out_4 (w64 (r_11 + 1))) ω42))
  else (
  Q (.exit 0) (x0 out_4) w)) := B4_eq std form_0 t_1 n_2 size_3 out_4 r_11 w k Q
theorem L4_rule (form_0 : Sl) (t_1 : Sl) (n_2 : Int) (size_3 : Int) (out_4 : Sl) (r_11 : Int) (w : World) (Q : Exit → Env → World → Prop) (I : Sl → Int → World → Prop) (μ : Sl → Int → World → Nat) (h0 : I out_4 r_11 w)
    (h : ∀ (out_4 : Sl) (r_11 : Int) (w' : World), I out_4 r_11 w' → B4 std form_0 t_1 n_2 size_3 out_4 r_11 w' (fun e2 w2 => ∃ out_4_n r_11_n, e2 = emb4 form_0 t_1 n_2 size_3 out_4_n r_11_n ∧ I out_4_n r_11_n w2 ∧ μ out_4_n r_11_n w2 < μ out_4 r_11 w') Q) :
    L4 std form_0 t_1 n_2 size_3 out_4 r_11 w Q := by
  unfold L4
  refine LoopE.intro (σ := Sl × Int) (step := S4 std Q) (fun s => emb4 form_0 t_1 n_2 size_3 s.1 s.2) (fun s w => I s.1 s.2 w) (fun s w => μ s.1 s.2 w) (out_4, r_11) rfl h0 ?_
  intro s w' hI
  have h1 := h s.1 s.2 w' hI
  unfold B4 at h1
  simp only [Prod.exists]
  exact h1
theorem A4_0_eq (pr : Prims) (out_4 : Sl) (w : World) (R : Ending → World → Prop) : (q7 pr R) (.exit 0) (x0 out_4) w = (
  R (.returned (Sl.v out_4)) w) := by kernel_rfl
theorem A4_0_s (out_4 : Sl) (w : World) (R : Ending → World → Prop) : (q7 std R) (.exit 0) (x0 out_4) w = (
  R (.returned (Sl.v out_4)) w) := A4_0_eq std out_4 w R
theorem E_eq (pr : Prims) (form_0 : Sl) (t_1 : Sl) (n_2 : Int) (size_3 : Int) (out_4 : Sl) (w : World) (R : Ending → World → Prop) : E pr form_0 t_1 n_2 size_3 out_4 w R = (
  bif decide (n_2 > size_3) then (
  pr.call1 .sl PP F.spec_l2Copy #[Sl.v t_1] w fun (ρ0 : Sl) ω1 =>
  pr.sem1 .sl PP (Instr.buildSlice T_SSSint 1 #[(0, Sl.v ρ0)]) ω1 fun (ρ2 : Sl) ω3 =>
  pr.sem1 .sl PP (Builtin.append_ #[T_SSSint, T_SSSint] T_SSSint #[Sl.v out_4, Sl.v ρ2]) ω3 fun (ρ4 : Sl) ω5 =>
  R (.returned (Sl.v ρ4)) ω5)
  else (
  L4 pr form_0 t_1 n_2 size_3 out_4 0 w (q7 pr R))) := by kernel_rfl
theorem E_s (form_0 : Sl) (t_1 : Sl) (n_2 : Int) (size_3 : Int) (out_4 : Sl) (w : World) (R : Ending → World → Prop) : E std form_0 t_1 n_2 size_3 out_4 w R = (
  bif decide (n_2 > size_3) then (
  call1 .sl PP F.spec_l2Copy #[Sl.v t_1] w fun (ρ0 : Sl) ω1 =>
  sem1 .sl PP (Instr.buildSlice T_SSSint 1 #[(0, Sl.v ρ0)]) ω1 fun (ρ2 : Sl) ω3 =>
  sem1 .sl PP (Builtin.append_ #[T_SSSint, T_SSSint] T_SSSint #[Sl.v out_4, Sl.v ρ2]) ω3 fun (ρ4 : Sl) ω5 =>
  R (.returned (Sl.v ρ4)) ω5)
  else (
  L4 std form_0 t_1 n_2 size_3 out_4 0 w (q7 std R))) := E_eq std form_0 t_1 n_2 size_3 out_4 w R
theorem drawsOk : drawsOk PP cfg okD (codeOf Try.f72) = true := by kernel_rfl
theorem calls (form_0 : Sl) (t_1 : Sl) (n_2 : Int) (size_3 : Int) (out_4 : Sl) {w : World} {R : Ending → World → Prop} (h : E std form_0 t_1 n_2 size_3 out_4 w R) : Calls PP F.spec_l19Fill #[Sl.v form_0, Sl.v t_1, vI n_2, vI size_3, Sl.v out_4] w R :=
  calls_of noCount mixed drawOk Try.func72 rfl (c := cfg) (args := [Sl.v form_0, Sl.v t_1, vI n_2, vI size_3, Sl.v out_4]) rfl (Nat.le_of_ble_eq_true (by kernel_rfl)) drawsOk h
end spec_l19Fill

namespace spec_TableauxOf
@[reducible] def cfg : Cfg := ⟨34, [(7, [0, 3, 4, 5, 6])], [(1, [0, 3, 4, 5, 6]), (0, [0, 3, 4, 5])], [], [2], [], [91, 60, 17, 21, 24, 26, 65, 27, 82, 64, 85, 108, 78, 53, 51], [86, 52, 88]⟩
def q6 (pr : Prims) (R : Ending → World → Prop) : Exit → Env → World → Prop := fun ex e w => normQ ex (fun e w => contE pr cfg (sub (codeOf Try.f33) [1, 1, 1, 1, 1, 1]) (fun e w => wpC pr PP cfg (DD pr) (sub (codeOf Try.f33) [1, 1, 1, 1, 1, 1]) (retQ Try.f33.results.toList R) e w) e w) (retQ Try.f33.results.toList R) e w
def q7 (pr : Prims) (R : Ending → World → Prop) : Exit → Env → World → Prop := fun ex e w => blockQ ex 0 (q6 pr R) e w
def emb7 (form_0 : Sl) (out_3 : Sl) (t_4 : Sl) (size_5 : Int) (r_6 : Int) : Env := [(0, Sl.v form_0), (3, Sl.v out_3), (4, Sl.v t_4), (5, vI size_5), (6, vI r_6)]
def x0 (form_0 : Sl) (out_3 : Sl) (t_4 : Sl) (size_5 : Int) : Env := [(0, Sl.v form_0), (3, Sl.v out_3), (4, Sl.v t_4), (5, vI size_5)]
def S7 (pr : Prims) (Q : Exit → Env → World → Prop) : (Env → World → Prop) → Env → World → Prop := fun k e w => wpC pr PP cfg (DD pr) (sub (codeOf Try.f33) [1, 1, 1, 1, 1, 0, 1, 0, 0]) (fun ex e w => normQ ex (fun e' w' => k (Env.restr e' (lookN cfg.loops (keyOf (sub (codeOf Try.f33) [1, 1, 1, 1, 1, 0, 1, 0, 0])))) w') Q e w) e w
def B7 (pr : Prims) (form_0 : Sl) (out_3 : Sl) (t_4 : Sl) (size_5 : Int) (r_6 : Int) (w : World) (k : Env → World → Prop) (Q : Exit → Env → World → Prop) : Prop :=
  S7 pr Q k (emb7 form_0 out_3 t_4 size_5 r_6) w
def L7 (pr : Prims) (form_0 : Sl) (out_3 : Sl) (t_4 : Sl) (size_5 : Int) (r_6 : Int) (w : World) (Q : Exit → Env → World → Prop) : Prop :=
  pr.loop (S7 pr Q) (emb7 form_0 out_3 t_4 size_5 r_6) w
def E (pr : Prims) (form_0 : Sl) (w : World) (R : Ending → World → Prop) : Prop :=
  wpC pr PP cfg (DD pr) (codeOf Try.f33) (retQ Try.f33.results.toList R) (argE 0 [Sl.v form_0]) w
theorem B7_eq (pr : Prims) (form_0 : Sl) (out_3 : Sl) (t_4 : Sl) (size_5 : Int) (r_6 : Int) (w : World) (k : Env → World → Prop) (Q : Exit → Env → World → Prop) : B7 pr form_0 out_3 t_4 size_5 r_6 w k Q = (
  bif decide (r_6 < (form_0.n : Int)) then (
  pr.sem1 .sl PP (Instr.buildSlice T_Sint 0 #[]) w fun (ρ8 : Sl) ω9 =>
  pr.sem1 .sl PP (Instr.buildSlice T_SSint 1 #[(0, Sl.v ρ8)]) ω9 fun (ρ10 : Sl) ω11 =>
  pr.sem1 .sl PP (Builtin.append_ #[T_SSint, T_SSint] T_SSint #[Sl.v t_4, Sl.v ρ10]) ω11 fun (ρ12 : Sl) ω13 =>
  pr.idxK 1 form_0 r_6 fun (a14 : Addr) =>
  pr.load1 (.int .i64) a14 ω13 fun (ξ15 : Int) =>
  k (emb7 form_0 out_3 ρ12 (w64 (size_5 + ξ15)) (w64 (r_6 + 1))) ω13)
  else (
  Q (.exit 0) (x0 form_0 out_3 t_4 size_5) w)) := by kernel_rfl
theorem B7_s (form_0 : Sl) (out_3 : Sl) (t_4 : Sl) (size_5 : Int) (r_6 : Int) (w : World) (k : Env → World → Prop) (Q : Exit → Env → World → Prop) : B7 std form_0 out_3 t_4 size_5 r_6 w k Q = (
  bif decide (r_6 < (form_0.n : Int)) then (
  sem1 .sl PP (Instr.buildSlice T_Sint 0 #[]) w fun (ρ8 : Sl) ω9 =>
  sem1 .sl PP (Instr.buildSlice T_SSint 1 #[(0, Sl.v ρ8)]) ω9 fun (ρ10 : Sl) ω11 =>
  sem1 .sl PP (Builtin.append_ #[T_SSint, T_SSint] T_SSint #[Sl.v t_4, Sl.v ρ10]) ω11 fun (ρ12 : Sl) ω13 =>
  idxK 1 form_0 r_6 fun (a14 : Addr) =>
  load1 (.int .i64) a14 ω13 fun (ξ15 : Int) =>
  k (emb7 form_0 out_3 ρ12 (w64 (size_5 + ξ15)) (w64 (r_6 + 1))) ω13)
  else (
  Q (.exit 0) (x0 form_0 out_3 t_4 size_5) w)) := B7_eq std form_0 out_3 t_4 size_5 r_6 w k Q
theorem L7_rule (form_0 : Sl) (out_3 : Sl) (t_4 : Sl) (size_5 : Int) (r_6 : Int) (w : World) (Q : Exit → Env → World → Prop) (I : Sl → Int → Int → World → Prop) (μ : Sl → Int → Int → World → Nat) (h0 : I t_4 size_5 r_6 w)
    (h : ∀ (t_4 : Sl) (size_5 : Int) (r_6 : Int) (w' : World), I t_4 size_5 r_6 w' → B7 std form_0 out_3 t_4 size_5 r_6 w' (fun e2 w2 => ∃ t_4_n size_5_n r_6_n, e2 = emb7 form_0 out_3 t_4_n size_5_n r_6_n ∧ I t_4_n size_5_n r_6_n w2 ∧ μ t_4_n size_5_n r_6_n w2 < μ t_4 size_5 r_6 w') Q) :
    L7 std form_0 out_3 t_4 size_5 r_6 w Q := by
  unfold L7
  refine LoopE.intro (σ := Sl × Int × Int) (step := S7 std Q) (fun s => emb7 form_0 out_3 s.1 s.2.1 s.2.2) (fun s w => I s.1 s.2.1 s.2.2 w) (fun s w => μ s.1 s.2.1 s.2.2 w) (t_4, size_5, r_6) rfl h0 ?_
  intro s w' hI
  have h1 := h s.1 s.2.1 s.2.2 w' hI
  unfold B7 at h1
  simp only [Prod.exists]
  exact h1
theorem A7_0_eq (pr : Prims) (form_0 : Sl) (out_3 : Sl) (t_4 : Sl) (size_5 : Int) (w : World) (R : Ending → World → Prop) : (q7 pr R) (.exit 0) (x0 form_0 out_3 t_4 size_5) w = (
  pr.call1 .sl PP F.spec_l19Fill #[Sl.v form_0, Sl.v t_4, vI 1, vI size_5, Sl.v out_3] w fun (ρ16 : Sl) ω17 =>
  R (.returned (Sl.v ρ16)) ω17) := by kernel_rfl
theorem A7_0_s (form_0 : Sl) (out_3 : Sl) (t_4 : Sl) (size_5 : Int) (w : World) (R : Ending → World → Prop) : (q7 std R) (.exit 0) (x0 form_0 out_3 t_4 size_5) w = (
  call1 .sl PP F.spec_l19Fill #[Sl.v form_0, Sl.v t_4, vI 1, vI size_5, Sl.v out_3] w fun (ρ16 : Sl) ω17 =>
  R (.returned (Sl.v ρ16)) ω17) := A7_0_eq std form_0 out_3 t_4 size_5 w R
theorem E_eq (pr : Prims) (form_0 : Sl) (w : World) (R : Ending → World → Prop) : E pr form_0 w R = (
  pr.sem1 .sl PP (Instr.buildSlice T_SSSint 0 #[]) w fun (ρ0 : Sl) ω1 =>
  pr.call1 .bool PP F.spec_l19Form #[Sl.v form_0, vI 6] ω1 fun (ρ2 : Bool) ω3 =>
  bif !ρ2 then (
  R (.returned (Sl.v ρ0)) ω3)
  else (
  pr.sem1 .sl PP (Instr.buildSlice T_SSint 0 #[]) ω3 fun (ρ4 : Sl) ω5 =>
  L7 pr form_0 ρ0 ρ4 0 0 ω5 (q7 pr R))) := by kernel_rfl
theorem E_s (form_0 : Sl) (w : World) (R : Ending → World → Prop) : E std form_0 w R = (
  sem1 .sl PP (Instr.buildSlice T_SSSint 0 #[]) w fun (ρ0 : Sl) ω1 =>
  call1 .bool PP F.spec_l19Form #[Sl.v form_0, vI 6] ω1 fun (ρ2 : Bool) ω3 =>
  bif !ρ2 then (
  R (.returned (Sl.v ρ0)) ω3)
  else (
  sem1 .sl PP (Instr.buildSlice T_SSint 0 #[]) ω3 fun (ρ4 : Sl) ω5 =>
  L7 std form_0 ρ0 ρ4 0 0 ω5 (q7 std R))) := E_eq std form_0 w R
theorem drawsOk : drawsOk PP cfg okD (codeOf Try.f33) = true := by kernel_rfl
theorem calls (form_0 : Sl) {w : World} {R : Ending → World → Prop} (h : E std form_0 w R) : Calls PP F.spec_TableauxOf #[Sl.v form_0] w R :=
  calls_of noCount mixed drawOk Try.func33 rfl (c := cfg) (args := [Sl.v form_0]) rfl (Nat.le_of_ble_eq_true (by kernel_rfl)) drawsOk h
end spec_TableauxOf

namespace laws_FnExactTableauxOf
@[reducible] def cfg : Cfg := ⟨66, [], [], [], [2], [], [91, 60, 17, 21, 24, 26, 65, 27, 82, 64, 85, 108, 78, 53, 51], [86, 52, 88]⟩
def E (pr : Prims) (aForm_0 : Sl) (w : World) (R : Ending → World → Prop) : Prop :=
  wpC pr PP cfg (DD pr) (codeOf Try.f8) (retQ Try.f8.results.toList R) (argE 0 [Sl.v aForm_0]) w
theorem E_eq (pr : Prims) (aForm_0 : Sl) (w : World) (R : Ending → World → Prop) : E pr aForm_0 w R = (
  bif decide ((aForm_0.n : Int) > 1048576) then (
  R (.returned (.bool true)) w)
  else (
  pr.call1 .sl PP F.laws_toIntS #[Sl.v aForm_0] w fun (ρ0 : Sl) ω1 =>
  pr.call1 .sl PP F.spec_TableauxOf #[Sl.v ρ0] ω1 fun (ρ2 : Sl) ω3 =>
  pr.call1 .sl PP F.laws_toIntS #[Sl.v aForm_0] ω3 fun (ρ4 : Sl) ω5 =>
  pr.call1 .sl PP F.impl_TableauxOf #[Sl.v ρ4] ω5 fun (ρ6 : Sl) ω7 =>
  pr.call1 .bool PP F.laws_eqIntSSS #[Sl.v ρ6, Sl.v ρ2] ω7 fun (ρ8 : Bool) ω9 =>
  bif !ρ8 then (
  R (.returned (.bool false)) ω9)
  else (
  pr.call1 .sl PP F.laws_toIntS #[Sl.v aForm_0] ω9 fun (ρ10 : Sl) ω11 =>
  pr.call1 .bool PP F.laws_eqIntS #[Sl.v ρ4, Sl.v ρ10] ω11 fun (ρ12 : Bool) ω13 =>
  bif !ρ12 then (
  R (.returned (.bool false)) ω13)
  else (
  pr.call1 (.int .i64) PP F.laws_markIntS #[Sl.v ρ4, vI 1] ω13 fun (ρ14 : Int) ω15 =>
  bif decide (ρ14 < 0) then (
  R (.returned (.bool false)) ω15)
  else (
  pr.call1 .bool PP F.laws_eqIntSSS #[Sl.v ρ6, Sl.v ρ2] ω15 fun (ρ16 : Bool) ω17 =>
  bif !ρ16 then (
  R (.returned (.bool false)) ω17)
  else (
  pr.call1 (.int .i64) PP F.laws_markIntSSS #[Sl.v ρ6, vI 1] ω17 fun (ρ18 : Int) ω19 =>
  pr.call1 (.int .i64) PP F.laws_heldIntSSS #[Sl.v ρ6, vI 1] ω19 fun (ρ20 : Int) ω21 =>
  bif decide (ρ20 < 0) then (
  R (.returned (.bool false)) ω21)
  else (
  bif ρ20 != ρ18 then (
  R (.returned (.bool false)) ω21)
  else (
  pr.call1 .sl PP F.laws_toIntS #[Sl.v aForm_0] ω21 fun (ρ22 : Sl) ω23 =>
  pr.call1 .sl PP F.impl_TableauxOf #[Sl.v ρ22] ω23 fun (ρ24 : Sl) ω25 =>
  pr.call1 .bool PP F.laws_eqIntSSS #[Sl.v ρ24, Sl.v ρ2] ω25 fun (ρ26 : Bool) ω27 =>
  bif !ρ26 then (
  R (.returned (.bool false)) ω27)
  else (
  pr.call1 (.int .i64) PP F.laws_heldIntSSS #[Sl.v ρ6, vI 1] ω27 fun (ρ28 : Int) ω29 =>
  bif decide (ρ28 < 0) then (
  R (.returned (.bool false)) ω29)
  else (
  bif ρ28 != ρ18 then (
  R (.returned (.bool false)) ω29)
  else (
  R (.returned (.bool true)) ω29))))))))))) := by kernel_rfl
theorem E_s (aForm_0 : Sl) (w : World) (R : Ending → World → Prop) : E std aForm_0 w R = (
  bif decide ((aForm_0.n : Int) > 1048576) then (
  R (.returned (.bool true)) w)
  else (
  call1 .sl PP F.laws_toIntS #[Sl.v aForm_0] w fun (ρ0 : Sl) ω1 =>
  call1 .sl PP F.spec_TableauxOf #[Sl.v ρ0] ω1 fun (ρ2 : Sl) ω3 =>
  call1 .sl PP F.laws_toIntS #[Sl.v aForm_0] ω3 fun (ρ4 : Sl) ω5 =>
  call1 .sl PP F.impl_TableauxOf #[Sl.v ρ4] ω5 fun (ρ6 : Sl) ω7 =>
  call1 .bool PP F.laws_eqIntSSS #[Sl.v ρ6, Sl.v ρ2] ω7 fun (ρ8 : Bool) ω9 =>
  bif !ρ8 then (
  R (.returned (.bool false)) ω9)
  else (
  call1 .sl PP F.laws_toIntS #[Sl.v aForm_0] ω9 fun (ρ10 : Sl) ω11 =>
  call1 .bool PP F.laws_eqIntS #[Sl.v ρ4, Sl.v ρ10] ω11 fun (ρ12 : Bool) ω13 =>
  bif !ρ12 then (
  R (.returned (.bool false)) ω13)
  else (
  call1 (.int .i64) PP F.laws_markIntS #[Sl.v ρ4, vI 1] ω13 fun (ρ14 : Int) ω15 =>
  bif decide (ρ14 < 0) then (
  R (.returned (.bool false)) ω15)
  else (
  call1 .bool PP F.laws_eqIntSSS #[Sl.v ρ6, Sl.v ρ2] ω15 fun (ρ16 : Bool) ω17 =>
  bif !ρ16 then (
  R (.returned (.bool false)) ω17)
  else (
  call1 (.int .i64) PP F.laws_markIntSSS #[Sl.v ρ6, vI 1] ω17 fun (ρ18 : Int) ω19 =>
  call1 (.int .i64) PP F.laws_heldIntSSS #[Sl.v ρ6, vI 1] ω19 fun (ρ20 : Int) ω21 =>
  bif decide (ρ20 < 0) then (
  R (.returned (.bool false)) ω21)
  else (
  bif ρ20 != ρ18 then (
  R (.returned (.bool false)) ω21)
  else (
  call1 .sl PP F.laws_toIntS #[Sl.v aForm_0] ω21 fun (ρ22 : Sl) ω23 =>
  call1 .sl PP F.impl_TableauxOf #[Sl.v ρ22] ω23 fun (ρ24 : Sl) ω25 =>
  call1 .bool PP F.laws_eqIntSSS #[Sl.v ρ24, Sl.v ρ2] ω25 fun (ρ26 : Bool) ω27 =>
  bif !ρ26 then (
  R (.returned (.bool false)) ω27)
  else (
  call1 (.int .i64) PP F.laws_heldIntSSS #[Sl.v ρ6, vI 1] ω27 fun (ρ28 : Int) ω29 =>
  bif decide (ρ28 < 0) then (
  R (.returned (.bool false)) ω29)
  else (
  bif ρ28 != ρ18 then (
  R (.returned (.bool false)) ω29)
  else (
  R (.returned (.bool true)) ω29))))))))))) := E_eq std aForm_0 w R
theorem drawsOk : drawsOk PP cfg okD (codeOf Try.f8) = true := by kernel_rfl
theorem calls (aForm_0 : Sl) {w : World} {R : Ending → World → Prop} (h : E std aForm_0 w R) : Calls PP F.laws_FnExactTableauxOf #[Sl.v aForm_0] w R :=
  calls_of noCount mixed drawOk Try.func8 rfl (c := cfg) (args := [Sl.v aForm_0]) rfl (Nat.le_of_ble_eq_true (by kernel_rfl)) drawsOk h
end laws_FnExactTableauxOf

end Go.Proofs.Ytfainpmcdfckkaa
