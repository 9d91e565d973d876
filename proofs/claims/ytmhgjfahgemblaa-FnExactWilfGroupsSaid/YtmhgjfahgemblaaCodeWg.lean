/- What each function does, step by step, written by a program (Gen.lean); each equation is checked by the kernel. -/
import Derived.Test.YtmhgjfahgemblaaHead
namespace Go.Proofs.Ytmhgjfahgemblaa
open Go
set_option linter.unusedVariables false
set_option maxRecDepth 100000
namespace spec_WilfGroups
@[reducible] def cfg : Cfg := ⟨78, [(11, [1, 5, 6, 7, 8, 9, 10]), (7, [1, 5, 6, 7, 8])], [(3, [1, 5, 6, 7, 8, 9, 10]), (2, [1, 5, 6, 7, 8, 9, 10]), (1, [1, 5, 6, 7, 8]), (0, [5])], [(16, [1, 5, 6, 7, 8, 10])], [4], [], [62, 10, 22, 58, 24, 44, 18, 70, 43, 85, 25, 71, 59, 37, 63], [82, 113, 102, 38, 103, 26, 60]⟩
def q8 (pr : Prims) (R : Ending → World → Prop) : Exit → Env → World → Prop := fun ex e w => normQ ex (fun e w => contE pr cfg (sub (codeOf Try.f13) [1, 1, 1, 1, 1, 1]) (fun e w => wpC pr PP cfg (DD pr) (sub (codeOf Try.f13) [1, 1, 1, 1, 1, 1]) (retQ Try.f13.results.toList R) e w) e w) (retQ Try.f13.results.toList R) e w
def q9 (pr : Prims) (R : Ending → World → Prop) : Exit → Env → World → Prop := fun ex e w => blockQ ex 0 (q8 pr R) e w
def q10 (pr : Prims) (k : Env → World → Prop) (Q : Exit → Env → World → Prop) : Exit → Env → World → Prop := fun ex e w => normQ ex (fun e w => contE pr cfg (sub (codeOf Try.f13) [1, 1, 1, 1, 1, 0, 1, 0, 0, 1, 1]) (fun e w => wpC pr PP cfg (DD pr) (sub (codeOf Try.f13) [1, 1, 1, 1, 1, 0, 1, 0, 0, 1, 1]) (fun ex e w => normQ ex (fun e' w' => k (Env.restr e' (lookN cfg.loops (keyOf (sub (codeOf Try.f13) [1, 1, 1, 1, 1, 0, 1, 0, 0])))) w') Q e w) e w) e w) (fun ex e w => normQ ex (fun e' w' => k (Env.restr e' (lookN cfg.loops (keyOf (sub (codeOf Try.f13) [1, 1, 1, 1, 1, 0, 1, 0, 0])))) w') Q e w) e w
def q11 (pr : Prims) (k : Env → World → Prop) (Q : Exit → Env → World → Prop) : Exit → Env → World → Prop := fun ex e w => blockQ ex 1 (q10 pr k Q) e w
def q18 (pr : Prims) (k : Env → World → Prop) (Q : Exit → Env → World → Prop) : Exit → Env → World → Prop := fun ex e w => normQ ex (fun e w => contE pr cfg (sub (codeOf Try.f13) [1, 1, 1, 1, 1, 0, 1, 0, 0, 1, 0, 0, 1, 1, 1]) (fun e w => wpC pr PP cfg (DD pr) (sub (codeOf Try.f13) [1, 1, 1, 1, 1, 0, 1, 0, 0, 1, 0, 0, 1, 1, 1]) (q11 pr k Q) e w) e w) (q11 pr k Q) e w
def q19 (pr : Prims) (k : Env → World → Prop) (Q : Exit → Env → World → Prop) : Exit → Env → World → Prop := fun ex e w => blockQ ex 2 (q18 pr k Q) e w
def q24 (pr : Prims) (k : Env → World → Prop) (Q : Exit → Env → World → Prop) : Exit → Env → World → Prop := fun ex e w => normQ ex (fun e w => contE pr cfg (sub (codeOf Try.f13) [1, 1, 1, 1, 1, 0, 1, 0, 0, 1, 0, 0, 1, 1, 1, 1]) (fun e w => wpC pr PP cfg (DD pr) (sub (codeOf Try.f13) [1, 1, 1, 1, 1, 0, 1, 0, 0, 1, 0, 0, 1, 1, 1, 1]) (q11 pr k Q) e w) e w) (q11 pr k Q) e w
def emb7 (n_1 : Int) (out_5 : Sl) (counts_6 : Sl) (all_7 : Sl) (i_8 : Int) : Env := [(1, vI n_1), (5, Sl.v out_5), (6, Sl.v counts_6), (7, Sl.v all_7), (8, vI i_8)]
def emb11 (n_1 : Int) (out_5 : Sl) (counts_6 : Sl) (all_7 : Sl) (i_8 : Int) (x_9 : Sl) (at_10 : Int) : Env := [(1, vI n_1), (5, Sl.v out_5), (6, Sl.v counts_6), (7, Sl.v all_7), (8, vI i_8), (9, Sl.v x_9), (10, vI at_10)]
def x2 (n_1 : Int) (out_5 : Sl) (counts_6 : Sl) (all_7 : Sl) (i_8 : Int) (x_9 : Sl) (at_10 : Int) : Env := [(1, vI n_1), (5, Sl.v out_5), (6, Sl.v counts_6), (7, Sl.v all_7), (8, vI i_8), (9, Sl.v x_9), (10, vI at_10)]
def j16 (n_1 : Int) (out_5 : Sl) (counts_6 : Sl) (all_7 : Sl) (i_8 : Int) (at_10 : Int) : Env := [(1, vI n_1), (5, Sl.v out_5), (6, Sl.v counts_6), (7, Sl.v all_7), (8, vI i_8), (10, vI at_10)]
def x0 (out_5 : Sl) : Env := [(5, Sl.v out_5)]
def S11 (pr : Prims) (Q : Exit → Env → World → Prop) : (Env → World → Prop) → Env → World → Prop := fun k e w => wpC pr PP cfg (DD pr) (sub (codeOf Try.f13) [1, 1, 1, 1, 1, 0, 1, 0, 0, 1, 0, 0, 1, 1, 0, 0, 0]) (fun ex e w => normQ ex (fun e' w' => k (Env.restr e' (lookN cfg.loops (keyOf (sub (codeOf Try.f13) [1, 1, 1, 1, 1, 0, 1, 0, 0, 1, 0, 0, 1, 1, 0, 0, 0])))) w') Q e w) e w
def S7 (pr : Prims) (Q : Exit → Env → World → Prop) : (Env → World → Prop) → Env → World → Prop := fun k e w => wpC pr PP cfg (DD pr) (sub (codeOf Try.f13) [1, 1, 1, 1, 1, 0, 1, 0, 0]) (fun ex e w => normQ ex (fun e' w' => k (Env.restr e' (lookN cfg.loops (keyOf (sub (codeOf Try.f13) [1, 1, 1, 1, 1, 0, 1, 0, 0])))) w') Q e w) e w
def B11 (pr : Prims) (n_1 : Int) (out_5 : Sl) (counts_6 : Sl) (all_7 : Sl) (i_8 : Int) (x_9 : Sl) (at_10 : Int) (w : World) (k : Env → World → Prop) (Q : Exit → Env → World → Prop) : Prop :=
  S11 pr Q k (emb11 n_1 out_5 counts_6 all_7 i_8 x_9 at_10) w
def L11 (pr : Prims) (n_1 : Int) (out_5 : Sl) (counts_6 : Sl) (all_7 : Sl) (i_8 : Int) (x_9 : Sl) (at_10 : Int) (w : World) (Q : Exit → Env → World → Prop) : Prop :=
  pr.loop (S11 pr Q) (emb11 n_1 out_5 counts_6 all_7 i_8 x_9 at_10) w
def J16 (pr : Prims) (n_1 : Int) (out_5 : Sl) (counts_6 : Sl) (all_7 : Sl) (i_8 : Int) (at_10 : Int) (w : World) (k : Env → World → Prop) (Q : Exit → Env → World → Prop) : Prop :=
  pr.seg (fun e w => wpC pr PP cfg (DD pr) (sub (codeOf Try.f13) [1, 1, 1, 1, 1, 0, 1, 0, 0, 1, 0, 0, 1, 1, 1, 1]) (q11 pr k Q) e w) (j16 n_1 out_5 counts_6 all_7 i_8 at_10) w
def B7 (pr : Prims) (n_1 : Int) (out_5 : Sl) (counts_6 : Sl) (all_7 : Sl) (i_8 : Int) (w : World) (k : Env → World → Prop) (Q : Exit → Env → World → Prop) : Prop :=
  S7 pr Q k (emb7 n_1 out_5 counts_6 all_7 i_8) w
def L7 (pr : Prims) (n_1 : Int) (out_5 : Sl) (counts_6 : Sl) (all_7 : Sl) (i_8 : Int) (w : World) (Q : Exit → Env → World → Prop) : Prop :=
  pr.loop (S7 pr Q) (emb7 n_1 out_5 counts_6 all_7 i_8) w
def E (pr : Prims) (k_0 : Int) (n_1 : Int) (w : World) (R : Ending → World → Prop) : Prop :=
  wpC pr PP cfg (DD pr) (codeOf Try.f13) (retQ Try.f13.results.toList R) (argE 0 [vI k_0, vI n_1]) w
theorem B11_eq (pr : Prims) (n_1 : Int) (out_5 : Sl) (counts_6 : Sl) (all_7 : Sl) (i_8 : Int) (x_9 : Sl) (at_10 : Int) (w : World) (k : Env → World → Prop) (Q : Exit → Env → World → Prop) : B11 pr n_1 out_5 counts_6 all_7 i_8 x_9 at_10 w k Q = (
  bif decide (at_10 < (counts_6.n : Int)) then (
  pr.idxK 1 counts_6 at_10 fun (a20 : Addr) =>
  pr.load1 .sl a20 w fun (ξ21 : Sl) =>
  pr.call1 .bool PP F.spec_l2Same #[Sl.v ξ21, Sl.v x_9] w fun (ρ22 : Bool) ω23 =>
  bif !ρ22 then (
  k (emb11 n_1 out_5 counts_6 all_7 i_8 x_9 (w64 (at_10 + 1))) ω23)
  else (
  Q (.exit 2) (x2 n_1 out_5 counts_6 all_7 i_8 x_9 at_10) ω23))
  else (
  Q (.exit 2) (x2 n_1 out_5 counts_6 all_7 i_8 x_9 at_10) w)) := by kernel_rfl
theorem B11_s (n_1 : Int) (out_5 : Sl) (counts_6 : Sl) (all_7 : Sl) (i_8 : Int) (x_9 : Sl) (at_10 : Int) (w : World) (k : Env → World → Prop) (Q : Exit → Env → World → Prop) : B11 std n_1 out_5 counts_6 all_7 i_8 x_9 at_10 w k Q = (
  bif decide (at_10 < (counts_6.n : Int)) then (
  idxK 1 counts_6 at_10 fun (a20 : Addr) =>
  load1 .sl a20 w fun (ξ21 : Sl) =>
  call1 .bool PP F.spec_l2Same #[Sl.v ξ21, Sl.v x_9] w fun (ρ22 : Bool) ω23 =>
  bif !ρ22 then (
  k (emb11 n_1 out_5 counts_6 all_7 i_8 x_9 (w64 (at_10 + 1))) ω23)
  else (
  Q (.exit 2) (x2 n_1 out_5 counts_6 all_7 i_8 x_9 at_10) ω23))
  else (
  Q (.exit 2) (x2 n_1 out_5 counts_6 all_7 i_8 x_9 at_10) w)) := B11_eq std n_1 out_5 counts_6 all_7 i_8 x_9 at_10 w k Q
theorem L11_rule (n_1 : Int) (out_5 : Sl) (counts_6 : Sl) (all_7 : Sl) (i_8 : Int) (x_9 : Sl) (at_10 : Int) (w : World) (Q : Exit → Env → World → Prop) (I : Int → World → Prop) (μ : Int → World → Nat) (h0 : I at_10 w)
    (h : ∀ (at_10 : Int) (w' : World), I at_10 w' → B11 std n_1 out_5 counts_6 all_7 i_8 x_9 at_10 w' (fun e2 w2 => ∃ at_10_n, e2 = emb11 n_1 out_5 counts_6 all_7 i_8 x_9 at_10_n ∧ I at_10_n w2 ∧ μ at_10_n w2 < μ at_10 w') Q) :
    L11 std n_1 out_5 counts_6 all_7 i_8 x_9 at_10 w Q := by
  unfold L11
  refine LoopE.intro (σ := Int) (step := S11 std Q) (fun s => emb11 n_1 out_5 counts_6 all_7 i_8 x_9 s) (fun s w => I s w) (fun s w => μ s w) at_10 rfl h0 ?_
  intro s w' hI
  have h1 := h s w' hI
  unfold B11 at h1
  exact h1
theorem J16_gen (pr : Prims) (n_1 : Int) (out_5 : Sl) (counts_6 : Sl) (all_7 : Sl) (i_8 : Int) (at_10 : Int) (w : World) (k : Env → World → Prop) (Q : Exit → Env → World → Prop) : wpC pr PP cfg (DD pr) (sub (codeOf Try.f13) [1, 1, 1, 1, 1, 0, 1, 0, 0, 1, 0, 0, 1, 1, 1, 1]) (q11 pr k Q) (j16 n_1 out_5 counts_6 all_7 i_8 at_10) w = (
  pr.drewAll w fun ω35 =>
  pr.idxK 1 out_5 at_10 fun (a36 : Addr) =>
  pr.idxK 1 all_7 i_8 fun (a37 : Addr) =>
  (pr.load1 .sl a36 ω35 fun (ξ38 : Sl) =>
  pr.load1 .sl a37 ω35 fun (ξ39 : Sl) =>
  pr.sem1 .sl PP (Instr.buildSlice T_SSint 1 #[(0, Sl.v ξ39)]) ω35 fun (ρ40 : Sl) ω41 =>
  pr.sem1 .sl PP (Builtin.append_ #[T_SSint, T_SSint] T_SSint #[Sl.v ξ38, Sl.v ρ40]) ω41 fun (ρ42 : Sl) ω43 =>
  pr.idxK 1 out_5 at_10 fun (a44 : Addr) =>
  pr.storeC a44 (Sl.v ρ42) ω43 fun ω45 =>
  k (emb7 n_1 out_5 counts_6 all_7 (w64 (i_8 + 1))) ω45) ∧
  (pr.load1 .sl a37 ω35 fun (ξ46 : Sl) =>
  (pr.load1 .sl a36 ω35 fun (ξ47 : Sl) =>
  pr.sem1 .sl PP (Instr.buildSlice T_SSint 1 #[(0, Sl.v ξ46)]) ω35 fun (ρ48 : Sl) ω49 =>
  pr.sem1 .sl PP (Builtin.append_ #[T_SSint, T_SSint] T_SSint #[Sl.v ξ47, Sl.v ρ48]) ω49 fun (ρ50 : Sl) ω51 =>
  pr.idxK 1 out_5 at_10 fun (a52 : Addr) =>
  pr.storeC a52 (Sl.v ρ50) ω51 fun ω53 =>
  k (emb7 n_1 out_5 counts_6 all_7 (w64 (i_8 + 1))) ω53) ∧
  (pr.sem1 .sl PP (Instr.buildSlice T_SSint 1 #[(0, Sl.v ξ46)]) ω35 fun (ρ54 : Sl) ω55 =>
  pr.load1 .sl a36 ω55 fun (ξ56 : Sl) =>
  pr.sem1 .sl PP (Builtin.append_ #[T_SSint, T_SSint] T_SSint #[Sl.v ξ56, Sl.v ρ54]) ω55 fun (ρ57 : Sl) ω58 =>
  pr.idxK 1 out_5 at_10 fun (a59 : Addr) =>
  pr.storeC a59 (Sl.v ρ57) ω58 fun ω60 =>
  k (emb7 n_1 out_5 counts_6 all_7 (w64 (i_8 + 1))) ω60))) := by kernel_rfl
theorem J16_s (n_1 : Int) (out_5 : Sl) (counts_6 : Sl) (all_7 : Sl) (i_8 : Int) (at_10 : Int) (w : World) (k : Env → World → Prop) (Q : Exit → Env → World → Prop) : J16 std n_1 out_5 counts_6 all_7 i_8 at_10 w k Q = (
  drewAll w fun ω35 =>
  idxK 1 out_5 at_10 fun (a36 : Addr) =>
  idxK 1 all_7 i_8 fun (a37 : Addr) =>
  (load1 .sl a36 ω35 fun (ξ38 : Sl) =>
  load1 .sl a37 ω35 fun (ξ39 : Sl) =>
  sem1 .sl PP (Instr.buildSlice T_SSint 1 #[(0, Sl.v ξ39)]) ω35 fun (ρ40 : Sl) ω41 =>
  sem1 .sl PP (Builtin.append_ #[T_SSint, T_SSint] T_SSint #[Sl.v ξ38, Sl.v ρ40]) ω41 fun (ρ42 : Sl) ω43 =>
  idxK 1 out_5 at_10 fun (a44 : Addr) =>
  storeC a44 (Sl.v ρ42) ω43 fun ω45 =>
  k (emb7 n_1 out_5 counts_6 all_7 (w64 (i_8 + 1))) ω45) ∧
  (load1 .sl a37 ω35 fun (ξ46 : Sl) =>
  (load1 .sl a36 ω35 fun (ξ47 : Sl) =>
  sem1 .sl PP (Instr.buildSlice T_SSint 1 #[(0, Sl.v ξ46)]) ω35 fun (ρ48 : Sl) ω49 =>
  sem1 .sl PP (Builtin.append_ #[T_SSint, T_SSint] T_SSint #[Sl.v ξ47, Sl.v ρ48]) ω49 fun (ρ50 : Sl) ω51 =>
  idxK 1 out_5 at_10 fun (a52 : Addr) =>
  storeC a52 (Sl.v ρ50) ω51 fun ω53 =>
  k (emb7 n_1 out_5 counts_6 all_7 (w64 (i_8 + 1))) ω53) ∧
  (sem1 .sl PP (Instr.buildSlice T_SSint 1 #[(0, Sl.v ξ46)]) ω35 fun (ρ54 : Sl) ω55 =>
  load1 .sl a36 ω55 fun (ξ56 : Sl) =>
  sem1 .sl PP (Builtin.append_ #[T_SSint, T_SSint] T_SSint #[Sl.v ξ56, Sl.v ρ54]) ω55 fun (ρ57 : Sl) ω58 =>
  idxK 1 out_5 at_10 fun (a59 : Addr) =>
  storeC a59 (Sl.v ρ57) ω58 fun ω60 =>
  k (emb7 n_1 out_5 counts_6 all_7 (w64 (i_8 + 1))) ω60))) := J16_gen std n_1 out_5 counts_6 all_7 i_8 at_10 w k Q
theorem A11_2_eq (pr : Prims) (n_1 : Int) (out_5 : Sl) (counts_6 : Sl) (all_7 : Sl) (i_8 : Int) (x_9 : Sl) (at_10 : Int) (w : World) (k : Env → World → Prop) (Q : Exit → Env → World → Prop) : (q19 pr k Q) (.exit 2) (x2 n_1 out_5 counts_6 all_7 i_8 x_9 at_10) w = (
  bif at_10 == (counts_6.n : Int) then (
  pr.sem1 .sl PP (Instr.buildSlice T_SSint 1 #[(0, Sl.v x_9)]) w fun (ρ25 : Sl) ω26 =>
  pr.sem1 .sl PP (Builtin.append_ #[T_SSint, T_SSint] T_SSint #[Sl.v counts_6, Sl.v ρ25]) ω26 fun (ρ27 : Sl) ω28 =>
  pr.sem1 .sl PP (Instr.buildSlice T_SSint 0 #[]) ω28 fun (ρ29 : Sl) ω30 =>
  pr.sem1 .sl PP (Instr.buildSlice T_SSSint 1 #[(0, Sl.v ρ29)]) ω30 fun (ρ31 : Sl) ω32 =>
  pr.sem1 .sl PP (Builtin.append_ #[T_SSSint, T_SSSint] T_SSSint #[Sl.v out_5, Sl.v ρ31]) ω32 fun (ρ33 : Sl) ω34 =>
  J16 pr n_1 ρ33 ρ27 all_7 i_8 at_10 ω34 k Q)
  else (
  J16 pr n_1 out_5 counts_6 all_7 i_8 at_10 w k Q)) := by kernel_rfl
theorem A11_2_s (n_1 : Int) (out_5 : Sl) (counts_6 : Sl) (all_7 : Sl) (i_8 : Int) (x_9 : Sl) (at_10 : Int) (w : World) (k : Env → World → Prop) (Q : Exit → Env → World → Prop) : (q19 std k Q) (.exit 2) (x2 n_1 out_5 counts_6 all_7 i_8 x_9 at_10) w = (
  bif at_10 == (counts_6.n : Int) then (
  sem1 .sl PP (Instr.buildSlice T_SSint 1 #[(0, Sl.v x_9)]) w fun (ρ25 : Sl) ω26 =>
  sem1 .sl PP (Builtin.append_ #[T_SSint, T_SSint] T_SSint #[Sl.v counts_6, Sl.v ρ25]) ω26 fun (ρ27 : Sl) ω28 =>
  sem1 .sl PP (Instr.buildSlice T_SSint 0 #[]) ω28 fun (ρ29 : Sl) ω30 =>
  sem1 .sl PP (Instr.buildSlice T_SSSint 1 #[(0, Sl.v ρ29)]) ω30 fun (ρ31 : Sl) ω32 =>
  sem1 .sl PP (Builtin.append_ #[T_SSSint, T_SSSint] T_SSSint #[Sl.v out_5, Sl.v ρ31]) ω32 fun (ρ33 : Sl) ω34 =>
  J16 std n_1 ρ33 ρ27 all_7 i_8 at_10 ω34 k Q)
  else (
  J16 std n_1 out_5 counts_6 all_7 i_8 at_10 w k Q)) := A11_2_eq std n_1 out_5 counts_6 all_7 i_8 x_9 at_10 w k Q
theorem B7_eq (pr : Prims) (n_1 : Int) (out_5 : Sl) (counts_6 : Sl) (all_7 : Sl) (i_8 : Int) (w : World) (k : Env → World → Prop) (Q : Exit → Env → World → Prop) : B7 pr n_1 out_5 counts_6 all_7 i_8 w k Q = (
  bif decide (i_8 < (all_7.n : Int)) then (
  pr.idxK 1 all_7 i_8 fun (a12 : Addr) =>
  pr.load1 .sl a12 w fun (ξ13 : Sl) =>
  pr.sem1 .sl PP (Instr.buildSlice T_SSint 1 #[(0, Sl.v ξ13)]) w fun (ρ14 : Sl) ω15 =>
  pr.call1 .sl PP F.spec_ClassCounts #[Sl.v ρ14, vI n_1] ω15 fun (ρ16 : Sl) ω17 =>
  L11 pr n_1 out_5 counts_6 all_7 i_8 ρ16 0 ω17 (q19 pr k Q))
  else (
  Q (.exit 0) (x0 out_5) w)) := by kernel_rfl
theorem B7_s (n_1 : Int) (out_5 : Sl) (counts_6 : Sl) (all_7 : Sl) (i_8 : Int) (w : World) (k : Env → World → Prop) (Q : Exit → Env → World → Prop) : B7 std n_1 out_5 counts_6 all_7 i_8 w k Q = (
  bif decide (i_8 < (all_7.n : Int)) then (
  idxK 1 all_7 i_8 fun (a12 : Addr) =>
  load1 .sl a12 w fun (ξ13 : Sl) =>
  sem1 .sl PP (Instr.buildSlice T_SSint 1 #[(0, Sl.v ξ13)]) w fun (ρ14 : Sl) ω15 =>
  call1 .sl PP F.spec_ClassCounts #[Sl.v ρ14, vI n_1] ω15 fun (ρ16 : Sl) ω17 =>
  L11 std n_1 out_5 counts_6 all_7 i_8 ρ16 0 ω17 (q19 std k Q))
  else (
  Q (.exit 0) (x0 out_5) w)) := B7_eq std n_1 out_5 counts_6 all_7 i_8 w k Q
theorem L7_rule (n_1 : Int) (out_5 : Sl) (counts_6 : Sl) (all_7 : Sl) (i_8 : Int) (w : World) (Q : Exit → Env → World → Prop) (I : Sl → Sl → Int → World → Prop) (μ : Sl → Sl → Int → World → Nat) (h0 : I out_5 counts_6 i_8 w)
    (h : ∀ (out_5 : Sl) (counts_6 : Sl) (i_8 : Int) (w' : World), I out_5 counts_6 i_8 w' → B7 std n_1 out_5 counts_6 all_7 i_8 w' (fun e2 w2 => ∃ out_5_n counts_6_n i_8_n, e2 = emb7 n_1 out_5_n counts_6_n all_7 i_8_n ∧ I out_5_n counts_6_n i_8_n w2 ∧ μ out_5_n counts_6_n i_8_n w2 < μ out_5 counts_6 i_8 w') Q) :
    L7 std n_1 out_5 counts_6 all_7 i_8 w Q := by
  unfold L7
  refine LoopE.intro (σ := Sl × Sl × Int) (step := S7 std Q) (fun s => emb7 n_1 s.1 s.2.1 all_7 s.2.2) (fun s w => I s.1 s.2.1 s.2.2 w) (fun s w => μ s.1 s.2.1 s.2.2 w) (out_5, counts_6, i_8) rfl h0 ?_
  intro s w' hI
  have h1 := h s.1 s.2.1 s.2.2 w' hI
  unfold B7 at h1
  simp only [Prod.exists]
  exact h1
theorem A7_0_eq (pr : Prims) (out_5 : Sl) (w : World) (R : Ending → World → Prop) : (q9 pr R) (.exit 0) (x0 out_5) w = (
  R (.returned (Sl.v out_5)) w) := by kernel_rfl
theorem A7_0_s (out_5 : Sl) (w : World) (R : Ending → World → Prop) : (q9 std R) (.exit 0) (x0 out_5) w = (
  R (.returned (Sl.v out_5)) w) := A7_0_eq std out_5 w R
theorem E_eq (pr : Prims) (k_0 : Int) (n_1 : Int) (w : World) (R : Ending → World → Prop) : E pr k_0 n_1 w R = (
  pr.sem1 .sl PP (Instr.buildSlice T_SSSint 0 #[]) w fun (ρ0 : Sl) ω1 =>
  pr.pcall1 .bool PP F.spec_l1In #[vI k_0, vI 1, vI 4] fun (ρ2 : Bool) =>
  bif !ρ2 then (
  R (.returned (Sl.v ρ0)) ω1)
  else (
  pr.pcall1 .bool PP F.spec_l1In #[vI n_1, vI 0, vI 6] fun (ρ3 : Bool) =>
  bif !ρ3 then (
  R (.returned (Sl.v ρ0)) ω1)
  else (
  pr.sem1 .sl PP (Instr.buildSlice T_SSint 0 #[]) ω1 fun (ρ4 : Sl) ω5 =>
  pr.call1 .sl PP F.spec_PermsOf #[vI k_0] ω5 fun (ρ6 : Sl) ω7 =>
  L7 pr n_1 ρ0 ρ4 ρ6 0 ω7 (q9 pr R)))) := by kernel_rfl
theorem E_s (k_0 : Int) (n_1 : Int) (w : World) (R : Ending → World → Prop) : E std k_0 n_1 w R = (
  sem1 .sl PP (Instr.buildSlice T_SSSint 0 #[]) w fun (ρ0 : Sl) ω1 =>
  pcall1 .bool PP F.spec_l1In #[vI k_0, vI 1, vI 4] fun (ρ2 : Bool) =>
  bif !ρ2 then (
  R (.returned (Sl.v ρ0)) ω1)
  else (
  pcall1 .bool PP F.spec_l1In #[vI n_1, vI 0, vI 6] fun (ρ3 : Bool) =>
  bif !ρ3 then (
  R (.returned (Sl.v ρ0)) ω1)
  else (
  sem1 .sl PP (Instr.buildSlice T_SSint 0 #[]) ω1 fun (ρ4 : Sl) ω5 =>
  call1 .sl PP F.spec_PermsOf #[vI k_0] ω5 fun (ρ6 : Sl) ω7 =>
  L7 std n_1 ρ0 ρ4 ρ6 0 ω7 (q9 std R)))) := E_eq std k_0 n_1 w R
theorem drawsOk : drawsOk PP cfg okD (codeOf Try.f13) = true := by kernel_rfl
theorem calls (k_0 : Int) (n_1 : Int) {w : World} {R : Ending → World → Prop} (h : E std k_0 n_1 w R) : Calls PP F.spec_WilfGroups #[vI k_0, vI n_1] w R :=
  calls_of noCount mixed drawOk Try.func13 rfl (c := cfg) (args := [vI k_0, vI n_1]) rfl (Nat.le_of_ble_eq_true (by kernel_rfl)) drawsOk h
end spec_WilfGroups

namespace impl_WilfGroups
@[reducible] def cfg : Cfg := ⟨61, [(6, [1, 5, 6, 25, 26, 27])], [(1, [1, 5, 6, 25, 26, 27]), (0, [5])], [(13, [1, 5, 6, 8, 10, 25, 26, 27])], [4], [], [62, 10, 22, 58, 24, 44, 18, 70, 43, 85, 25, 71, 59, 37, 63], [82, 113, 102, 38, 103, 26, 60]⟩
def q5 (pr : Prims) (R : Ending → World → Prop) : Exit → Env → World → Prop := fun ex e w => normQ ex (fun e w => contE pr cfg (sub (codeOf Try.f14) [1, 1, 1, 1, 1]) (fun e w => wpC pr PP cfg (DD pr) (sub (codeOf Try.f14) [1, 1, 1, 1, 1]) (retQ Try.f14.results.toList R) e w) e w) (retQ Try.f14.results.toList R) e w
def q8 (pr : Prims) (R : Ending → World → Prop) : Exit → Env → World → Prop := fun ex e w => blockQ ex 0 (q5 pr R) e w
def q9 (pr : Prims) (k : Env → World → Prop) (Q : Exit → Env → World → Prop) : Exit → Env → World → Prop := fun ex e w => normQ ex (fun e w => contE pr cfg (sub (codeOf Try.f14) [1, 1, 1, 1, 0, 1, 0, 0, 1, 1, 1]) (fun e w => wpC pr PP cfg (DD pr) (sub (codeOf Try.f14) [1, 1, 1, 1, 0, 1, 0, 0, 1, 1, 1]) (fun ex e w => normQ ex (fun e' w' => k (Env.restr e' (lookN cfg.loops (keyOf (sub (codeOf Try.f14) [1, 1, 1, 1, 0, 1, 0, 0])))) w') Q e w) e w) e w) (fun ex e w => normQ ex (fun e' w' => k (Env.restr e' (lookN cfg.loops (keyOf (sub (codeOf Try.f14) [1, 1, 1, 1, 0, 1, 0, 0])))) w') Q e w) e w
def q10 (pr : Prims) (k : Env → World → Prop) (Q : Exit → Env → World → Prop) : Exit → Env → World → Prop := fun ex e w => blockQ ex 1 (q9 pr k Q) e w
def q22 (pr : Prims) (k : Env → World → Prop) (Q : Exit → Env → World → Prop) : Exit → Env → World → Prop := fun ex e w => normQ ex (fun e w => contE pr cfg (sub (codeOf Try.f14) [1, 1, 1, 1, 0, 1, 0, 0, 1, 1, 0, 0, 1, 1, 1, 1]) (fun e w => wpC pr PP cfg (DD pr) (sub (codeOf Try.f14) [1, 1, 1, 1, 0, 1, 0, 0, 1, 1, 0, 0, 1, 1, 1, 1]) (q10 pr k Q) e w) e w) (q10 pr k Q) e w
def emb6 (n_1 : Int) (out_5 : Sl) (counts_6 : Sl) (t25 : Sl) (t26 : Int) (t27 : Int) : Env := [(1, vI n_1), (5, Sl.v out_5), (6, Sl.v counts_6), (25, Sl.v t25), (26, vI t26), (27, vI t27)]
def j13 (n_1 : Int) (out_5 : Sl) (counts_6 : Sl) (p_8 : Sl) (at_10 : Int) (t25 : Sl) (t26 : Int) (t27 : Int) : Env := [(1, vI n_1), (5, Sl.v out_5), (6, Sl.v counts_6), (8, Sl.v p_8), (10, vI at_10), (25, Sl.v t25), (26, vI t26), (27, vI t27)]
def x0 (out_5 : Sl) : Env := [(5, Sl.v out_5)]
def S6 (pr : Prims) (Q : Exit → Env → World → Prop) : (Env → World → Prop) → Env → World → Prop := fun k e w => wpC pr PP cfg (DD pr) (sub (codeOf Try.f14) [1, 1, 1, 1, 0, 1, 0, 0]) (fun ex e w => normQ ex (fun e' w' => k (Env.restr e' (lookN cfg.loops (keyOf (sub (codeOf Try.f14) [1, 1, 1, 1, 0, 1, 0, 0])))) w') Q e w) e w
def J13 (pr : Prims) (n_1 : Int) (out_5 : Sl) (counts_6 : Sl) (p_8 : Sl) (at_10 : Int) (t25 : Sl) (t26 : Int) (t27 : Int) (w : World) (k : Env → World → Prop) (Q : Exit → Env → World → Prop) : Prop :=
  pr.seg (fun e w => wpC pr PP cfg (DD pr) (sub (codeOf Try.f14) [1, 1, 1, 1, 0, 1, 0, 0, 1, 1, 0, 0, 1, 1, 1, 1]) (q10 pr k Q) e w) (j13 n_1 out_5 counts_6 p_8 at_10 t25 t26 t27) w
def B6 (pr : Prims) (n_1 : Int) (out_5 : Sl) (counts_6 : Sl) (t25 : Sl) (t26 : Int) (t27 : Int) (w : World) (k : Env → World → Prop) (Q : Exit → Env → World → Prop) : Prop :=
  S6 pr Q k (emb6 n_1 out_5 counts_6 t25 t26 t27) w
def L6 (pr : Prims) (n_1 : Int) (out_5 : Sl) (counts_6 : Sl) (t25 : Sl) (t26 : Int) (t27 : Int) (w : World) (Q : Exit → Env → World → Prop) : Prop :=
  pr.loop (S6 pr Q) (emb6 n_1 out_5 counts_6 t25 t26 t27) w
def E (pr : Prims) (k_0 : Int) (n_1 : Int) (w : World) (R : Ending → World → Prop) : Prop :=
  wpC pr PP cfg (DD pr) (codeOf Try.f14) (retQ Try.f14.results.toList R) (argE 0 [vI k_0, vI n_1]) w
theorem J13_gen (pr : Prims) (n_1 : Int) (out_5 : Sl) (counts_6 : Sl) (p_8 : Sl) (at_10 : Int) (t25 : Sl) (t26 : Int) (t27 : Int) (w : World) (k : Env → World → Prop) (Q : Exit → Env → World → Prop) : wpC pr PP cfg (DD pr) (sub (codeOf Try.f14) [1, 1, 1, 1, 0, 1, 0, 0, 1, 1, 0, 0, 1, 1, 1, 1]) (q10 pr k Q) (j13 n_1 out_5 counts_6 p_8 at_10 t25 t26 t27) w = (
  pr.idxK 1 out_5 at_10 fun (a33 : Addr) =>
  pr.load1 .sl a33 w fun (ξ34 : Sl) =>
  pr.sem1 .sl PP (Instr.buildSlice T_SSint 1 #[(0, Sl.v p_8)]) w fun (ρ35 : Sl) ω36 =>
  pr.sem1 .sl PP (Builtin.append_ #[T_SSint, T_SSint] T_SSint #[Sl.v ξ34, Sl.v ρ35]) ω36 fun (ρ37 : Sl) ω38 =>
  pr.idxK 1 out_5 at_10 fun (a39 : Addr) =>
  pr.storeC a39 (Sl.v ρ37) ω38 fun ω40 =>
  k (emb6 n_1 out_5 counts_6 t25 t26 (w64 (t27 + 1))) ω40) := by kernel_rfl
theorem J13_s (n_1 : Int) (out_5 : Sl) (counts_6 : Sl) (p_8 : Sl) (at_10 : Int) (t25 : Sl) (t26 : Int) (t27 : Int) (w : World) (k : Env → World → Prop) (Q : Exit → Env → World → Prop) : J13 std n_1 out_5 counts_6 p_8 at_10 t25 t26 t27 w k Q = (
  idxK 1 out_5 at_10 fun (a33 : Addr) =>
  load1 .sl a33 w fun (ξ34 : Sl) =>
  sem1 .sl PP (Instr.buildSlice T_SSint 1 #[(0, Sl.v p_8)]) w fun (ρ35 : Sl) ω36 =>
  sem1 .sl PP (Builtin.append_ #[T_SSint, T_SSint] T_SSint #[Sl.v ξ34, Sl.v ρ35]) ω36 fun (ρ37 : Sl) ω38 =>
  idxK 1 out_5 at_10 fun (a39 : Addr) =>
  storeC a39 (Sl.v ρ37) ω38 fun ω40 =>
  k (emb6 n_1 out_5 counts_6 t25 t26 (w64 (t27 + 1))) ω40) := J13_gen std n_1 out_5 counts_6 p_8 at_10 t25 t26 t27 w k Q
theorem B6_eq (pr : Prims) (n_1 : Int) (out_5 : Sl) (counts_6 : Sl) (t25 : Sl) (t26 : Int) (t27 : Int) (w : World) (k : Env → World → Prop) (Q : Exit → Env → World → Prop) : B6 pr n_1 out_5 counts_6 t25 t26 t27 w k Q = (
  bif decide (t27 < t26) then (
  pr.idxK 1 t25 t27 fun (a11 : Addr) =>
  pr.load1 .sl a11 w fun (ξ12 : Sl) =>
  pr.sem1 .sl PP (Instr.buildSlice T_SSint 1 #[(0, Sl.v ξ12)]) w fun (ρ13 : Sl) ω14 =>
  pr.call1 .sl PP F.impl_ClassCounts #[Sl.v ρ13, vI n_1] ω14 fun (ρ15 : Sl) ω16 =>
  pr.newK T_Sint #[Sl.v Sl.nil] ω16 fun (a17 : Addr) ω18 =>
  pr.storeC a17 (Sl.v ρ15) ω18 fun ω19 =>
  pr.call1 (.int .i64) PP F.slices_IndexFunc_____int___int_ #[Sl.v counts_6, (.func (.func F.impl_WilfGroupsL1) #[] #[.pointer (some a17)])] ω19 fun (ρ20 : Int) ω21 =>
  bif decide (ρ20 < 0) then (
  pr.drewAll ω21 fun ω23 =>
  (pr.sem1 .sl PP (Instr.buildSlice T_SSSint 1 #[(0, Sl.v Sl.nil)]) ω23 fun (ρ24 : Sl) ω25 =>
  (pr.sem1 .sl PP (Builtin.append_ #[T_SSSint, T_SSSint] T_SSSint #[Sl.v out_5, Sl.v ρ24]) ω25 fun (ρ26 : Sl) ω27 =>
  pr.load1 .sl a17 ω27 fun (ξ28 : Sl) =>
  pr.sem1 .sl PP (Instr.buildSlice T_SSint 1 #[(0, Sl.v ξ28)]) ω27 fun (ρ29 : Sl) ω30 =>
  pr.sem1 .sl PP (Builtin.append_ #[T_SSint, T_SSint] T_SSint #[Sl.v counts_6, Sl.v ρ29]) ω30 fun (ρ31 : Sl) ω32 =>
  J13 pr n_1 ρ26 ρ31 ξ12 (out_5.n : Int) t25 t26 t27 ω32 k Q) ∧
  (pr.load1 .sl a17 ω25 fun (ξ41 : Sl) =>
  (pr.sem1 .sl PP (Builtin.append_ #[T_SSSint, T_SSSint] T_SSSint #[Sl.v out_5, Sl.v ρ24]) ω25 fun (ρ42 : Sl) ω43 =>
  pr.sem1 .sl PP (Instr.buildSlice T_SSint 1 #[(0, Sl.v ξ41)]) ω43 fun (ρ44 : Sl) ω45 =>
  pr.sem1 .sl PP (Builtin.append_ #[T_SSint, T_SSint] T_SSint #[Sl.v counts_6, Sl.v ρ44]) ω45 fun (ρ46 : Sl) ω47 =>
  J13 pr n_1 ρ42 ρ46 ξ12 (out_5.n : Int) t25 t26 t27 ω47 k Q) ∧
  (pr.sem1 .sl PP (Instr.buildSlice T_SSint 1 #[(0, Sl.v ξ41)]) ω25 fun (ρ48 : Sl) ω49 =>
  pr.sem1 .sl PP (Builtin.append_ #[T_SSSint, T_SSSint] T_SSSint #[Sl.v out_5, Sl.v ρ24]) ω49 fun (ρ50 : Sl) ω51 =>
  pr.sem1 .sl PP (Builtin.append_ #[T_SSint, T_SSint] T_SSint #[Sl.v counts_6, Sl.v ρ48]) ω51 fun (ρ52 : Sl) ω53 =>
  J13 pr n_1 ρ50 ρ52 ξ12 (out_5.n : Int) t25 t26 t27 ω53 k Q))) ∧
  (pr.load1 .sl a17 ω23 fun (ξ54 : Sl) =>
  (pr.sem1 .sl PP (Instr.buildSlice T_SSSint 1 #[(0, Sl.v Sl.nil)]) ω23 fun (ρ55 : Sl) ω56 =>
  (pr.sem1 .sl PP (Builtin.append_ #[T_SSSint, T_SSSint] T_SSSint #[Sl.v out_5, Sl.v ρ55]) ω56 fun (ρ57 : Sl) ω58 =>
  pr.sem1 .sl PP (Instr.buildSlice T_SSint 1 #[(0, Sl.v ξ54)]) ω58 fun (ρ59 : Sl) ω60 =>
  pr.sem1 .sl PP (Builtin.append_ #[T_SSint, T_SSint] T_SSint #[Sl.v counts_6, Sl.v ρ59]) ω60 fun (ρ61 : Sl) ω62 =>
  J13 pr n_1 ρ57 ρ61 ξ12 (out_5.n : Int) t25 t26 t27 ω62 k Q) ∧
  (pr.sem1 .sl PP (Instr.buildSlice T_SSint 1 #[(0, Sl.v ξ54)]) ω56 fun (ρ63 : Sl) ω64 =>
  pr.sem1 .sl PP (Builtin.append_ #[T_SSSint, T_SSSint] T_SSSint #[Sl.v out_5, Sl.v ρ55]) ω64 fun (ρ65 : Sl) ω66 =>
  pr.sem1 .sl PP (Builtin.append_ #[T_SSint, T_SSint] T_SSint #[Sl.v counts_6, Sl.v ρ63]) ω66 fun (ρ67 : Sl) ω68 =>
  J13 pr n_1 ρ65 ρ67 ξ12 (out_5.n : Int) t25 t26 t27 ω68 k Q)) ∧
  (pr.sem1 .sl PP (Instr.buildSlice T_SSint 1 #[(0, Sl.v ξ54)]) ω23 fun (ρ69 : Sl) ω70 =>
  pr.sem1 .sl PP (Instr.buildSlice T_SSSint 1 #[(0, Sl.v Sl.nil)]) ω70 fun (ρ71 : Sl) ω72 =>
  pr.sem1 .sl PP (Builtin.append_ #[T_SSSint, T_SSSint] T_SSSint #[Sl.v out_5, Sl.v ρ71]) ω72 fun (ρ73 : Sl) ω74 =>
  pr.sem1 .sl PP (Builtin.append_ #[T_SSint, T_SSint] T_SSint #[Sl.v counts_6, Sl.v ρ69]) ω74 fun (ρ75 : Sl) ω76 =>
  J13 pr n_1 ρ73 ρ75 ξ12 (out_5.n : Int) t25 t26 t27 ω76 k Q)))
  else (
  J13 pr n_1 out_5 counts_6 ξ12 ρ20 t25 t26 t27 ω21 k Q))
  else (
  Q (.exit 0) (x0 out_5) w)) := by kernel_rfl
theorem B6_s (n_1 : Int) (out_5 : Sl) (counts_6 : Sl) (t25 : Sl) (t26 : Int) (t27 : Int) (w : World) (k : Env → World → Prop) (Q : Exit → Env → World → Prop) : B6 std n_1 out_5 counts_6 t25 t26 t27 w k Q = (
  bif decide (t27 < t26) then (
  idxK 1 t25 t27 fun (a11 : Addr) =>
  load1 .sl a11 w fun (ξ12 : Sl) =>
  sem1 .sl PP (Instr.buildSlice T_SSint 1 #[(0, Sl.v ξ12)]) w fun (ρ13 : Sl) ω14 =>
  call1 .sl PP F.impl_ClassCounts #[Sl.v ρ13, vI n_1] ω14 fun (ρ15 : Sl) ω16 =>
  newK T_Sint #[Sl.v Sl.nil] ω16 fun (a17 : Addr) ω18 =>
  storeC a17 (Sl.v ρ15) ω18 fun ω19 =>
  call1 (.int .i64) PP F.slices_IndexFunc_____int___int_ #[Sl.v counts_6, (.func (.func F.impl_WilfGroupsL1) #[] #[.pointer (some a17)])] ω19 fun (ρ20 : Int) ω21 =>
  bif decide (ρ20 < 0) then (
  drewAll ω21 fun ω23 =>
  (sem1 .sl PP (Instr.buildSlice T_SSSint 1 #[(0, Sl.v Sl.nil)]) ω23 fun (ρ24 : Sl) ω25 =>
  (sem1 .sl PP (Builtin.append_ #[T_SSSint, T_SSSint] T_SSSint #[Sl.v out_5, Sl.v ρ24]) ω25 fun (ρ26 : Sl) ω27 =>
  load1 .sl a17 ω27 fun (ξ28 : Sl) =>
  sem1 .sl PP (Instr.buildSlice T_SSint 1 #[(0, Sl.v ξ28)]) ω27 fun (ρ29 : Sl) ω30 =>
  sem1 .sl PP (Builtin.append_ #[T_SSint, T_SSint] T_SSint #[Sl.v counts_6, Sl.v ρ29]) ω30 fun (ρ31 : Sl) ω32 =>
  J13 std n_1 ρ26 ρ31 ξ12 (out_5.n : Int) t25 t26 t27 ω32 k Q) ∧
  (load1 .sl a17 ω25 fun (ξ41 : Sl) =>
  (sem1 .sl PP (Builtin.append_ #[T_SSSint, T_SSSint] T_SSSint #[Sl.v out_5, Sl.v ρ24]) ω25 fun (ρ42 : Sl) ω43 =>
  sem1 .sl PP (Instr.buildSlice T_SSint 1 #[(0, Sl.v ξ41)]) ω43 fun (ρ44 : Sl) ω45 =>
  sem1 .sl PP (Builtin.append_ #[T_SSint, T_SSint] T_SSint #[Sl.v counts_6, Sl.v ρ44]) ω45 fun (ρ46 : Sl) ω47 =>
  J13 std n_1 ρ42 ρ46 ξ12 (out_5.n : Int) t25 t26 t27 ω47 k Q) ∧
  (sem1 .sl PP (Instr.buildSlice T_SSint 1 #[(0, Sl.v ξ41)]) ω25 fun (ρ48 : Sl) ω49 =>
  sem1 .sl PP (Builtin.append_ #[T_SSSint, T_SSSint] T_SSSint #[Sl.v out_5, Sl.v ρ24]) ω49 fun (ρ50 : Sl) ω51 =>
  sem1 .sl PP (Builtin.append_ #[T_SSint, T_SSint] T_SSint #[Sl.v counts_6, Sl.v ρ48]) ω51 fun (ρ52 : Sl) ω53 =>
  J13 std n_1 ρ50 ρ52 ξ12 (out_5.n : Int) t25 t26 t27 ω53 k Q))) ∧
  (load1 .sl a17 ω23 fun (ξ54 : Sl) =>
  (sem1 .sl PP (Instr.buildSlice T_SSSint 1 #[(0, Sl.v Sl.nil)]) ω23 fun (ρ55 : Sl) ω56 =>
  (sem1 .sl PP (Builtin.append_ #[T_SSSint, T_SSSint] T_SSSint #[Sl.v out_5, Sl.v ρ55]) ω56 fun (ρ57 : Sl) ω58 =>
  sem1 .sl PP (Instr.buildSlice T_SSint 1 #[(0, Sl.v ξ54)]) ω58 fun (ρ59 : Sl) ω60 =>
  sem1 .sl PP (Builtin.append_ #[T_SSint, T_SSint] T_SSint #[Sl.v counts_6, Sl.v ρ59]) ω60 fun (ρ61 : Sl) ω62 =>
  J13 std n_1 ρ57 ρ61 ξ12 (out_5.n : Int) t25 t26 t27 ω62 k Q) ∧
  (sem1 .sl PP (Instr.buildSlice T_SSint 1 #[(0, Sl.v ξ54)]) ω56 fun (ρ63 : Sl) ω64 =>
  sem1 .sl PP (Builtin.append_ #[T_SSSint, T_SSSint] T_SSSint #[Sl.v out_5, Sl.v ρ55]) ω64 fun (ρ65 : Sl) ω66 =>
  sem1 .sl PP (Builtin.append_ #[T_SSint, T_SSint] T_SSint #[Sl.v counts_6, Sl.v ρ63]) ω66 fun (ρ67 : Sl) ω68 =>
  J13 std n_1 ρ65 ρ67 ξ12 (out_5.n : Int) t25 t26 t27 ω68 k Q)) ∧
  (sem1 .sl PP (Instr.buildSlice T_SSint 1 #[(0, Sl.v ξ54)]) ω23 fun (ρ69 : Sl) ω70 =>
  sem1 .sl PP (Instr.buildSlice T_SSSint 1 #[(0, Sl.v Sl.nil)]) ω70 fun (ρ71 : Sl) ω72 =>
  sem1 .sl PP (Builtin.append_ #[T_SSSint, T_SSSint] T_SSSint #[Sl.v out_5, Sl.v ρ71]) ω72 fun (ρ73 : Sl) ω74 =>
  sem1 .sl PP (Builtin.append_ #[T_SSint, T_SSint] T_SSint #[Sl.v counts_6, Sl.v ρ69]) ω74 fun (ρ75 : Sl) ω76 =>
  J13 std n_1 ρ73 ρ75 ξ12 (out_5.n : Int) t25 t26 t27 ω76 k Q)))
  else (
  J13 std n_1 out_5 counts_6 ξ12 ρ20 t25 t26 t27 ω21 k Q))
  else (
  Q (.exit 0) (x0 out_5) w)) := B6_eq std n_1 out_5 counts_6 t25 t26 t27 w k Q
theorem L6_rule (n_1 : Int) (out_5 : Sl) (counts_6 : Sl) (t25 : Sl) (t26 : Int) (t27 : Int) (w : World) (Q : Exit → Env → World → Prop) (I : Sl → Sl → Int → World → Prop) (μ : Sl → Sl → Int → World → Nat) (h0 : I out_5 counts_6 t27 w)
    (h : ∀ (out_5 : Sl) (counts_6 : Sl) (t27 : Int) (w' : World), I out_5 counts_6 t27 w' → B6 std n_1 out_5 counts_6 t25 t26 t27 w' (fun e2 w2 => ∃ out_5_n counts_6_n t27_n, e2 = emb6 n_1 out_5_n counts_6_n t25 t26 t27_n ∧ I out_5_n counts_6_n t27_n w2 ∧ μ out_5_n counts_6_n t27_n w2 < μ out_5 counts_6 t27 w') Q) :
    L6 std n_1 out_5 counts_6 t25 t26 t27 w Q := by
  unfold L6
  refine LoopE.intro (σ := Sl × Sl × Int) (step := S6 std Q) (fun s => emb6 n_1 s.1 s.2.1 t25 t26 s.2.2) (fun s w => I s.1 s.2.1 s.2.2 w) (fun s w => μ s.1 s.2.1 s.2.2 w) (out_5, counts_6, t27) rfl h0 ?_
  intro s w' hI
  have h1 := h s.1 s.2.1 s.2.2 w' hI
  unfold B6 at h1
  simp only [Prod.exists]
  exact h1
theorem A6_0_eq (pr : Prims) (out_5 : Sl) (w : World) (R : Ending → World → Prop) : (q8 pr R) (.exit 0) (x0 out_5) w = (
  R (.returned (Sl.v out_5)) w) := by kernel_rfl
theorem A6_0_s (out_5 : Sl) (w : World) (R : Ending → World → Prop) : (q8 std R) (.exit 0) (x0 out_5) w = (
  R (.returned (Sl.v out_5)) w) := A6_0_eq std out_5 w R
theorem E_eq (pr : Prims) (k_0 : Int) (n_1 : Int) (w : World) (R : Ending → World → Prop) : E pr k_0 n_1 w R = (
  bif decide (k_0 < 1) then (
  R (.returned (Sl.v Sl.nil)) w)
  else (
  bif decide (k_0 > 4) then (
  R (.returned (Sl.v Sl.nil)) w)
  else (
  pr.pcall1 .bool PP F.impl_isSix #[vI n_1] fun (ρ0 : Bool) =>
  bif !ρ0 then (
  R (.returned (Sl.v Sl.nil)) w)
  else (
  pr.sem1 .sl PP (Instr.buildSlice T_SSSint 0 #[]) w fun (ρ1 : Sl) ω2 =>
  pr.sem1 .sl PP (Instr.buildSlice T_SSint 0 #[]) ω2 fun (ρ3 : Sl) ω4 =>
  pr.call1 .sl PP F.impl_perms #[vI k_0] ω4 fun (ρ6 : Sl) ω7 =>
  L6 pr n_1 ρ1 ρ3 ρ6 (ρ6.n : Int) 0 ω7 (q8 pr R))))) := by kernel_rfl
theorem E_s (k_0 : Int) (n_1 : Int) (w : World) (R : Ending → World → Prop) : E std k_0 n_1 w R = (
  bif decide (k_0 < 1) then (
  R (.returned (Sl.v Sl.nil)) w)
  else (
  bif decide (k_0 > 4) then (
  R (.returned (Sl.v Sl.nil)) w)
  else (
  pcall1 .bool PP F.impl_isSix #[vI n_1] fun (ρ0 : Bool) =>
  bif !ρ0 then (
  R (.returned (Sl.v Sl.nil)) w)
  else (
  sem1 .sl PP (Instr.buildSlice T_SSSint 0 #[]) w fun (ρ1 : Sl) ω2 =>
  sem1 .sl PP (Instr.buildSlice T_SSint 0 #[]) ω2 fun (ρ3 : Sl) ω4 =>
  call1 .sl PP F.impl_perms #[vI k_0] ω4 fun (ρ6 : Sl) ω7 =>
  L6 std n_1 ρ1 ρ3 ρ6 (ρ6.n : Int) 0 ω7 (q8 std R))))) := E_eq std k_0 n_1 w R
theorem drawsOk : drawsOk PP cfg okD (codeOf Try.f14) = true := by kernel_rfl
theorem calls (k_0 : Int) (n_1 : Int) {w : World} {R : Ending → World → Prop} (h : E std k_0 n_1 w R) : Calls PP F.impl_WilfGroups #[vI k_0, vI n_1] w R :=
  calls_of noCount mixed drawOk Try.func14 rfl (c := cfg) (args := [vI k_0, vI n_1]) rfl (Nat.le_of_ble_eq_true (by kernel_rfl)) drawsOk h
end impl_WilfGroups

namespace impl_WilfGroupsL1
@[reducible] def cfg : Cfg := ⟨7, [], [], [], [3], [], [62, 10, 22, 58, 24, 44, 18, 70, 43, 85, 25, 71, 59, 37, 63], [82, 113, 102, 38, 103, 26, 60]⟩
def E (pr : Prims) (d_0 : Sl) (t1 : Addr) (w : World) (R : Ending → World → Prop) : Prop :=
  wpC pr PP cfg (DD pr) (codeOf Try.f42) (retQ Try.f42.results.toList R) (argE 0 [Sl.v d_0, .pointer (some t1)]) w
theorem E_eq (pr : Prims) (d_0 : Sl) (t1 : Addr) (w : World) (R : Ending → World → Prop) : E pr d_0 t1 w R = (
  pr.load1 .sl t1 w fun (ξ0 : Sl) =>
  pr.call1 .bool PP F.slices_Equal___int_int_ #[Sl.v ξ0, Sl.v d_0] w fun (ρ1 : Bool) ω2 =>
  R (.returned (.bool ρ1)) ω2) := by kernel_rfl
theorem E_s (d_0 : Sl) (t1 : Addr) (w : World) (R : Ending → World → Prop) : E std d_0 t1 w R = (
  load1 .sl t1 w fun (ξ0 : Sl) =>
  call1 .bool PP F.slices_Equal___int_int_ #[Sl.v ξ0, Sl.v d_0] w fun (ρ1 : Bool) ω2 =>
  R (.returned (.bool ρ1)) ω2) := E_eq std d_0 t1 w R
theorem drawsOk : drawsOk PP cfg okD (codeOf Try.f42) = true := by kernel_rfl
theorem calls (d_0 : Sl) (t1 : Addr) {w : World} {R : Ending → World → Prop} (h : E std d_0 t1 w R) : Calls PP F.impl_WilfGroupsL1 #[Sl.v d_0, .pointer (some t1)] w R :=
  calls_of noCount mixed drawOk Try.func42 rfl (c := cfg) (args := [Sl.v d_0, .pointer (some t1)]) rfl (Nat.le_of_ble_eq_true (by kernel_rfl)) drawsOk h
end impl_WilfGroupsL1

namespace laws_FnExactWilfGroups
@[reducible] def cfg : Cfg := ⟨46, [], [], [], [4], [], [62, 10, 22, 58, 24, 44, 18, 70, 43, 85, 25, 71, 59, 37, 63], [82, 113, 102, 38, 103, 26, 60]⟩
def E (pr : Prims) (aK_0 : Int) (aN_1 : Int) (w : World) (R : Ending → World → Prop) : Prop :=
  wpC pr PP cfg (DD pr) (codeOf Try.f5) (retQ Try.f5.results.toList R) (argE 0 [vI aK_0, vI aN_1]) w
theorem E_eq (pr : Prims) (aK_0 : Int) (aN_1 : Int) (w : World) (R : Ending → World → Prop) : E pr aK_0 aN_1 w R = (
  pr.call1 .sl PP F.spec_WilfGroups #[vI aK_0, vI aN_1] w fun (ρ0 : Sl) ω1 =>
  pr.call1 .sl PP F.impl_WilfGroups #[vI aK_0, vI aN_1] ω1 fun (ρ2 : Sl) ω3 =>
  pr.call1 .bool PP F.laws_eqIntSSS #[Sl.v ρ2, Sl.v ρ0] ω3 fun (ρ4 : Bool) ω5 =>
  bif !ρ4 then (
  R (.returned (.bool false)) ω5)
  else (
  pr.call1 (.int .i64) PP F.laws_markIntSSS #[Sl.v ρ2, vI 1] ω5 fun (ρ6 : Int) ω7 =>
  pr.call1 (.int .i64) PP F.laws_heldIntSSS #[Sl.v ρ2, vI 1] ω7 fun (ρ8 : Int) ω9 =>
  bif decide (ρ8 < 0) then (
  R (.returned (.bool false)) ω9)
  else (
  bif ρ8 != ρ6 then (
  R (.returned (.bool false)) ω9)
  else (
  pr.call1 .sl PP F.impl_WilfGroups #[vI aK_0, vI aN_1] ω9 fun (ρ10 : Sl) ω11 =>
  pr.call1 .bool PP F.laws_eqIntSSS #[Sl.v ρ10, Sl.v ρ0] ω11 fun (ρ12 : Bool) ω13 =>
  bif !ρ12 then (
  R (.returned (.bool false)) ω13)
  else (
  pr.call1 (.int .i64) PP F.laws_heldIntSSS #[Sl.v ρ2, vI 1] ω13 fun (ρ14 : Int) ω15 =>
  bif decide (ρ14 < 0) then (
  R (.returned (.bool false)) ω15)
  else (
  bif ρ14 != ρ6 then (
  R (.returned (.bool false)) ω15)
  else (
  R (.returned (.bool true)) ω15))))))) := by kernel_rfl
theorem E_s (aK_0 : Int) (aN_1 : Int) (w : World) (R : Ending → World → Prop) : E std aK_0 aN_1 w R = (
  call1 .sl PP F.spec_WilfGroups #[vI aK_0, vI aN_1] w fun (ρ0 : Sl) ω1 =>
  call1 .sl PP F.impl_WilfGroups #[vI aK_0, vI aN_1] ω1 fun (ρ2 : Sl) ω3 =>
  call1 .bool PP F.laws_eqIntSSS #[Sl.v ρ2, Sl.v ρ0] ω3 fun (ρ4 : Bool) ω5 =>
  bif !ρ4 then (
  R (.returned (.bool false)) ω5)
  else (
  call1 (.int .i64) PP F.laws_markIntSSS #[Sl.v ρ2, vI 1] ω5 fun (ρ6 : Int) ω7 =>
  call1 (.int .i64) PP F.laws_heldIntSSS #[Sl.v ρ2, vI 1] ω7 fun (ρ8 : Int) ω9 =>
  bif decide (ρ8 < 0) then (
  R (.returned (.bool false)) ω9)
  else (
  bif ρ8 != ρ6 then (
  R (.returned (.bool false)) ω9)
  else (
  call1 .sl PP F.impl_WilfGroups #[vI aK_0, vI aN_1] ω9 fun (ρ10 : Sl) ω11 =>
  call1 .bool PP F.laws_eqIntSSS #[Sl.v ρ10, Sl.v ρ0] ω11 fun (ρ12 : Bool) ω13 =>
  bif !ρ12 then (
  R (.returned (.bool false)) ω13)
  else (
  call1 (.int .i64) PP F.laws_heldIntSSS #[Sl.v ρ2, vI 1] ω13 fun (ρ14 : Int) ω15 =>
  bif decide (ρ14 < 0) then (
  R (.returned (.bool false)) ω15)
  else (
  bif ρ14 != ρ6 then (
  R (.returned (.bool false)) ω15)
  else (
  R (.returned (.bool true)) ω15))))))) := E_eq std aK_0 aN_1 w R
theorem drawsOk : drawsOk PP cfg okD (codeOf Try.f5) = true := by kernel_rfl
theorem calls (aK_0 : Int) (aN_1 : Int) {w : World} {R : Ending → World → Prop} (h : E std aK_0 aN_1 w R) : Calls PP F.laws_FnExactWilfGroups #[vI aK_0, vI aN_1] w R :=
  calls_of noCount mixed drawOk Try.func5 rfl (c := cfg) (args := [vI aK_0, vI aN_1]) rfl (Nat.le_of_ble_eq_true (by kernel_rfl)) drawsOk h
end laws_FnExactWilfGroups

end Go.Proofs.Ytmhgjfahgemblaa
