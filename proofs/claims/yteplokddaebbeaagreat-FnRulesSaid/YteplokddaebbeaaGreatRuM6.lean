/- The texts CodeCc, ClCo, RuPlain, CodeRu, Foot, RuS, MapI, MapR, SortF, CodeEq, Eq in one (gmerge.py). -/
import Derived.Laws.Tables
import Derived.Maps.RangeRun
import Derived.Sort.OwnSorted
import Derived.Shelf.SlSortCmp.NoneTotal
import Derived.Test.YteplokddaebbeaaGreatRuM5
/- What each function does, step by step, written by a program (Gen.lean); each equation is checked by the kernel. -/
namespace Go.Proofs.YteplokddaebbeaaGreat
open Go
set_option linter.unusedVariables false
set_option maxRecDepth 100000
namespace spec_ClassCounts
@[reducible] def cfg : Cfg := ⟨36, [(6, [5, 6, 7])], [(1, [5, 6, 7]), (0, [5])], [], [4], [], [13, 12, 21, 89, 36, 108, 74, 75, 104, 78, 125], [73, 117, 103, 46, 4, 30, 40]⟩
def q7 (pr : Prims) (R : Ending → World → Prop) : Exit → Env → World → Prop := fun ex e w => normQ ex (fun e w => contE pr cfg (sub (codeOf Tryz.f23) [1, 1, 1, 1, 1]) (fun e w => wpC pr PP cfg (DD pr) (sub (codeOf Tryz.f23) [1, 1, 1, 1, 1]) (retQ Tryz.f23.results.toList R) e w) e w) (retQ Tryz.f23.results.toList R) e w
def q8 (pr : Prims) (R : Ending → World → Prop) : Exit → Env → World → Prop := fun ex e w => blockQ ex 0 (q7 pr R) e w
def emb6 (out_5 : Sl) (all_6 : Sl) (k_7 : Int) : Env := [(5, Sl.v out_5), (6, Sl.v all_6), (7, vI k_7)]
def x0 (out_5 : Sl) : Env := [(5, Sl.v out_5)]
def S6 (pr : Prims) (Q : Exit → Env → World → Prop) : (Env → World → Prop) → Env → World → Prop := fun k e w => wpC pr PP cfg (DD pr) (sub (codeOf Tryz.f23) [1, 1, 1, 1, 0, 1, 0, 0]) (fun ex e w => normQ ex (fun e' w' => k (Env.restr e' (lookN cfg.loops (keyOf (sub (codeOf Tryz.f23) [1, 1, 1, 1, 0, 1, 0, 0])))) w') Q e w) e w
def B6 (pr : Prims) (out_5 : Sl) (all_6 : Sl) (k_7 : Int) (w : World) (k : Env → World → Prop) (Q : Exit → Env → World → Prop) : Prop :=
  S6 pr Q k (emb6 out_5 all_6 k_7) w
def L6 (pr : Prims) (out_5 : Sl) (all_6 : Sl) (k_7 : Int) (w : World) (Q : Exit → Env → World → Prop) : Prop :=
  pr.loop (S6 pr Q) (emb6 out_5 all_6 k_7) w
def E (pr : Prims) (list_0 : Sl) (n_1 : Int) (w : World) (R : Ending → World → Prop) : Prop :=
  wpC pr PP cfg (DD pr) (codeOf Tryz.f23) (retQ Tryz.f23.results.toList R) (argE 0 [Sl.v list_0, vI n_1]) w
theorem B6_eq (pr : Prims) (out_5 : Sl) (all_6 : Sl) (k_7 : Int) (w : World) (k : Env → World → Prop) (Q : Exit → Env → World → Prop) : B6 pr out_5 all_6 k_7 w k Q = (
  bif decide (k_7 < (all_6.n : Int)) then (
  pr.idxK 1 all_6 k_7 fun (a9 : Addr) =>
  pr.load1 .sl a9 w fun (ξ10 : Sl) =>
  pr.sem1 .sl PP (Instr.buildSlice T_Sint 1 #[(0, vI (ξ10.n : Int))]) w fun (ρ11 : Sl) ω12 =>
  pr.sem1 .sl PP (Builtin.append_ #[T_Sint, T_Sint] T_Sint #[Sl.v out_5, Sl.v ρ11]) ω12 fun (ρ13 : Sl) ω14 =>
  k (emb6 ρ13 all_6 (w64 (k_7 + 1))) ω14)
  else (
  Q (.exit 0) (x0 out_5) w)) := by kernel_rfl
theorem B6_s (out_5 : Sl) (all_6 : Sl) (k_7 : Int) (w : World) (k : Env → World → Prop) (Q : Exit → Env → World → Prop) : B6 std out_5 all_6 k_7 w k Q = (
  bif decide (k_7 < (all_6.n : Int)) then (
  idxK 1 all_6 k_7 fun (a9 : Addr) =>
  load1 .sl a9 w fun (ξ10 : Sl) =>
  sem1 .sl PP (Instr.buildSlice T_Sint 1 #[(0, vI (ξ10.n : Int))]) w fun (ρ11 : Sl) ω12 =>
  sem1 .sl PP (Builtin.append_ #[T_Sint, T_Sint] T_Sint #[Sl.v out_5, Sl.v ρ11]) ω12 fun (ρ13 : Sl) ω14 =>
  k (emb6 ρ13 all_6 (w64 (k_7 + 1))) ω14)
  else (
  Q (.exit 0) (x0 out_5) w)) := B6_eq std out_5 all_6 k_7 w k Q
theorem L6_rule (out_5 : Sl) (all_6 : Sl) (k_7 : Int) (w : World) (Q : Exit → Env → World → Prop) (I : Sl → Int → World → Prop) (μ : Sl → Int → World → Nat) (h0 : I out_5 k_7 w)
    (h : ∀ (out_5 : Sl) (k_7 : Int) (w' : World), I out_5 k_7 w' → B6 std out_5 all_6 k_7 w' (fun e2 w2 => ∃ out_5_n k_7_n, e2 = emb6 out_5_n all_6 k_7_n ∧ I out_5_n k_7_n w2 ∧ μ out_5_n k_7_n w2 < μ out_5 k_7 w') Q) :
    L6 std out_5 all_6 k_7 w Q := by
  unfold L6
  refine LoopE.intro (σ := Sl × Int) (step := S6 std Q) (fun s => emb6 s.1 all_6 s.2) (fun s w => I s.1 s.2 w) (fun s w => μ s.1 s.2 w) (out_5, k_7) rfl h0 ?_
  intro s w' hI
  have h1 := h s.1 s.2 w' hI
  unfold B6 at h1
  simp only [Prod.exists]
  exact h1
theorem A6_0_eq (pr : Prims) (out_5 : Sl) (w : World) (R : Ending → World → Prop) : (q8 pr R) (.exit 0) (x0 out_5) w = (
  R (.returned (Sl.v out_5)) w) := by kernel_rfl
theorem A6_0_s (out_5 : Sl) (w : World) (R : Ending → World → Prop) : (q8 std R) (.exit 0) (x0 out_5) w = (
  R (.returned (Sl.v out_5)) w) := A6_0_eq std out_5 w R
theorem E_eq (pr : Prims) (list_0 : Sl) (n_1 : Int) (w : World) (R : Ending → World → Prop) : E pr list_0 n_1 w R = (
  pr.sem1 .sl PP (Instr.buildSlice T_Sint 0 #[]) w fun (ρ0 : Sl) ω1 =>
  pr.call1 .bool PP F.spec_IsBasis #[Sl.v list_0] ω1 fun (ρ2 : Bool) ω3 =>
  bif !ρ2 then (
  R (.returned (Sl.v ρ0)) ω3)
  else (
  pr.pcall1 .bool PP F.spec_l1In #[vI n_1, vI 0, vI 6] fun (ρ4 : Bool) =>
  bif !ρ4 then (
  R (.returned (Sl.v ρ0)) ω3)
  else (
  pr.call1 .sl PP F.spec_l12Class #[Sl.v list_0, vI n_1] ω3 fun (ρ5 : Sl) ω6 =>
  L6 pr ρ0 ρ5 0 ω6 (q8 pr R)))) := by kernel_rfl
theorem E_s (list_0 : Sl) (n_1 : Int) (w : World) (R : Ending → World → Prop) : E std list_0 n_1 w R = (
  sem1 .sl PP (Instr.buildSlice T_Sint 0 #[]) w fun (ρ0 : Sl) ω1 =>
  call1 .bool PP F.spec_IsBasis #[Sl.v list_0] ω1 fun (ρ2 : Bool) ω3 =>
  bif !ρ2 then (
  R (.returned (Sl.v ρ0)) ω3)
  else (
  pcall1 .bool PP F.spec_l1In #[vI n_1, vI 0, vI 6] fun (ρ4 : Bool) =>
  bif !ρ4 then (
  R (.returned (Sl.v ρ0)) ω3)
  else (
  call1 .sl PP F.spec_l12Class #[Sl.v list_0, vI n_1] ω3 fun (ρ5 : Sl) ω6 =>
  L6 std ρ0 ρ5 0 ω6 (q8 std R)))) := E_eq std list_0 n_1 w R
theorem drawsOk : drawsOk PP cfg okD (codeOf Tryz.f23) = true := by kernel_rfl
theorem calls (list_0 : Sl) (n_1 : Int) {w : World} {R : Ending → World → Prop} (h : E std list_0 n_1 w R) : Calls PP F.spec_ClassCounts #[Sl.v list_0, vI n_1] w R :=
  calls_of noCount mixed drawOk Tryz.func23 rfl (c := cfg) (args := [Sl.v list_0, vI n_1]) rfl (Nat.le_of_ble_eq_true (by kernel_rfl)) drawsOk h
end spec_ClassCounts

namespace spec_l12Class
@[reducible] def cfg : Cfg := ⟨26, [(4, [0, 1, 5, 6, 7])], [(1, [0, 1, 5, 6, 7]), (0, [6])], [], [4], [], [13, 12, 21, 89, 36, 108, 74, 75, 104, 78, 125], [73, 117, 103, 46, 4, 30, 40]⟩
def q6 (pr : Prims) (R : Ending → World → Prop) : Exit → Env → World → Prop := fun ex e w => normQ ex (fun e w => contE pr cfg (sub (codeOf Tryz.f58) [1, 1, 1, 1]) (fun e w => wpC pr PP cfg (DD pr) (sub (codeOf Tryz.f58) [1, 1, 1, 1]) (retQ Tryz.f58.results.toList R) e w) e w) (retQ Tryz.f58.results.toList R) e w
def q7 (pr : Prims) (R : Ending → World → Prop) : Exit → Env → World → Prop := fun ex e w => blockQ ex 0 (q6 pr R) e w
def emb4 (list_0 : Sl) (n_1 : Int) (last_5 : Sl) (out_6 : Sl) (k_7 : Int) : Env := [(0, Sl.v list_0), (1, vI n_1), (5, Sl.v last_5), (6, Sl.v out_6), (7, vI k_7)]
def x0 (out_6 : Sl) : Env := [(6, Sl.v out_6)]
def S4 (pr : Prims) (Q : Exit → Env → World → Prop) : (Env → World → Prop) → Env → World → Prop := fun k e w => wpC pr PP cfg (DD pr) (sub (codeOf Tryz.f58) [1, 1, 1, 0, 1, 0, 0]) (fun ex e w => normQ ex (fun e' w' => k (Env.restr e' (lookN cfg.loops (keyOf (sub (codeOf Tryz.f58) [1, 1, 1, 0, 1, 0, 0])))) w') Q e w) e w
def B4 (pr : Prims) (list_0 : Sl) (n_1 : Int) (last_5 : Sl) (out_6 : Sl) (k_7 : Int) (w : World) (k : Env → World → Prop) (Q : Exit → Env → World → Prop) : Prop :=
  S4 pr Q k (emb4 list_0 n_1 last_5 out_6 k_7) w
def L4 (pr : Prims) (list_0 : Sl) (n_1 : Int) (last_5 : Sl) (out_6 : Sl) (k_7 : Int) (w : World) (Q : Exit → Env → World → Prop) : Prop :=
  pr.loop (S4 pr Q) (emb4 list_0 n_1 last_5 out_6 k_7) w
def E (pr : Prims) (list_0 : Sl) (n_1 : Int) (w : World) (R : Ending → World → Prop) : Prop :=
  wpC pr PP cfg (DD pr) (codeOf Tryz.f58) (retQ Tryz.f58.results.toList R) (argE 0 [Sl.v list_0, vI n_1]) w
theorem B4_eq (pr : Prims) (list_0 : Sl) (n_1 : Int) (last_5 : Sl) (out_6 : Sl) (k_7 : Int) (w : World) (k : Env → World → Prop) (Q : Exit → Env → World → Prop) : B4 pr list_0 n_1 last_5 out_6 k_7 w k Q = (
  bif decide (k_7 ≤ n_1) then (
  pr.call1 .sl PP F.spec_l12Next #[Sl.v list_0, Sl.v last_5, vI k_7] w fun (ρ8 : Sl) ω9 =>
  pr.sem1 .sl PP (Instr.buildSlice T_SSSint 1 #[(0, Sl.v ρ8)]) ω9 fun (ρ10 : Sl) ω11 =>
  pr.sem1 .sl PP (Builtin.append_ #[T_SSSint, T_SSSint] T_SSSint #[Sl.v out_6, Sl.v ρ10]) ω11 fun (ρ12 : Sl) ω13 =>
  k (emb4 list_0 n_1 ρ8 ρ12 (w64 (k_7 + 1))) ω13)
  else (
  Q (.exit 0) (x0 out_6) w)) := by kernel_rfl
theorem B4_s (list_0 : Sl) (n_1 : Int) (last_5 : Sl) (out_6 : Sl) (k_7 : Int) (w : World) (k : Env → World → Prop) (Q : Exit → Env → World → Prop) : B4 std list_0 n_1 last_5 out_6 k_7 w k Q = (
  bif decide (k_7 ≤ n_1) then (
  call1 .sl PP F.spec_l12Next #[Sl.v list_0, Sl.v last_5, vI k_7] w fun (ρ8 : Sl) ω9 =>
  sem1 .sl PP (Instr.buildSlice T_SSSint 1 #[(0, Sl.v ρ8)]) ω9 fun (ρ10 : Sl) ω11 =>
  sem1 .sl PP (Builtin.append_ #[T_SSSint, T_SSSint] T_SSSint #[Sl.v out_6, Sl.v ρ10]) ω11 fun (ρ12 : Sl) ω13 =>
  k (emb4 list_0 n_1 ρ8 ρ12 (w64 (k_7 + 1))) ω13)
  else (
  Q (.exit 0) (x0 out_6) w)) := B4_eq std list_0 n_1 last_5 out_6 k_7 w k Q
theorem L4_rule (list_0 : Sl) (n_1 : Int) (last_5 : Sl) (out_6 : Sl) (k_7 : Int) (w : World) (Q : Exit → Env → World → Prop) (I : Sl → Sl → Int → World → Prop) (μ : Sl → Sl → Int → World → Nat) (h0 : I last_5 out_6 k_7 w)
    (h : ∀ (last_5 : Sl) (out_6 : Sl) (k_7 : Int) (w' : World), I last_5 out_6 k_7 w' → B4 std list_0 n_1 last_5 out_6 k_7 w' (fun e2 w2 => ∃ last_5_n out_6_n k_7_n, e2 = emb4 list_0 n_1 last_5_n out_6_n k_7_n ∧ I last_5_n out_6_n k_7_n w2 ∧ μ last_5_n out_6_n k_7_n w2 < μ last_5 out_6 k_7 w') Q) :
    L4 std list_0 n_1 last_5 out_6 k_7 w Q := by
  unfold L4
  refine LoopE.intro (σ := Sl × Sl × Int) (step := S4 std Q) (fun s => emb4 list_0 n_1 s.1 s.2.1 s.2.2) (fun s w => I s.1 s.2.1 s.2.2 w) (fun s w => μ s.1 s.2.1 s.2.2 w) (last_5, out_6, k_7) rfl h0 ?_
  intro s w' hI
  have h1 := h s.1 s.2.1 s.2.2 w' hI
  unfold B4 at h1
  simp only [Prod.exists]
  exact h1
theorem A4_0_eq (pr : Prims) (out_6 : Sl) (w : World) (R : Ending → World → Prop) : (q7 pr R) (.exit 0) (x0 out_6) w = (
  R (.returned (Sl.v out_6)) w) := by kernel_rfl
theorem A4_0_s (out_6 : Sl) (w : World) (R : Ending → World → Prop) : (q7 std R) (.exit 0) (x0 out_6) w = (
  R (.returned (Sl.v out_6)) w) := A4_0_eq std out_6 w R
theorem E_eq (pr : Prims) (list_0 : Sl) (n_1 : Int) (w : World) (R : Ending → World → Prop) : E pr list_0 n_1 w R = (
  pr.sem1 .sl PP (Instr.buildSlice T_Sint 0 #[]) w fun (ρ0 : Sl) ω1 =>
  pr.sem1 .sl PP (Instr.buildSlice T_SSint 1 #[(0, Sl.v ρ0)]) ω1 fun (ρ2 : Sl) ω3 =>
  pr.sem1 .sl PP (Instr.buildSlice T_SSSint 1 #[(0, Sl.v ρ2)]) ω3 fun (ρ4 : Sl) ω5 =>
  L4 pr list_0 n_1 ρ2 ρ4 1 ω5 (q7 pr R)) := by kernel_rfl
theorem E_s (list_0 : Sl) (n_1 : Int) (w : World) (R : Ending → World → Prop) : E std list_0 n_1 w R = (
  sem1 .sl PP (Instr.buildSlice T_Sint 0 #[]) w fun (ρ0 : Sl) ω1 =>
  sem1 .sl PP (Instr.buildSlice T_SSint 1 #[(0, Sl.v ρ0)]) ω1 fun (ρ2 : Sl) ω3 =>
  sem1 .sl PP (Instr.buildSlice T_SSSint 1 #[(0, Sl.v ρ2)]) ω3 fun (ρ4 : Sl) ω5 =>
  L4 std list_0 n_1 ρ2 ρ4 1 ω5 (q7 std R)) := E_eq std list_0 n_1 w R
theorem drawsOk : drawsOk PP cfg okD (codeOf Tryz.f58) = true := by kernel_rfl
theorem calls (list_0 : Sl) (n_1 : Int) {w : World} {R : Ending → World → Prop} (h : E std list_0 n_1 w R) : Calls PP F.spec_l12Class #[Sl.v list_0, vI n_1] w R :=
  calls_of noCount mixed drawOk Tryz.func58 rfl (c := cfg) (args := [Sl.v list_0, vI n_1]) rfl (Nat.le_of_ble_eq_true (by kernel_rfl)) drawsOk h
end spec_l12Class

namespace spec_l12Next
@[reducible] def cfg : Cfg := ⟨67, [(10, [0, 1, 2, 7, 8, 9, 10, 11]), (6, [0, 1, 2, 7, 8, 9]), (3, [0, 1, 2, 7, 8])], [(5, [0, 1, 2, 7, 8, 9, 10, 11]), (4, [0, 1, 2, 7, 8, 9, 10]), (3, [0, 1, 2, 7, 8, 9]), (2, [0, 1, 2, 7, 8]), (1, [0, 1, 2, 7, 8]), (0, [7])], [], [6], [], [13, 12, 21, 89, 36, 108, 74, 75, 104, 78, 125], [73, 117, 103, 46, 4, 30, 40]⟩
def q2 (pr : Prims) (R : Ending → World → Prop) : Exit → Env → World → Prop := fun ex e w => normQ ex (fun e w => contE pr cfg (sub (codeOf Tryz.f82) [1, 1, 1]) (fun e w => wpC pr PP cfg (DD pr) (sub (codeOf Tryz.f82) [1, 1, 1]) (retQ Tryz.f82.results.toList R) e w) e w) (retQ Tryz.f82.results.toList R) e w
def q3 (pr : Prims) (R : Ending → World → Prop) : Exit → Env → World → Prop := fun ex e w => blockQ ex 0 (q2 pr R) e w
def q4 (pr : Prims) (k : Env → World → Prop) (Q : Exit → Env → World → Prop) : Exit → Env → World → Prop := fun ex e w => normQ ex (fun e w => contE pr cfg (sub (codeOf Tryz.f82) [1, 1, 0, 1, 0, 0, 1, 1]) (fun e w => wpC pr PP cfg (DD pr) (sub (codeOf Tryz.f82) [1, 1, 0, 1, 0, 0, 1, 1]) (fun ex e w => normQ ex (fun e' w' => k (Env.restr e' (lookN cfg.loops (keyOf (sub (codeOf Tryz.f82) [1, 1, 0, 1, 0, 0])))) w') Q e w) e w) e w) (fun ex e w => normQ ex (fun e' w' => k (Env.restr e' (lookN cfg.loops (keyOf (sub (codeOf Tryz.f82) [1, 1, 0, 1, 0, 0])))) w') Q e w) e w
def q5 (pr : Prims) (k : Env → World → Prop) (Q : Exit → Env → World → Prop) : Exit → Env → World → Prop := fun ex e w => blockQ ex 1 (q4 pr k Q) e w
def q6 (pr : Prims) (k : Env → World → Prop) (Q : Exit → Env → World → Prop) : Exit → Env → World → Prop := fun ex e w => blockQ ex 2 (q5 pr k Q) e w
def q7 (pr : Prims) (k : Env → World → Prop) (Q : Exit → Env → World → Prop) : Exit → Env → World → Prop := fun ex e w => normQ ex (fun e w => contE pr cfg (sub (codeOf Tryz.f82) [1, 1, 0, 1, 0, 0, 1, 0, 0, 1, 0, 0, 1, 1]) (fun e w => wpC pr PP cfg (DD pr) (sub (codeOf Tryz.f82) [1, 1, 0, 1, 0, 0, 1, 0, 0, 1, 0, 0, 1, 1]) (fun ex e w => normQ ex (fun e' w' => k (Env.restr e' (lookN cfg.loops (keyOf (sub (codeOf Tryz.f82) [1, 1, 0, 1, 0, 0, 1, 0, 0, 1, 0, 0])))) w') Q e w) e w) e w) (fun ex e w => normQ ex (fun e' w' => k (Env.restr e' (lookN cfg.loops (keyOf (sub (codeOf Tryz.f82) [1, 1, 0, 1, 0, 0, 1, 0, 0, 1, 0, 0])))) w') Q e w) e w
def q8 (pr : Prims) (k : Env → World → Prop) (Q : Exit → Env → World → Prop) : Exit → Env → World → Prop := fun ex e w => blockQ ex 3 (q7 pr k Q) e w
def q11 (pr : Prims) (k : Env → World → Prop) (Q : Exit → Env → World → Prop) : Exit → Env → World → Prop := fun ex e w => normQ ex (fun e w => contE pr cfg (sub (codeOf Tryz.f82) [1, 1, 0, 1, 0, 0, 1, 0, 0, 1, 0, 0, 1, 0, 0, 1, 1]) (fun e w => wpC pr PP cfg (DD pr) (sub (codeOf Tryz.f82) [1, 1, 0, 1, 0, 0, 1, 0, 0, 1, 0, 0, 1, 0, 0, 1, 1]) (q8 pr k Q) e w) e w) (q8 pr k Q) e w
def q12 (pr : Prims) (k : Env → World → Prop) (Q : Exit → Env → World → Prop) : Exit → Env → World → Prop := fun ex e w => blockQ ex 4 (q11 pr k Q) e w
def emb3 (list_0 : Sl) (last_1 : Sl) (n_2 : Int) (out_7 : Sl) (k_8 : Int) : Env := [(0, Sl.v list_0), (1, Sl.v last_1), (2, vI n_2), (7, Sl.v out_7), (8, vI k_8)]
def emb6 (list_0 : Sl) (last_1 : Sl) (n_2 : Int) (out_7 : Sl) (k_8 : Int) (v_9 : Int) : Env := [(0, Sl.v list_0), (1, Sl.v last_1), (2, vI n_2), (7, Sl.v out_7), (8, vI k_8), (9, vI v_9)]
def emb10 (list_0 : Sl) (last_1 : Sl) (n_2 : Int) (out_7 : Sl) (k_8 : Int) (v_9 : Int) (p_10 : Sl) (i_11 : Int) : Env := [(0, Sl.v list_0), (1, Sl.v last_1), (2, vI n_2), (7, Sl.v out_7), (8, vI k_8), (9, vI v_9), (10, Sl.v p_10), (11, vI i_11)]
def x4 (list_0 : Sl) (last_1 : Sl) (n_2 : Int) (out_7 : Sl) (k_8 : Int) (v_9 : Int) (p_10 : Sl) : Env := [(0, Sl.v list_0), (1, Sl.v last_1), (2, vI n_2), (7, Sl.v out_7), (8, vI k_8), (9, vI v_9), (10, Sl.v p_10)]
def x2 (list_0 : Sl) (last_1 : Sl) (n_2 : Int) (out_7 : Sl) (k_8 : Int) : Env := [(0, Sl.v list_0), (1, Sl.v last_1), (2, vI n_2), (7, Sl.v out_7), (8, vI k_8)]
def x0 (out_7 : Sl) : Env := [(7, Sl.v out_7)]
def S10 (pr : Prims) (Q : Exit → Env → World → Prop) : (Env → World → Prop) → Env → World → Prop := fun k e w => wpC pr PP cfg (DD pr) (sub (codeOf Tryz.f82) [1, 1, 0, 1, 0, 0, 1, 0, 0, 1, 0, 0, 1, 0, 0, 1, 0, 1, 0, 0]) (fun ex e w => normQ ex (fun e' w' => k (Env.restr e' (lookN cfg.loops (keyOf (sub (codeOf Tryz.f82) [1, 1, 0, 1, 0, 0, 1, 0, 0, 1, 0, 0, 1, 0, 0, 1, 0, 1, 0, 0])))) w') Q e w) e w
def S6 (pr : Prims) (Q : Exit → Env → World → Prop) : (Env → World → Prop) → Env → World → Prop := fun k e w => wpC pr PP cfg (DD pr) (sub (codeOf Tryz.f82) [1, 1, 0, 1, 0, 0, 1, 0, 0, 1, 0, 0]) (fun ex e w => normQ ex (fun e' w' => k (Env.restr e' (lookN cfg.loops (keyOf (sub (codeOf Tryz.f82) [1, 1, 0, 1, 0, 0, 1, 0, 0, 1, 0, 0])))) w') Q e w) e w
def S3 (pr : Prims) (Q : Exit → Env → World → Prop) : (Env → World → Prop) → Env → World → Prop := fun k e w => wpC pr PP cfg (DD pr) (sub (codeOf Tryz.f82) [1, 1, 0, 1, 0, 0]) (fun ex e w => normQ ex (fun e' w' => k (Env.restr e' (lookN cfg.loops (keyOf (sub (codeOf Tryz.f82) [1, 1, 0, 1, 0, 0])))) w') Q e w) e w
def B10 (pr : Prims) (list_0 : Sl) (last_1 : Sl) (n_2 : Int) (out_7 : Sl) (k_8 : Int) (v_9 : Int) (p_10 : Sl) (i_11 : Int) (w : World) (k : Env → World → Prop) (Q : Exit → Env → World → Prop) : Prop :=
  S10 pr Q k (emb10 list_0 last_1 n_2 out_7 k_8 v_9 p_10 i_11) w
def L10 (pr : Prims) (list_0 : Sl) (last_1 : Sl) (n_2 : Int) (out_7 : Sl) (k_8 : Int) (v_9 : Int) (p_10 : Sl) (i_11 : Int) (w : World) (Q : Exit → Env → World → Prop) : Prop :=
  pr.loop (S10 pr Q) (emb10 list_0 last_1 n_2 out_7 k_8 v_9 p_10 i_11) w
def B6 (pr : Prims) (list_0 : Sl) (last_1 : Sl) (n_2 : Int) (out_7 : Sl) (k_8 : Int) (v_9 : Int) (w : World) (k : Env → World → Prop) (Q : Exit → Env → World → Prop) : Prop :=
  S6 pr Q k (emb6 list_0 last_1 n_2 out_7 k_8 v_9) w
def L6 (pr : Prims) (list_0 : Sl) (last_1 : Sl) (n_2 : Int) (out_7 : Sl) (k_8 : Int) (v_9 : Int) (w : World) (Q : Exit → Env → World → Prop) : Prop :=
  pr.loop (S6 pr Q) (emb6 list_0 last_1 n_2 out_7 k_8 v_9) w
def B3 (pr : Prims) (list_0 : Sl) (last_1 : Sl) (n_2 : Int) (out_7 : Sl) (k_8 : Int) (w : World) (k : Env → World → Prop) (Q : Exit → Env → World → Prop) : Prop :=
  S3 pr Q k (emb3 list_0 last_1 n_2 out_7 k_8) w
def L3 (pr : Prims) (list_0 : Sl) (last_1 : Sl) (n_2 : Int) (out_7 : Sl) (k_8 : Int) (w : World) (Q : Exit → Env → World → Prop) : Prop :=
  pr.loop (S3 pr Q) (emb3 list_0 last_1 n_2 out_7 k_8) w
def E (pr : Prims) (list_0 : Sl) (last_1 : Sl) (n_2 : Int) (w : World) (R : Ending → World → Prop) : Prop :=
  wpC pr PP cfg (DD pr) (codeOf Tryz.f82) (retQ Tryz.f82.results.toList R) (argE 0 [Sl.v list_0, Sl.v last_1, vI n_2]) w
theorem B10_eq (pr : Prims) (list_0 : Sl) (last_1 : Sl) (n_2 : Int) (out_7 : Sl) (k_8 : Int) (v_9 : Int) (p_10 : Sl) (i_11 : Int) (w : World) (k : Env → World → Prop) (Q : Exit → Env → World → Prop) : B10 pr list_0 last_1 n_2 out_7 k_8 v_9 p_10 i_11 w k Q = (
  pr.idxK 1 last_1 k_8 fun (a13 : Addr) =>
  pr.load1 .sl a13 w fun (ξ14 : Sl) =>
  bif decide (i_11 < (ξ14.n : Int)) then (
  pr.drewAll w fun ω15 =>
  pr.idxK 1 last_1 k_8 fun (a16 : Addr) =>
  pr.idxK 1 last_1 k_8 fun (a17 : Addr) =>
  (pr.load1 .sl a16 ω15 fun (ξ18 : Sl) =>
  pr.idxK 1 ξ18 i_11 fun (a19 : Addr) =>
  (pr.load1 (.int .i64) a19 ω15 fun (ξ20 : Int) =>
  pr.load1 .sl a17 ω15 fun (ξ21 : Sl) =>
  pr.idxK 1 ξ21 i_11 fun (a22 : Addr) =>
  pr.load1 (.int .i64) a22 ω15 fun (ξ23 : Int) =>
  pr.pcall1 (.int .i64) PP F.spec_l1Bit #[.bool (decide (ξ23 ≥ v_9))] fun (ρ24 : Int) =>
  pr.sem1 .sl PP (Instr.buildSlice T_Sint 1 #[(0, vI (w64 (ξ20 + ρ24)))]) ω15 fun (ρ25 : Sl) ω26 =>
  pr.sem1 .sl PP (Builtin.append_ #[T_Sint, T_Sint] T_Sint #[Sl.v p_10, Sl.v ρ25]) ω26 fun (ρ27 : Sl) ω28 =>
  k (emb10 list_0 last_1 n_2 out_7 k_8 v_9 ρ27 (w64 (i_11 + 1))) ω28) ∧
  (pr.load1 .sl a17 ω15 fun (ξ29 : Sl) =>
  pr.idxK 1 ξ29 i_11 fun (a30 : Addr) =>
  (pr.load1 (.int .i64) a19 ω15 fun (ξ31 : Int) =>
  pr.load1 (.int .i64) a30 ω15 fun (ξ32 : Int) =>
  pr.pcall1 (.int .i64) PP F.spec_l1Bit #[.bool (decide (ξ32 ≥ v_9))] fun (ρ33 : Int) =>
  pr.sem1 .sl PP (Instr.buildSlice T_Sint 1 #[(0, vI (w64 (ξ31 + ρ33)))]) ω15 fun (ρ34 : Sl) ω35 =>
  pr.sem1 .sl PP (Builtin.append_ #[T_Sint, T_Sint] T_Sint #[Sl.v p_10, Sl.v ρ34]) ω35 fun (ρ36 : Sl) ω37 =>
  k (emb10 list_0 last_1 n_2 out_7 k_8 v_9 ρ36 (w64 (i_11 + 1))) ω37) ∧
  (pr.load1 (.int .i64) a30 ω15 fun (ξ38 : Int) =>
  (pr.load1 (.int .i64) a19 ω15 fun (ξ39 : Int) =>
  pr.pcall1 (.int .i64) PP F.spec_l1Bit #[.bool (decide (ξ38 ≥ v_9))] fun (ρ40 : Int) =>
  pr.sem1 .sl PP (Instr.buildSlice T_Sint 1 #[(0, vI (w64 (ξ39 + ρ40)))]) ω15 fun (ρ41 : Sl) ω42 =>
  pr.sem1 .sl PP (Builtin.append_ #[T_Sint, T_Sint] T_Sint #[Sl.v p_10, Sl.v ρ41]) ω42 fun (ρ43 : Sl) ω44 =>
  k (emb10 list_0 last_1 n_2 out_7 k_8 v_9 ρ43 (w64 (i_11 + 1))) ω44) ∧
  (pr.pcall1 (.int .i64) PP F.spec_l1Bit #[.bool (decide (ξ38 ≥ v_9))] fun (ρ45 : Int) =>
  pr.load1 (.int .i64) a19 ω15 fun (ξ46 : Int) =>
  pr.sem1 .sl PP (Instr.buildSlice T_Sint 1 #[(0, vI (w64 (ξ46 + ρ45)))]) ω15 fun (ρ47 : Sl) ω48 =>
  pr.sem1 .sl PP (Builtin.append_ #[T_Sint, T_Sint] T_Sint #[Sl.v p_10, Sl.v ρ47]) ω48 fun (ρ49 : Sl) ω50 =>
  k (emb10 list_0 last_1 n_2 out_7 k_8 v_9 ρ49 (w64 (i_11 + 1))) ω50)))) ∧
  (pr.load1 .sl a17 ω15 fun (ξ51 : Sl) =>
  pr.idxK 1 ξ51 i_11 fun (a52 : Addr) =>
  (pr.load1 .sl a16 ω15 fun (ξ53 : Sl) =>
  pr.idxK 1 ξ53 i_11 fun (a54 : Addr) =>
  (pr.load1 (.int .i64) a54 ω15 fun (ξ55 : Int) =>
  pr.load1 (.int .i64) a52 ω15 fun (ξ56 : Int) =>
  pr.pcall1 (.int .i64) PP F.spec_l1Bit #[.bool (decide (ξ56 ≥ v_9))] fun (ρ57 : Int) =>
  pr.sem1 .sl PP (Instr.buildSlice T_Sint 1 #[(0, vI (w64 (ξ55 + ρ57)))]) ω15 fun (ρ58 : Sl) ω59 =>
  pr.sem1 .sl PP (Builtin.append_ #[T_Sint, T_Sint] T_Sint #[Sl.v p_10, Sl.v ρ58]) ω59 fun (ρ60 : Sl) ω61 =>
  k (emb10 list_0 last_1 n_2 out_7 k_8 v_9 ρ60 (w64 (i_11 + 1))) ω61) ∧
  (pr.load1 (.int .i64) a52 ω15 fun (ξ62 : Int) =>
  (pr.load1 (.int .i64) a54 ω15 fun (ξ63 : Int) =>
  pr.pcall1 (.int .i64) PP F.spec_l1Bit #[.bool (decide (ξ62 ≥ v_9))] fun (ρ64 : Int) =>
  pr.sem1 .sl PP (Instr.buildSlice T_Sint 1 #[(0, vI (w64 (ξ63 + ρ64)))]) ω15 fun (ρ65 : Sl) ω66 =>
  pr.sem1 .sl PP (Builtin.append_ #[T_Sint, T_Sint] T_Sint #[Sl.v p_10, Sl.v ρ65]) ω66 fun (ρ67 : Sl) ω68 =>
  k (emb10 list_0 last_1 n_2 out_7 k_8 v_9 ρ67 (w64 (i_11 + 1))) ω68) ∧
  (pr.pcall1 (.int .i64) PP F.spec_l1Bit #[.bool (decide (ξ62 ≥ v_9))] fun (ρ69 : Int) =>
  pr.load1 (.int .i64) a54 ω15 fun (ξ70 : Int) =>
  pr.sem1 .sl PP (Instr.buildSlice T_Sint 1 #[(0, vI (w64 (ξ70 + ρ69)))]) ω15 fun (ρ71 : Sl) ω72 =>
  pr.sem1 .sl PP (Builtin.append_ #[T_Sint, T_Sint] T_Sint #[Sl.v p_10, Sl.v ρ71]) ω72 fun (ρ73 : Sl) ω74 =>
  k (emb10 list_0 last_1 n_2 out_7 k_8 v_9 ρ73 (w64 (i_11 + 1))) ω74))) ∧
  (pr.load1 (.int .i64) a52 ω15 fun (ξ75 : Int) =>
  (pr.load1 .sl a16 ω15 fun (ξ76 : Sl) =>
  pr.idxK 1 ξ76 i_11 fun (a77 : Addr) =>
  (pr.load1 (.int .i64) a77 ω15 fun (ξ78 : Int) =>
  pr.pcall1 (.int .i64) PP F.spec_l1Bit #[.bool (decide (ξ75 ≥ v_9))] fun (ρ79 : Int) =>
  pr.sem1 .sl PP (Instr.buildSlice T_Sint 1 #[(0, vI (w64 (ξ78 + ρ79)))]) ω15 fun (ρ80 : Sl) ω81 =>
  pr.sem1 .sl PP (Builtin.append_ #[T_Sint, T_Sint] T_Sint #[Sl.v p_10, Sl.v ρ80]) ω81 fun (ρ82 : Sl) ω83 =>
  k (emb10 list_0 last_1 n_2 out_7 k_8 v_9 ρ82 (w64 (i_11 + 1))) ω83) ∧
  (pr.pcall1 (.int .i64) PP F.spec_l1Bit #[.bool (decide (ξ75 ≥ v_9))] fun (ρ84 : Int) =>
  pr.load1 (.int .i64) a77 ω15 fun (ξ85 : Int) =>
  pr.sem1 .sl PP (Instr.buildSlice T_Sint 1 #[(0, vI (w64 (ξ85 + ρ84)))]) ω15 fun (ρ86 : Sl) ω87 =>
  pr.sem1 .sl PP (Builtin.append_ #[T_Sint, T_Sint] T_Sint #[Sl.v p_10, Sl.v ρ86]) ω87 fun (ρ88 : Sl) ω89 =>
  k (emb10 list_0 last_1 n_2 out_7 k_8 v_9 ρ88 (w64 (i_11 + 1))) ω89)) ∧
  (pr.pcall1 (.int .i64) PP F.spec_l1Bit #[.bool (decide (ξ75 ≥ v_9))] fun (ρ90 : Int) =>
  pr.load1 .sl a16 ω15 fun (ξ91 : Sl) =>
  pr.idxK 1 ξ91 i_11 fun (a92 : Addr) =>
  pr.load1 (.int .i64) a92 ω15 fun (ξ93 : Int) =>
  pr.sem1 .sl PP (Instr.buildSlice T_Sint 1 #[(0, vI (w64 (ξ93 + ρ90)))]) ω15 fun (ρ94 : Sl) ω95 =>
  pr.sem1 .sl PP (Builtin.append_ #[T_Sint, T_Sint] T_Sint #[Sl.v p_10, Sl.v ρ94]) ω95 fun (ρ96 : Sl) ω97 =>
  k (emb10 list_0 last_1 n_2 out_7 k_8 v_9 ρ96 (w64 (i_11 + 1))) ω97))))
  else (
  Q (.exit 4) (x4 list_0 last_1 n_2 out_7 k_8 v_9 p_10) w)) := by kernel_rfl
theorem B10_s (list_0 : Sl) (last_1 : Sl) (n_2 : Int) (out_7 : Sl) (k_8 : Int) (v_9 : Int) (p_10 : Sl) (i_11 : Int) (w : World) (k : Env → World → Prop) (Q : Exit → Env → World → Prop) : B10 std list_0 last_1 n_2 out_7 k_8 v_9 p_10 i_11 w k Q = (
  idxK 1 last_1 k_8 fun (a13 : Addr) =>
  load1 .sl a13 w fun (ξ14 : Sl) =>
  bif decide (i_11 < (ξ14.n : Int)) then (
  drewAll w fun ω15 =>
  idxK 1 last_1 k_8 fun (a16 : Addr) =>
  idxK 1 last_1 k_8 fun (a17 : Addr) =>
  (load1 .sl a16 ω15 fun (ξ18 : Sl) =>
  idxK 1 ξ18 i_11 fun (a19 : Addr) =>
  (load1 (.int .i64) a19 ω15 fun (ξ20 : Int) =>
  load1 .sl a17 ω15 fun (ξ21 : Sl) =>
  idxK 1 ξ21 i_11 fun (a22 : Addr) =>
  load1 (.int .i64) a22 ω15 fun (ξ23 : Int) =>
  pcall1 (.int .i64) PP F.spec_l1Bit #[.bool (decide (ξ23 ≥ v_9))] fun (ρ24 : Int) =>
  sem1 .sl PP (Instr.buildSlice T_Sint 1 #[(0, vI (w64 (ξ20 + ρ24)))]) ω15 fun (ρ25 : Sl) ω26 =>
  sem1 .sl PP (Builtin.append_ #[T_Sint, T_Sint] T_Sint #[Sl.v p_10, Sl.v ρ25]) ω26 fun (ρ27 : Sl) ω28 =>
  k (emb10 list_0 last_1 n_2 out_7 k_8 v_9 ρ27 (w64 (i_11 + 1))) ω28) ∧
  (load1 .sl a17 ω15 fun (ξ29 : Sl) =>
  idxK 1 ξ29 i_11 fun (a30 : Addr) =>
  (load1 (.int .i64) a19 ω15 fun (ξ31 : Int) =>
  load1 (.int .i64) a30 ω15 fun (ξ32 : Int) =>
  pcall1 (.int .i64) PP F.spec_l1Bit #[.bool (decide (ξ32 ≥ v_9))] fun (ρ33 : Int) =>
  sem1 .sl PP (Instr.buildSlice T_Sint 1 #[(0, vI (w64 (ξ31 + ρ33)))]) ω15 fun (ρ34 : Sl) ω35 =>
  sem1 .sl PP (Builtin.append_ #[T_Sint, T_Sint] T_Sint #[Sl.v p_10, Sl.v ρ34]) ω35 fun (ρ36 : Sl) ω37 =>
  k (emb10 list_0 last_1 n_2 out_7 k_8 v_9 ρ36 (w64 (i_11 + 1))) ω37) ∧
  (load1 (.int .i64) a30 ω15 fun (ξ38 : Int) =>
  (load1 (.int .i64) a19 ω15 fun (ξ39 : Int) =>
  pcall1 (.int .i64) PP F.spec_l1Bit #[.bool (decide (ξ38 ≥ v_9))] fun (ρ40 : Int) =>
  sem1 .sl PP (Instr.buildSlice T_Sint 1 #[(0, vI (w64 (ξ39 + ρ40)))]) ω15 fun (ρ41 : Sl) ω42 =>
  sem1 .sl PP (Builtin.append_ #[T_Sint, T_Sint] T_Sint #[Sl.v p_10, Sl.v ρ41]) ω42 fun (ρ43 : Sl) ω44 =>
  k (emb10 list_0 last_1 n_2 out_7 k_8 v_9 ρ43 (w64 (i_11 + 1))) ω44) ∧
  (pcall1 (.int .i64) PP F.spec_l1Bit #[.bool (decide (ξ38 ≥ v_9))] fun (ρ45 : Int) =>
  load1 (.int .i64) a19 ω15 fun (ξ46 : Int) =>
  sem1 .sl PP (Instr.buildSlice T_Sint 1 #[(0, vI (w64 (ξ46 + ρ45)))]) ω15 fun (ρ47 : Sl) ω48 =>
  sem1 .sl PP (Builtin.append_ #[T_Sint, T_Sint] T_Sint #[Sl.v p_10, Sl.v ρ47]) ω48 fun (ρ49 : Sl) ω50 =>
  k (emb10 list_0 last_1 n_2 out_7 k_8 v_9 ρ49 (w64 (i_11 + 1))) ω50)))) ∧
  (load1 .sl a17 ω15 fun (ξ51 : Sl) =>
  idxK 1 ξ51 i_11 fun (a52 : Addr) =>
  (load1 .sl a16 ω15 fun (ξ53 : Sl) =>
  idxK 1 ξ53 i_11 fun (a54 : Addr) =>
  (load1 (.int .i64) a54 ω15 fun (ξ55 : Int) =>
  load1 (.int .i64) a52 ω15 fun (ξ56 : Int) =>
  pcall1 (.int .i64) PP F.spec_l1Bit #[.bool (decide (ξ56 ≥ v_9))] fun (ρ57 : Int) =>
  sem1 .sl PP (Instr.buildSlice T_Sint 1 #[(0, vI (w64 (ξ55 + ρ57)))]) ω15 fun (ρ58 : Sl) ω59 =>
  sem1 .sl PP (Builtin.append_ #[T_Sint, T_Sint] T_Sint #[Sl.v p_10, Sl.v ρ58]) ω59 fun (ρ60 : Sl) ω61 =>
  k (emb10 list_0 last_1 n_2 out_7 k_8 v_9 ρ60 (w64 (i_11 + 1))) ω61) ∧
  (load1 (.int .i64) a52 ω15 fun (ξ62 : Int) =>
  (load1 (.int .i64) a54 ω15 fun (ξ63 : Int) =>
  pcall1 (.int .i64) PP F.spec_l1Bit #[.bool (decide (ξ62 ≥ v_9))] fun (ρ64 : Int) =>
  sem1 .sl PP (Instr.buildSlice T_Sint 1 #[(0, vI (w64 (ξ63 + ρ64)))]) ω15 fun (ρ65 : Sl) ω66 =>
  sem1 .sl PP (Builtin.append_ #[T_Sint, T_Sint] T_Sint #[Sl.v p_10, Sl.v ρ65]) ω66 fun (ρ67 : Sl) ω68 =>
  k (emb10 list_0 last_1 n_2 out_7 k_8 v_9 ρ67 (w64 (i_11 + 1))) ω68) ∧
  (pcall1 (.int .i64) PP F.spec_l1Bit #[.bool (decide (ξ62 ≥ v_9))] fun (ρ69 : Int) =>
  load1 (.int .i64) a54 ω15 fun (ξ70 : Int) =>
  sem1 .sl PP (Instr.buildSlice T_Sint 1 #[(0, vI (w64 (ξ70 + ρ69)))]) ω15 fun (ρ71 : Sl) ω72 =>
  sem1 .sl PP (Builtin.append_ #[T_Sint, T_Sint] T_Sint #[Sl.v p_10, Sl.v ρ71]) ω72 fun (ρ73 : Sl) ω74 =>
  k (emb10 list_0 last_1 n_2 out_7 k_8 v_9 ρ73 (w64 (i_11 + 1))) ω74))) ∧
  (load1 (.int .i64) a52 ω15 fun (ξ75 : Int) =>
  (load1 .sl a16 ω15 fun (ξ76 : Sl) =>
  idxK 1 ξ76 i_11 fun (a77 : Addr) =>
  (load1 (.int .i64) a77 ω15 fun (ξ78 : Int) =>
  pcall1 (.int .i64) PP F.spec_l1Bit #[.bool (decide (ξ75 ≥ v_9))] fun (ρ79 : Int) =>
  sem1 .sl PP (Instr.buildSlice T_Sint 1 #[(0, vI (w64 (ξ78 + ρ79)))]) ω15 fun (ρ80 : Sl) ω81 =>
  sem1 .sl PP (Builtin.append_ #[T_Sint, T_Sint] T_Sint #[Sl.v p_10, Sl.v ρ80]) ω81 fun (ρ82 : Sl) ω83 =>
  k (emb10 list_0 last_1 n_2 out_7 k_8 v_9 ρ82 (w64 (i_11 + 1))) ω83) ∧
  (pcall1 (.int .i64) PP F.spec_l1Bit #[.bool (decide (ξ75 ≥ v_9))] fun (ρ84 : Int) =>
  load1 (.int .i64) a77 ω15 fun (ξ85 : Int) =>
  sem1 .sl PP (Instr.buildSlice T_Sint 1 #[(0, vI (w64 (ξ85 + ρ84)))]) ω15 fun (ρ86 : Sl) ω87 =>
  sem1 .sl PP (Builtin.append_ #[T_Sint, T_Sint] T_Sint #[Sl.v p_10, Sl.v ρ86]) ω87 fun (ρ88 : Sl) ω89 =>
  k (emb10 list_0 last_1 n_2 out_7 k_8 v_9 ρ88 (w64 (i_11 + 1))) ω89)) ∧
  (pcall1 (.int .i64) PP F.spec_l1Bit #[.bool (decide (ξ75 ≥ v_9))] fun (ρ90 : Int) =>
  load1 .sl a16 ω15 fun (ξ91 : Sl) =>
  idxK 1 ξ91 i_11 fun (a92 : Addr) =>
  load1 (.int .i64) a92 ω15 fun (ξ93 : Int) =>
  sem1 .sl PP (Instr.buildSlice T_Sint 1 #[(0, vI (w64 (ξ93 + ρ90)))]) ω15 fun (ρ94 : Sl) ω95 =>
  sem1 .sl PP (Builtin.append_ #[T_Sint, T_Sint] T_Sint #[Sl.v p_10, Sl.v ρ94]) ω95 fun (ρ96 : Sl) ω97 =>
  k (emb10 list_0 last_1 n_2 out_7 k_8 v_9 ρ96 (w64 (i_11 + 1))) ω97))))
  else (
  Q (.exit 4) (x4 list_0 last_1 n_2 out_7 k_8 v_9 p_10) w)) := B10_eq std list_0 last_1 n_2 out_7 k_8 v_9 p_10 i_11 w k Q
theorem L10_rule (list_0 : Sl) (last_1 : Sl) (n_2 : Int) (out_7 : Sl) (k_8 : Int) (v_9 : Int) (p_10 : Sl) (i_11 : Int) (w : World) (Q : Exit → Env → World → Prop) (I : Sl → Int → World → Prop) (μ : Sl → Int → World → Nat) (h0 : I p_10 i_11 w)
    (h : ∀ (p_10 : Sl) (i_11 : Int) (w' : World), I p_10 i_11 w' → B10 std list_0 last_1 n_2 out_7 k_8 v_9 p_10 i_11 w' (fun e2 w2 => ∃ p_10_n i_11_n, e2 = emb10 list_0 last_1 n_2 out_7 k_8 v_9 p_10_n i_11_n ∧ I p_10_n i_11_n w2 ∧ μ p_10_n i_11_n w2 < μ p_10 i_11 w') Q) :
    L10 std list_0 last_1 n_2 out_7 k_8 v_9 p_10 i_11 w Q := by
  unfold L10
  refine LoopE.intro (σ := Sl × Int) (step := S10 std Q) (fun s => emb10 list_0 last_1 n_2 out_7 k_8 v_9 s.1 s.2) (fun s w => I s.1 s.2 w) (fun s w => μ s.1 s.2 w) (p_10, i_11) rfl h0 ?_
  intro s w' hI
  have h1 := h s.1 s.2 w' hI
  unfold B10 at h1
  simp only [Prod.exists]
  exact h1
theorem A10_4_eq (pr : Prims) (list_0 : Sl) (last_1 : Sl) (n_2 : Int) (out_7 : Sl) (k_8 : Int) (v_9 : Int) (p_10 : Sl) (w : World) (k : Env → World → Prop) (Q : Exit → Env → World → Prop) : (q12 pr k Q) (.exit 4) (x4 list_0 last_1 n_2 out_7 k_8 v_9 p_10) w = (
  pr.sem1 .sl PP (Instr.buildSlice T_Sint 1 #[(0, vI v_9)]) w fun (ρ98 : Sl) ω99 =>
  pr.sem1 .sl PP (Builtin.append_ #[T_Sint, T_Sint] T_Sint #[Sl.v p_10, Sl.v ρ98]) ω99 fun (ρ100 : Sl) ω101 =>
  pr.call1 .bool PP F.spec_l12Avoids #[Sl.v list_0, Sl.v ρ100] ω101 fun (ρ102 : Bool) ω103 =>
  bif ρ102 then (
  pr.sem1 .sl PP (Instr.buildSlice T_SSint 1 #[(0, Sl.v ρ100)]) ω103 fun (ρ104 : Sl) ω105 =>
  pr.sem1 .sl PP (Builtin.append_ #[T_SSint, T_SSint] T_SSint #[Sl.v out_7, Sl.v ρ104]) ω105 fun (ρ106 : Sl) ω107 =>
  k (emb6 list_0 last_1 n_2 ρ106 k_8 (w64 (v_9 + 1))) ω107)
  else (
  k (emb6 list_0 last_1 n_2 out_7 k_8 (w64 (v_9 + 1))) ω103)) := by kernel_rfl
theorem A10_4_s (list_0 : Sl) (last_1 : Sl) (n_2 : Int) (out_7 : Sl) (k_8 : Int) (v_9 : Int) (p_10 : Sl) (w : World) (k : Env → World → Prop) (Q : Exit → Env → World → Prop) : (q12 std k Q) (.exit 4) (x4 list_0 last_1 n_2 out_7 k_8 v_9 p_10) w = (
  sem1 .sl PP (Instr.buildSlice T_Sint 1 #[(0, vI v_9)]) w fun (ρ98 : Sl) ω99 =>
  sem1 .sl PP (Builtin.append_ #[T_Sint, T_Sint] T_Sint #[Sl.v p_10, Sl.v ρ98]) ω99 fun (ρ100 : Sl) ω101 =>
  call1 .bool PP F.spec_l12Avoids #[Sl.v list_0, Sl.v ρ100] ω101 fun (ρ102 : Bool) ω103 =>
  bif ρ102 then (
  sem1 .sl PP (Instr.buildSlice T_SSint 1 #[(0, Sl.v ρ100)]) ω103 fun (ρ104 : Sl) ω105 =>
  sem1 .sl PP (Builtin.append_ #[T_SSint, T_SSint] T_SSint #[Sl.v out_7, Sl.v ρ104]) ω105 fun (ρ106 : Sl) ω107 =>
  k (emb6 list_0 last_1 n_2 ρ106 k_8 (w64 (v_9 + 1))) ω107)
  else (
  k (emb6 list_0 last_1 n_2 out_7 k_8 (w64 (v_9 + 1))) ω103)) := A10_4_eq std list_0 last_1 n_2 out_7 k_8 v_9 p_10 w k Q
theorem B6_eq (pr : Prims) (list_0 : Sl) (last_1 : Sl) (n_2 : Int) (out_7 : Sl) (k_8 : Int) (v_9 : Int) (w : World) (k : Env → World → Prop) (Q : Exit → Env → World → Prop) : B6 pr list_0 last_1 n_2 out_7 k_8 v_9 w k Q = (
  bif decide (v_9 ≤ n_2) then (
  pr.sem1 .sl PP (Instr.buildSlice T_Sint 0 #[]) w fun (ρ9 : Sl) ω10 =>
  L10 pr list_0 last_1 n_2 out_7 k_8 v_9 ρ9 0 ω10 (q12 pr k Q))
  else (
  Q (.exit 2) (x2 list_0 last_1 n_2 out_7 k_8) w)) := by kernel_rfl
theorem B6_s (list_0 : Sl) (last_1 : Sl) (n_2 : Int) (out_7 : Sl) (k_8 : Int) (v_9 : Int) (w : World) (k : Env → World → Prop) (Q : Exit → Env → World → Prop) : B6 std list_0 last_1 n_2 out_7 k_8 v_9 w k Q = (
  bif decide (v_9 ≤ n_2) then (
  sem1 .sl PP (Instr.buildSlice T_Sint 0 #[]) w fun (ρ9 : Sl) ω10 =>
  L10 std list_0 last_1 n_2 out_7 k_8 v_9 ρ9 0 ω10 (q12 std k Q))
  else (
  Q (.exit 2) (x2 list_0 last_1 n_2 out_7 k_8) w)) := B6_eq std list_0 last_1 n_2 out_7 k_8 v_9 w k Q
theorem L6_rule (list_0 : Sl) (last_1 : Sl) (n_2 : Int) (out_7 : Sl) (k_8 : Int) (v_9 : Int) (w : World) (Q : Exit → Env → World → Prop) (I : Sl → Int → World → Prop) (μ : Sl → Int → World → Nat) (h0 : I out_7 v_9 w)
    (h : ∀ (out_7 : Sl) (v_9 : Int) (w' : World), I out_7 v_9 w' → B6 std list_0 last_1 n_2 out_7 k_8 v_9 w' (fun e2 w2 => ∃ out_7_n v_9_n, e2 = emb6 list_0 last_1 n_2 out_7_n k_8 v_9_n ∧ I out_7_n v_9_n w2 ∧ μ out_7_n v_9_n w2 < μ out_7 v_9 w') Q) :
    L6 std list_0 last_1 n_2 out_7 k_8 v_9 w Q := by
  unfold L6
  refine LoopE.intro (σ := Sl × Int) (step := S6 std Q) (fun s => emb6 list_0 last_1 n_2 s.1 k_8 s.2) (fun s w => I s.1 s.2 w) (fun s w => μ s.1 s.2 w) (out_7, v_9) rfl h0 ?_
  intro s w' hI
  have h1 := h s.1 s.2 w' hI
  unfold B6 at h1
  simp only [Prod.exists]
  exact h1
theorem A6_2_eq (pr : Prims) (list_0 : Sl) (last_1 : Sl) (n_2 : Int) (out_7 : Sl) (k_8 : Int) (w : World) (k : Env → World → Prop) (Q : Exit → Env → World → Prop) : (q6 pr k Q) (.exit 2) (x2 list_0 last_1 n_2 out_7 k_8) w = (
  k (emb3 list_0 last_1 n_2 out_7 (w64 (k_8 + 1))) w) := by kernel_rfl
theorem A6_2_s (list_0 : Sl) (last_1 : Sl) (n_2 : Int) (out_7 : Sl) (k_8 : Int) (w : World) (k : Env → World → Prop) (Q : Exit → Env → World → Prop) : (q6 std k Q) (.exit 2) (x2 list_0 last_1 n_2 out_7 k_8) w = (
  k (emb3 list_0 last_1 n_2 out_7 (w64 (k_8 + 1))) w) := A6_2_eq std list_0 last_1 n_2 out_7 k_8 w k Q
theorem A6_4_eq (pr : Prims) (list_0 : Sl) (last_1 : Sl) (n_2 : Int) (out_7 : Sl) (k_8 : Int) (v_9 : Int) (p_10 : Sl) (w : World) (k : Env → World → Prop) (Q : Exit → Env → World → Prop) : (q6 pr k Q) (.exit 4) (x4 list_0 last_1 n_2 out_7 k_8 v_9 p_10) w = (
  Q (.exit 4) (x4 list_0 last_1 n_2 out_7 k_8 v_9 p_10) w) := by kernel_rfl
theorem A6_4_s (list_0 : Sl) (last_1 : Sl) (n_2 : Int) (out_7 : Sl) (k_8 : Int) (v_9 : Int) (p_10 : Sl) (w : World) (k : Env → World → Prop) (Q : Exit → Env → World → Prop) : (q6 std k Q) (.exit 4) (x4 list_0 last_1 n_2 out_7 k_8 v_9 p_10) w = (
  Q (.exit 4) (x4 list_0 last_1 n_2 out_7 k_8 v_9 p_10) w) := A6_4_eq std list_0 last_1 n_2 out_7 k_8 v_9 p_10 w k Q
theorem B3_eq (pr : Prims) (list_0 : Sl) (last_1 : Sl) (n_2 : Int) (out_7 : Sl) (k_8 : Int) (w : World) (k : Env → World → Prop) (Q : Exit → Env → World → Prop) : B3 pr list_0 last_1 n_2 out_7 k_8 w k Q = (
  bif decide (k_8 < (last_1.n : Int)) then (
  L6 pr list_0 last_1 n_2 out_7 k_8 1 w (q6 pr k Q))
  else (
  Q (.exit 0) (x0 out_7) w)) := by kernel_rfl
theorem B3_s (list_0 : Sl) (last_1 : Sl) (n_2 : Int) (out_7 : Sl) (k_8 : Int) (w : World) (k : Env → World → Prop) (Q : Exit → Env → World → Prop) : B3 std list_0 last_1 n_2 out_7 k_8 w k Q = (
  bif decide (k_8 < (last_1.n : Int)) then (
  L6 std list_0 last_1 n_2 out_7 k_8 1 w (q6 std k Q))
  else (
  Q (.exit 0) (x0 out_7) w)) := B3_eq std list_0 last_1 n_2 out_7 k_8 w k Q
theorem L3_rule (list_0 : Sl) (last_1 : Sl) (n_2 : Int) (out_7 : Sl) (k_8 : Int) (w : World) (Q : Exit → Env → World → Prop) (I : Sl → Int → World → Prop) (μ : Sl → Int → World → Nat) (h0 : I out_7 k_8 w)
    (h : ∀ (out_7 : Sl) (k_8 : Int) (w' : World), I out_7 k_8 w' → B3 std list_0 last_1 n_2 out_7 k_8 w' (fun e2 w2 => ∃ out_7_n k_8_n, e2 = emb3 list_0 last_1 n_2 out_7_n k_8_n ∧ I out_7_n k_8_n w2 ∧ μ out_7_n k_8_n w2 < μ out_7 k_8 w') Q) :
    L3 std list_0 last_1 n_2 out_7 k_8 w Q := by
  unfold L3
  refine LoopE.intro (σ := Sl × Int) (step := S3 std Q) (fun s => emb3 list_0 last_1 n_2 s.1 s.2) (fun s w => I s.1 s.2 w) (fun s w => μ s.1 s.2 w) (out_7, k_8) rfl h0 ?_
  intro s w' hI
  have h1 := h s.1 s.2 w' hI
  unfold B3 at h1
  simp only [Prod.exists]
  exact h1
theorem A3_0_eq (pr : Prims) (out_7 : Sl) (w : World) (R : Ending → World → Prop) : (q3 pr R) (.exit 0) (x0 out_7) w = (
  R (.returned (Sl.v out_7)) w) := by kernel_rfl
theorem A3_0_s (out_7 : Sl) (w : World) (R : Ending → World → Prop) : (q3 std R) (.exit 0) (x0 out_7) w = (
  R (.returned (Sl.v out_7)) w) := A3_0_eq std out_7 w R
theorem E_eq (pr : Prims) (list_0 : Sl) (last_1 : Sl) (n_2 : Int) (w : World) (R : Ending → World → Prop) : E pr list_0 last_1 n_2 w R = (
  pr.sem1 .sl PP (Instr.buildSlice T_SSint 0 #[]) w fun (ρ0 : Sl) ω1 =>
  L3 pr list_0 last_1 n_2 ρ0 0 ω1 (q3 pr R)) := by kernel_rfl
theorem E_s (list_0 : Sl) (last_1 : Sl) (n_2 : Int) (w : World) (R : Ending → World → Prop) : E std list_0 last_1 n_2 w R = (
  sem1 .sl PP (Instr.buildSlice T_SSint 0 #[]) w fun (ρ0 : Sl) ω1 =>
  L3 std list_0 last_1 n_2 ρ0 0 ω1 (q3 std R)) := E_eq std list_0 last_1 n_2 w R
theorem drawsOk : drawsOk PP cfg okD (codeOf Tryz.f82) = true := by kernel_rfl
theorem calls (list_0 : Sl) (last_1 : Sl) (n_2 : Int) {w : World} {R : Ending → World → Prop} (h : E std list_0 last_1 n_2 w R) : Calls PP F.spec_l12Next #[Sl.v list_0, Sl.v last_1, vI n_2] w R :=
  calls_of noCount mixed drawOk Tryz.func82 rfl (c := cfg) (args := [Sl.v list_0, Sl.v last_1, vI n_2]) rfl (Nat.le_of_ble_eq_true (by kernel_rfl)) drawsOk h
end spec_l12Next

end Go.Proofs.YteplokddaebbeaaGreat

/- ClassCounts: both texts. -/
namespace Go.Proofs.YteplokddaebbeaaGreat
open Go Go.RowKit
set_option maxRecDepth 100000

def GV (LL : List (List Int)) (n : Nat) (q : List Int) : List (List Int) := ((idn n).map (insV q)).filter (avoidsV LL)
theorem nextV_eq (LL : List (List Int)) (n : Nat) (l : List (List Int)) : nextV LL n l = l.flatMap (GV LL n) := rfl
theorem GV_len (LL : List (List Int)) (n : Nat) (q : List Int) : (GV LL n q).length ≤ n := by
  have := List.length_filter_le (avoidsV LL) ((idn n).map (insV q))
  rw [List.length_map, idn_length] at this
  exact this
theorem GV_succ (LL : List (List Int)) (v : Nat) (q : List Int) : GV LL (v + 1) q = GV LL v q ++ (if avoidsV LL (insV q ((v : Int) + 1)) = true then [insV q ((v : Int) + 1)] else []) := by
  unfold GV
  rw [idn_succ, List.map_append, List.filter_append]
  congr 1
  simp only [List.map_cons, List.map_nil, List.filter_cons, List.filter_nil]
theorem c_l12Next {w : World} {l last : Sl} {LL LAST : List (List Int)} (hl : RowSS w l LL) (hB : BasisOk LL) (hlast : RowSS w last LAST) (k : Nat) (hk : k ≤ 5) (hlen : ∀ p ∈ LAST, p.length = k)
    (hbd : ∀ p ∈ LAST, ∀ x ∈ p, 0 ≤ x ∧ x ≤ 8) (hc : LAST.length ≤ 46656) :
    Calls PP F.spec_l12Next #[l.v, last.v, vI (k + 1 : Nat)] w fun e w' => ∃ s : Sl, e = .returned s.v ∧ OwnSS w' w.heap.size s (nextV LL (k + 1) LAST) ∧ Below w.heap.size w w' := by
  have hlastn := hlast.n
  have hl8 := hB.1
  refine spec_l12Next.calls l last (k + 1 : Nat) ?_
  rw [spec_l12Next.E_s]
  refine lit0 oneSint (B := w.heap.size) (Nat.le_refl _) ?_
  intro o w1 ho hg1 _
  have hb1 := below_of_grow hg1
  refine spec_l12Next.L3_rule _ _ _ _ _ _ _ (I := fun o i w' => 0 ≤ i ∧ i ≤ LAST.length ∧ Below w.heap.size w w' ∧ OwnSS w' w.heap.size o ((LAST.take i.toNat).flatMap (GV LL (k + 1)))) (μ := fun _ i _ => (LAST.length - i).toNat)
    ⟨by omega, by omega, hb1, OwnSS.nil ho⟩ ?_
  rintro o i w' ⟨hi0, hi, hb, ho⟩
  rw [spec_l12Next.B3_s, hlastn]
  refine bif_dec (fun h3 => ?_) (fun h3 => ?_)
  · have hlt : i.toNat < LAST.length := by omega
    have hql := hlen _ (List.getElem_mem hlt)
    have hqb := hbd _ (List.getElem_mem hlt)
    have hsn : (LAST.take (i.toNat + 1)).flatMap (GV LL (k + 1)) = (LAST.take i.toNat).flatMap (GV LL (k + 1)) ++ GV LL (k + 1) LAST[i.toNat] := by
      rw [List.take_succ_eq_append_getElem hlt, flat_snoc']
    have hfl : ((LAST.take i.toNat).flatMap (GV LL (k + 1))).length ≤ 46656 * 6 := by
      have h1 := length_flatMap_le (LAST.take i.toNat) (GV LL (k + 1)) 6 (fun q _ => Nat.le_trans (GV_len LL (k + 1) q) (by omega))
      rw [List.length_take] at h1
      omega
    have hget : LAST.getD i.toNat [] = LAST[i.toNat] := getD_SS hlt
    generalize hq : LAST[i.toNat] = q at *
    have ei : (i + 1).toNat = i.toNat + 1 := by omega
    refine spec_l12Next.L6_rule _ _ _ _ _ _ _ _ (I := fun o v w2 => 1 ≤ v ∧ v ≤ (k + 2 : Nat) ∧ Below w.heap.size w w2 ∧ OwnSS w2 w.heap.size o ((LAST.take i.toNat).flatMap (GV LL (k + 1)) ++ GV LL (v - 1).toNat q)) (μ := fun _ v _ => ((k + 2 : Nat) - v).toNat)
      ⟨by omega, by omega, hb, by simpa [GV, idn] using ho⟩ ?_
    rintro o v w2 ⟨hv1, hv, hb2, ho⟩
    rw [spec_l12Next.B6_s]
    refine bif_dec (fun h5 => ?_) (fun h5 => ?_)
    · refine lit0 oneInt (B := w2.heap.size) (Nat.le_refl _) ?_
      intro p w3 hp hg3 _
      have hb3 := below_of_grow hg3
      refine spec_l12Next.L10_rule _ _ _ _ _ _ _ _ _ _ (I := fun p j w4 => 0 ≤ j ∧ j ≤ k ∧ Below w2.heap.size w2 w4 ∧ OwnI w4 w2.heap.size p ((q.take j.toNat).map (bump v))) (μ := fun _ j _ => (k - j).toNat)
        ⟨by omega, by omega, hb3, hp⟩ ?_
      rintro p j w4 ⟨hj0, hj, hb4, hp⟩
      have hbw4 := hb2.trans (hb4.mono hb2.size)
      rw [spec_l12Next.B10_s]
      refine RowSS.get (hlast.grow hbw4) hi0 (by omega) fun r hr => ?_
      rw [hget] at hr
      have hrn : r.n = k := by have := hr.n; simpa [hql] using this
      simp only [hrn]
      refine bif_dec (fun h7 => ?_) (fun h7 => ?_)
      · have hlt2 : j.toNat < q.length := by omega
        refine drew_intro fun w5 hd => ?_
        have hb5 := hb4.trans ((hd.below _).mono hb4.size)
        have hbw5 := hb2.trans (hb5.mono hb2.size)
        have hp5 := hp.heap hd.heap'
        refine RowSS.place (hlast.grow hbw5) hi0 (by omega) fun a16 r16 h16 hr16 => ?_
        refine RowSS.place (hlast.grow hbw5) hi0 (by omega) fun a17 r17 h17 hr17 => ?_
        rw [hget] at hr16 hr17
        have hx := hqb _ (List.getElem_mem hlt2)
        have hgx : q.getD j.toNat 0 = q[j.toNat] := getD_lt hlt2
        have hbx : w64 (q[j.toNat] + (if decide (q[j.toNat] ≥ v) = true then 1 else 0)) = bump v q[j.toNat] := by
          unfold bump
          by_cases h : q[j.toNat] ≥ v
          · rw [if_pos (by simpa using h), if_pos h, w64_succ (by omega) (by omega)]
          · rw [if_neg (by simpa using h), if_neg h, w64_id (by omega) (by omega)]; omega
        have h0j : j < (q.length : Int) := by omega
        have fin : ∀ (t : Int), t = (if decide (q[j.toNat] ≥ v) = true then 1 else 0) → sem1 .sl PP (Instr.buildSlice T_Sint 1 #[(0, vI (w64 (q[j.toNat] + t)))]) w5 fun (ρ25 : Sl) ω26 =>
            sem1 .sl PP (Builtin.append_ #[T_Sint, T_Sint] T_Sint #[Sl.v p, Sl.v ρ25]) ω26 fun (ρ27 : Sl) ω28 =>
            (fun e2 w2' => ∃ p_10_n i_11_n, e2 = spec_l12Next.emb10 l last (k + 1 : Nat) o i v p_10_n i_11_n ∧ (0 ≤ i_11_n ∧ i_11_n ≤ k ∧ Below w2.heap.size w2 w2' ∧ OwnI w2' w2.heap.size p_10_n ((q.take i_11_n.toNat).map (bump v))) ∧ (k - i_11_n).toNat < (k - j).toNat) (spec_l12Next.emb10 l last (k + 1 : Nat) o i v ρ27 (w64 (j + 1))) ω28 := by
          rintro t rfl
          rw [hbx]
          refine append_int hp5 hb5.size (by rw [List.length_map, List.length_take]; omega) ?_
          intro p' w6 hp6 hg6 _
          refine ⟨p', j + 1, by rw [w64_succ hj0 (by omega)], ⟨by omega, by omega, hb5.grown hg6 hb5.size (fun g hg => (hp5.lt g hg).1), ?_⟩, by omega⟩
          rw [show (j + 1).toNat = j.toNat + 1 by omega, List.take_succ_eq_append_getElem hlt2, List.map_append]
          exact hp6
        clear hbx
        repeat' first
          | exact fin _ rfl
          | refine And.intro ?_ ?_
          | refine load_sl h16 ?_
          | refine load_sl h17 ?_
          | (refine RowI.place hr16 hj0 h0j fun a ha => ?_; rw [hgx] at ha)
          | (refine RowI.place hr17 hj0 h0j fun a ha => ?_; rw [hgx] at ha)
          | refine load_int (by assumption) ?_
          | refine Pure.pcall1 (s := .int .i64) (c_l1Bit _) ?_
      · rw [spec_l12Next.A10_4_s]
        have ej : j.toNat = q.length := by omega
        rw [ej, List.take_length] at hp
        refine append_int hp hb4.size (by rw [List.length_map]; omega) ?_
        intro p' w5 hp5 hg5 _
        have hp5 : OwnI w5 w2.heap.size p' (insV q v) := hp5
        have hb5 := hb4.grown hg5 hb4.size (fun g hg => (hp.lt g hg).1)
        have hbw5 := hb2.trans (hb5.mono hb2.size)
        have hil : (insV q v).length ≤ 8 := by rw [insV_length]; omega
        refine (c_l12Avoids (hl.grow hbw5) hp5.row hil (by omega) hB.len).mono ?_
        rintro e w6 ⟨rfl, hb6⟩
        refine ⟨_, rfl, ?_⟩
        have hb26 := hb5.trans (hb6.mono hb5.size)
        have hbw6 := hb2.trans (hb26.mono hb2.size)
        have hp6 := hp5.grow hb6
        obtain ⟨m, rfl⟩ : ∃ m : Nat, v = (m : Int) + 1 := ⟨(v - 1).toNat, by omega⟩
        have em : ((m : Int) + 1 - 1).toNat = m := by omega
        have em2 : ((m : Int) + 1 + 1 - 1).toNat = m + 1 := by omega
        have hGl := GV_len LL m q
        rw [em] at ho
        refine bif_intro (fun h8 => ?_) (fun h8 => ?_)
        · refine append_new ho hb26 hb2.size hp6 (by rw [List.length_append]; omega) ?_
          intro o' w7 ho7 hg7 _
          refine ⟨o', (m : Int) + 1 + 1, by rw [w64_succ (by omega) (by omega)], ⟨by omega, by omega, hbw6.grown hg7 hbw6.size (fun g hg => (ho.lt g hg).1), ?_⟩, by omega⟩
          rw [em2, GV_succ, if_pos h8, ← List.append_assoc]
          exact ho7
        · refine ⟨o, (m : Int) + 1 + 1, by rw [w64_succ (by omega) (by omega)], ⟨by omega, by omega, hbw6, ?_⟩, by omega⟩
          rw [em2, GV_succ, if_neg (by simp [h8]), List.append_nil]
          exact ho.grow hb26
    · rw [spec_l12Next.A6_2_s]
      refine ⟨o, i + 1, by rw [w64_succ hi0 (by omega)], ⟨by omega, by omega, hb2, ?_⟩, by omega⟩
      rw [ei, hsn]
      rw [show (v - 1).toNat = k + 1 by omega] at ho
      exact ho
  · rw [spec_l12Next.A3_0_s]
    rw [show i.toNat = LAST.length by omega, List.take_length] at ho
    exact ⟨o, rfl, by rw [nextV_eq]; exact ho, hb⟩
/-! ### ClassCounts -/
def cls (LL : List (List Int)) (k : Nat) : Int := ((classV LL k).length : Int)
def clsS (LL : List (List Int)) (m : Nat) : List Int := (List.range m).map (cls LL)
theorem clsS_succ (LL : List (List Int)) (m : Nat) : clsS LL (m + 1) = clsS LL m ++ [cls LL m] := by simp [clsS, List.range_succ]
theorem clsS_len (LL : List (List Int)) (m : Nat) : (clsS LL m).length = m := by simp [clsS]
open Classical in
noncomputable def ClassCountsV (LL : List (List Int)) (n : Int) : List Int := if CntOk LL n then clsS LL (n.toNat + 1) else []
theorem ClassCountsV_len (LL : List (List Int)) (n : Int) : (ClassCountsV LL n).length ≤ 7 := by
  unfold ClassCountsV
  split
  · rename_i h
    have := h.2
    rw [clsS_len]; omega
  · simp
def CntRows (LL : List (List Int)) (w : World) (B : Nat) (s : Sl) (m : Nat) : Prop := ∃ rs : List Sl, Own w B T_SSint s (rs.map Sl.v) ∧ rs.map (fun r => (r.n : Int)) = clsS LL m
theorem CntRows.n {LL w B s m} (h : CntRows LL w B s m) : s.n = m := by
  obtain ⟨rs, h1, h2⟩ := h
  have h3 := congrArg List.length h2
  rw [List.length_map, clsS_len] at h3
  have := h1.row.n
  simpa [h3] using this
theorem c_l12Class {w : World} {l : Sl} {LL : List (List Int)} (hl : RowSS w l LL) (hB : BasisOk LL) (n : Nat) (hn : n ≤ 6) :
    Calls PP F.spec_l12Class #[l.v, vI n] w fun e w' => ∃ s : Sl, e = .returned s.v ∧ CntRows LL w' w.heap.size s (n + 1) ∧ Below w.heap.size w w' := by
  have h0 := avoids_nil hB
  refine spec_l12Class.calls l n ?_
  rw [spec_l12Class.E_s]
  refine lit0 oneInt (B := w.heap.size) (Nat.le_refl _) ?_
  intro e0 w1 he0 hg1 _
  have hb1 := below_of_grow hg1
  refine lit1 oneSint (B := w.heap.size) hb1.size (One.sl e0) ?_
  intro lv w2 hlv hg2 _
  have hb2 := hb1.grown hg2 hb1.size (by simp)
  have hlv2 : OwnSS w2 w.heap.size lv [[]] := OwnSS.one_nil he0 hlv hg2
  refine lit1 oneSSint (B := w.heap.size) hb2.size (One.sl lv) ?_
  intro o w3 ho hg3 _
  have hb3 := hb2.grown hg3 hb2.size (by simp)
  have hlv3 : RowSS w3 lv (l12V LL 0) := (hlv2.grow (below_of_grow hg3)).row
  have hc0 : ∀ k, k ≤ 6 → (l12V LL k).length ≤ 46656 := fun k hk => by rw [l12V_len h0]; exact classV_len hk
  refine spec_l12Class.L4_rule _ _ _ _ _ _ _ (I := fun lv o i w' => 1 ≤ i ∧ i ≤ (n + 1 : Nat) ∧ Below w.heap.size w w' ∧ RowSS w' lv (l12V LL (i - 1).toNat) ∧ CntRows LL w' w.heap.size o i.toNat) (μ := fun _ _ i _ => ((n + 1 : Nat) - i).toNat)
    ⟨by omega, by omega, hb3, hlv3, [lv], ho, by
      have h5 := hlv3.n
      have h6 := l12V_len h0 0
      simp [clsS, cls, h5, h6]⟩ ?_
  rintro lv o i w' ⟨hi1, hi, hb, hlv, hout⟩
  rw [spec_l12Class.B4_s]
  refine bif_dec (fun h3 => ?_) (fun h3 => ?_)
  · obtain ⟨m, rfl⟩ : ∃ m : Nat, i = (m + 1 : Nat) := ⟨(i - 1).toNat, by omega⟩
    have em : (((m + 1 : Nat) : Int) - 1).toNat = m := by omega
    have em2 : (((m + 1 : Nat) : Int) + 1 - 1).toNat = m + 1 := by omega
    have em3 : (((m + 1 : Nat) : Int) + 1).toNat = m + 1 + 1 := by omega
    rw [em] at hlv
    rw [Int.toNat_natCast] at hout
    refine (c_l12Next (hl.grow hb) hB hlv m (by omega) (fun p hp => l12V_mem_len h0 hp) (fun p hp x hx => by
      have := mem_idn.1 (((mem_l12V h0).1 hp).1.mem_iff.1 hx); omega) (hc0 m (by omega))).mono ?_
    rintro e w4 ⟨x, rfl, hx, hb4⟩
    refine ⟨x, rfl, ?_⟩
    have hbw4 := hb.trans (hb4.mono hb.size)
    obtain ⟨rs, ho1, ho2⟩ := hout
    have ho4 := ho1.grow hb4
    refine append_one oneSSint ho4 hbw4.size (One.sl x) (by
      have := congrArg List.length ho2
      rw [List.length_map, clsS_len] at this
      rw [List.length_map]; omega) ?_
    intro o' w5 ho5 hg5 _
    obtain ⟨xs, hx⟩ := hx
    have hx5 := hx.keepsLt (keeps_grown hg5) (fun g hg => (ho1.lt g hg).2)
    refine ⟨x, o', ((m + 1 : Nat) : Int) + 1, by rw [w64_succ (by omega) (by omega)], ⟨by omega, by omega, hbw4.grown hg5 hbw4.size (fun g hg => (ho4.lt g hg).1), ?_, ?_⟩, by omega⟩
    · rw [em2]; exact hx5.row
    · refine ⟨rs ++ [x], by simpa using ho5, ?_⟩
      have hxn := hx5.n
      have h6 := l12V_len h0 (m + 1)
      rw [l12V] at h6
      rw [em3, clsS_succ, List.map_append, ho2, cls, ← h6]
      simp [hxn]
  · rw [spec_l12Class.A4_0_s]
    rw [show i.toNat = n + 1 by omega] at hout
    exact ⟨o, rfl, hout, hb⟩
theorem c_specClassCounts {w : World} {l : Sl} {LL : List (List Int)} (hl : RowSS w l LL) (hL : LL.length < 2^38) (ht : tot LL < 2^37) (n : Int) :
    Calls PP F.spec_ClassCounts #[l.v, vI n] w fun e w' => ∃ s : Sl, e = .returned s.v ∧ OwnI w' w.heap.size s (ClassCountsV LL n) ∧ Below w.heap.size w w' := by
  refine spec_ClassCounts.calls l n ?_
  rw [spec_ClassCounts.E_s]
  refine lit0 oneInt (B := w.heap.size) (Nat.le_refl _) ?_
  intro o w1 ho hg1 _
  have hb1 := below_of_grow hg1
  refine (c_specIsBasis (hl.grow hb1) hL ht).mono ?_
  rintro e w2 ⟨rfl, hb12⟩
  refine ⟨_, rfl, ?_⟩
  have hb2 := hb1.trans (hb12.mono hb1.size)
  have ho2 : OwnI w2 w.heap.size o [] := Own.grow ho hb12
  refine bif_intro (fun h => ?_) (fun h => ?_)
  · have h : ¬ BasisOk LL := by simpa [IsBasisV] using h
    exact ⟨o, rfl, by rw [ClassCountsV, if_neg (fun hh => h hh.1)]; exact ho2, hb2⟩
  have hB : BasisOk LL := by simpa [IsBasisV] using h
  refine Pure.pcall1 (s := .bool) (c_l1In n 0 6) ?_
  refine bif_intro (fun h => ?_) (fun h => ?_)
  · have h : ¬ (0 ≤ n ∧ n ≤ 6) := by simp at h; omega
    exact ⟨o, rfl, by rw [ClassCountsV, if_neg (fun hh => h hh.2)]; exact ho2, hb2⟩
  have hn : 0 ≤ n ∧ n ≤ 6 := by simpa using h
  have hV : ClassCountsV LL n = clsS LL (n.toNat + 1) := by rw [ClassCountsV, if_pos ⟨hB, hn⟩]
  rw [hV]
  obtain ⟨n, rfl⟩ : ∃ m : Nat, n = m := ⟨n.toNat, by omega⟩
  rw [Int.toNat_natCast]
  refine (c_l12Class (hl.grow hb2) hB n (by omega)).mono ?_
  rintro e w3 ⟨t, rfl, hto, hb23⟩
  refine ⟨t, rfl, ?_⟩
  have hb3 := hb2.trans (hb23.mono hb2.size)
  have htn := hto.n
  obtain ⟨rs, ht1, ht2⟩ := hto
  have hrl : rs.length = n + 1 := by
    have := congrArg List.length ht2
    rw [List.length_map, clsS_len] at this
    exact this
  refine spec_ClassCounts.L6_rule _ _ _ _ _ (I := fun o i w' => 0 ≤ i ∧ i ≤ (n + 1 : Nat) ∧ Below w.heap.size w w' ∧ Own w' w2.heap.size T_SSint t (rs.map Sl.v) ∧ OwnI w' w.heap.size o (clsS LL i.toNat)) (μ := fun _ i _ => ((n + 1 : Nat) - i).toNat)
    ⟨by omega, by omega, hb3, ht1, by have := Own.grow ho2 hb23; simpa [OwnI, clsS] using this⟩ ?_
  rintro o i w' ⟨hi0, hi, hb, htw, how⟩
  rw [spec_ClassCounts.B6_s, htn]
  refine bif_dec (fun h3 => ?_) (fun h3 => ?_)
  · have hlt : i.toNat < rs.length := by omega
    refine Row.get (sh := .sl) (r := rs[i.toNat]) htw.row hi0 (by rw [List.getElem?_map, List.getElem?_eq_getElem hlt]; rfl) ?_
    have hxn : (rs[i.toNat].n : Int) = cls LL i.toNat := by
      have h5 : (rs.map (fun r => (r.n : Int)))[i.toNat]? = (clsS LL (n + 1))[i.toNat]? := by rw [ht2]
      rw [List.getElem?_map, List.getElem?_eq_getElem hlt, clsS, List.getElem?_map, List.getElem?_range (by omega)] at h5
      simpa using h5
    simp only [hxn]
    refine append_int how hb.size (by rw [clsS_len]; omega) ?_
    intro o' w4 ho4 hg4 _
    refine ⟨o', i + 1, by rw [w64_succ hi0 (by omega)], ⟨by omega, by omega, hb.grown hg4 hb.size (fun g hg => (how.lt g hg).1), ?_, ?_⟩, by omega⟩
    · exact htw.kept hg4 fun g e1 e2 => (htw.apt how ne_SS_int) g e1 e2
    · rw [show (i + 1).toNat = i.toNat + 1 by omega, clsS_succ]
      exact ho4
  · rw [spec_ClassCounts.A6_0_s]
    rw [show i.toNat = n + 1 by omega] at how
    exact ⟨o, rfl, how, hb⟩
theorem Own.some {w B e s vs} (h : Own w B e s vs) (hne : vs ≠ []) : s.a.isNone = false := by
  have hn := h.n
  have hnc := h.nc
  have h0 : 0 < vs.length := List.length_pos_iff.2 hne
  rcases h.at_ with hc | ⟨g, cur, ha, _⟩
  · omega
  · rw [ha]; rfl
end Go.Proofs.YteplokddaebbeaaGreat

/- A rule told of a class makes the class: plain law. No program in sight. -/
namespace Go.Proofs.YteplokddaebbeaaGreat
open Go
set_option maxRecDepth 100000

theorem children_len (LL : List (List Int)) (p : List Int) : (childrenV LL p).length = (sitesV LL p).length := by simp [childrenV]
theorem class_zero {LL : List (List Int)} (h : BasisOk LL) : classV LL 0 = [[]] := by
  show (permsV 0).filter (avoidsV LL) = [[]]
  have e : permsV 0 = [[]] := rfl
  rw [e, List.filter_cons, if_pos (avoids_nil h)]; rfl
theorem sum_perm : ∀ {a b : List Int}, a.Perm b → a.sum = b.sum := by
  intro a b h
  induction h with
  | nil => rfl
  | cons x _ ih => simp [ih]
  | swap x y l => simp only [List.sum_cons]; omega
  | trans _ _ h1 h2 => exact h1.trans h2
theorem sum_cast : ∀ l : List Nat, ((l.map fun (x : Nat) => (x : Int)).sum) = (l.sum : Nat)
  | [] => rfl
  | x :: l => by simp [sum_cast l]
theorem labs_total (LL : List (List Int)) (k : Nat) : (labsV LL (classV LL k)).sum = ((classV LL (k + 1)).length : Int) := by
  rw [labsV, sum_perm (sortI_perm _), ← sites_total k, ← sum_cast, List.map_map]
  rfl
theorem flatMap_perm {α β : Type} {f g : α → List β} : ∀ (l : List α), (∀ a ∈ l, (f a).Perm (g a)) → (l.flatMap f).Perm (l.flatMap g)
  | [], _ => List.Perm.refl _
  | a :: l, h => by
    rw [List.flatMap_cons, List.flatMap_cons]
    exact (h a (by simp)).append (flatMap_perm l fun b hb => h b (by simp [hb]))
theorem headIs_hd (x : Int) (r : List Int) : headIs x r = decide (hd r = x) := by
  unfold headIs hd
  exact Bool.beq_eq_decide_eq _ _
theorem ruleV_of {R : List (List Int)} (h : Str R) {r : List Int} (hr : r ∈ R) : ruleV R (hd r) = r.drop 1 := by
  have h1 : R.findIdx (headIs (hd r)) < R.length := List.findIdx_lt_length_of_exists ⟨r, hr, by rw [headIs_hd]; simp⟩
  have h2 : headIs (hd r) (R[R.findIdx (headIs (hd r))]'h1) = true := List.findIdx_getElem (w := h1)
  rw [headIs_hd] at h2
  have h3 := str_one h (List.getElem_mem h1) hr (of_decide_eq_true h2)
  rw [ruleV, if_pos h1, getD_SS h1, h3]
theorem it_perm {LL R : List (List Int)} {n : Nat} (hB : BasisOk LL) (hT : Told (ents LL (n + 1)) R) : ∀ k, k ≤ n + 1 → (itR R (siteN LL []) k).Perm ((classV LL k).map (siteN LL))
  | 0, _ => by rw [class_zero hB]; exact List.Perm.refl _
  | k + 1, hk => by
    have ih := it_perm hB hT k (by omega)
    rw [itR, stepR]
    refine (List.Perm.flatMap_right (ruleV R) ih).trans ?_
    rw [List.flatMap_map]
    have h1 : ((classV LL k).flatMap fun a => ruleV R (siteN LL a)).Perm ((classV LL k).flatMap fun a => (childrenV LL a).map (siteN LL)) := by
      refine flatMap_perm _ fun p hp => ?_
      have hm : ent LL p ∈ R := (hT.2 _).2 (ents_mem_of (by omega) hp)
      have h2 := ruleV_of hT.1 hm
      rw [hd_ent] at h2
      rw [h2]
      exact sortI_perm _
    refine h1.trans ?_
    rw [← List.map_flatMap]
    exact (next_class k (List.Perm.refl _)).map _
theorem rule_ok {LL R : List (List Int)} {n : Int} (h0 : 0 ≤ n) (h5 : n ≤ 5) (hT : Told (ents LL (n.toNat + 1)) R) : RuleOk R n := by
  have h7 := told_short (n := n.toNat + 1) (by omega) (fun z hz => hz) hT
  exact ⟨by omega, fun r hr => by
    have := ent_facts (n := n.toNat + 1) (by omega) ((hT.2 r).1 hr)
    exact ⟨this.2.2.2, by have := this.2.2.1; omega⟩, h0, by omega⟩
theorem class_small {LL : List (List Int)} {k : Nat} (hk : k ≤ 5) : (classV LL k).length ≤ 5000 := by
  have h1 : (classV LL k).length ≤ (permsV k).length := List.length_filter_le _ _
  have h2 := permsV_length k
  have h3 : k ^ k ≤ 5 ^ 5 := Nat.le_trans (Nat.pow_le_pow_left hk _) (Nat.pow_le_pow_right (by omega) hk)
  omega
theorem rule_counts {LL R : List (List Int)} {n : Int} (hB : BasisOk LL) (h0 : 0 ≤ n) (h5 : n ≤ 5) (hT : Told (ents LL (n.toNat + 1)) R) : RuleCountsV R (LabelOfV LL []) n = ClassCountsV LL n := by
  have hL : LabelOfV LL [] = siteN LL [] := by
    rw [LabelOfV, if_pos ⟨⟨hB, isP_nil, avoids_nil hB⟩, by simp⟩]; rfl
  have hlen : ∀ k, k ≤ n.toNat → (itR R (siteN LL []) k).length = (classV LL k).length := fun k hk => by
    rw [(it_perm hB hT k (by omega)).length_eq, List.length_map]
  rw [hL, RuleCountsV, if_pos ⟨rule_ok h0 h5 hT, fun k hk => by rw [hlen k (by omega)]; exact class_small (by omega)⟩, ClassCountsV, if_pos ⟨hB, h0, by omega⟩]
  refine List.map_congr_left fun k hk => ?_
  rw [lenR, cls, hlen k (by have := List.mem_range.1 hk; omega)]
end Go.Proofs.YteplokddaebbeaaGreat

/- What each function does, step by step, written by a program (Gen.lean); each equation is checked by the kernel. -/
namespace Go.Proofs.YteplokddaebbeaaGreat
open Go
set_option linter.unusedVariables false
set_option maxRecDepth 100000
namespace impl_RuleUpTo
@[reducible] def cfg : Cfg := ⟨87, [(8, [0, 6, 30, 31, 36, 37, 38]), (5, [0, 6, 30, 31]), (20, [14, 71])], [(3, [0, 6, 30, 31, 36, 37, 38]), (2, [0, 6, 30, 31]), (1, [0, 6, 30, 31]), (0, [6]), (5, [14, 71]), (4, [14])], [], [4, 5], [], [13, 12, 21, 89, 36, 108, 74, 75, 104, 78, 125], [73, 117, 103, 46, 4, 30, 40]⟩
def q4 (pr : Prims) (R : Ending → World → Prop) : Exit → Env → World → Prop := fun ex e w => normQ ex (fun e w => contE pr cfg (sub (codeOf Tryz.f6) [1, 1, 1, 1]) (fun e w => wpC pr PP cfg (DD pr) (sub (codeOf Tryz.f6) [1, 1, 1, 1]) (retQ Tryz.f6.results.toList R) e w) e w) (retQ Tryz.f6.results.toList R) e w
def q5 (pr : Prims) (R : Ending → World → Prop) : Exit → Env → World → Prop := fun ex e w => blockQ ex 0 (q4 pr R) e w
def q6 (pr : Prims) (k : Env → World → Prop) (Q : Exit → Env → World → Prop) : Exit → Env → World → Prop := fun ex e w => normQ ex (fun e w => contE pr cfg (sub (codeOf Tryz.f6) [1, 1, 1, 0, 1, 0, 0, 1, 1, 1]) (fun e w => wpC pr PP cfg (DD pr) (sub (codeOf Tryz.f6) [1, 1, 1, 0, 1, 0, 0, 1, 1, 1]) (fun ex e w => normQ ex (fun e' w' => k (Env.restr e' (lookN cfg.loops (keyOf (sub (codeOf Tryz.f6) [1, 1, 1, 0, 1, 0, 0])))) w') Q e w) e w) e w) (fun ex e w => normQ ex (fun e' w' => k (Env.restr e' (lookN cfg.loops (keyOf (sub (codeOf Tryz.f6) [1, 1, 1, 0, 1, 0, 0])))) w') Q e w) e w
def q7 (pr : Prims) (k : Env → World → Prop) (Q : Exit → Env → World → Prop) : Exit → Env → World → Prop := fun ex e w => blockQ ex 1 (q6 pr k Q) e w
def q10 (pr : Prims) (k : Env → World → Prop) (Q : Exit → Env → World → Prop) : Exit → Env → World → Prop := fun ex e w => blockQ ex 2 (q7 pr k Q) e w
def q28 (pr : Prims) (R : Ending → World → Prop) : Exit → Env → World → Prop := fun ex e w => normQ ex (fun e w => contE pr cfg (sub (codeOf Tryz.f6) [1, 1, 1, 1, 1, 1]) (fun e w => wpC pr PP cfg (DD pr) (sub (codeOf Tryz.f6) [1, 1, 1, 1, 1, 1]) (retQ Tryz.f6.results.toList R) e w) e w) (retQ Tryz.f6.results.toList R) e w
def q31 (pr : Prims) (R : Ending → World → Prop) : Exit → Env → World → Prop := fun ex e w => blockQ ex 4 (q28 pr R) e w
def emb5 (list_0 : Sl) (known_6 : (Option Nat)) (t30 : Int) (t31 : Int) : Env := [(0, Sl.v list_0), (6, .map known_6), (30, vI t30), (31, vI t31)]
def emb8 (list_0 : Sl) (known_6 : (Option Nat)) (t30 : Int) (t31 : Int) (t36 : Sl) (t37 : Int) (t38 : Int) : Env := [(0, Sl.v list_0), (6, .map known_6), (30, vI t30), (31, vI t31), (36, Sl.v t36), (37, vI t37), (38, vI t38)]
def x2 (list_0 : Sl) (known_6 : (Option Nat)) (t30 : Int) (t31 : Int) : Env := [(0, Sl.v list_0), (6, .map known_6), (30, vI t30), (31, vI t31)]
def x0 (known_6 : (Option Nat)) : Env := [(6, .map known_6)]
def emb20 (out_14 : Sl) (t71 : Value) : Env := [(14, Sl.v out_14), (71, t71)]
def x4 (out_14 : Sl) : Env := [(14, Sl.v out_14)]
def S8 (pr : Prims) (Q : Exit → Env → World → Prop) : (Env → World → Prop) → Env → World → Prop := fun k e w => wpC pr PP cfg (DD pr) (sub (codeOf Tryz.f6) [1, 1, 1, 0, 1, 0, 0, 1, 1, 0, 0, 1, 1, 0, 0]) (fun ex e w => normQ ex (fun e' w' => k (Env.restr e' (lookN cfg.loops (keyOf (sub (codeOf Tryz.f6) [1, 1, 1, 0, 1, 0, 0, 1, 1, 0, 0, 1, 1, 0, 0])))) w') Q e w) e w
def S5 (pr : Prims) (Q : Exit → Env → World → Prop) : (Env → World → Prop) → Env → World → Prop := fun k e w => wpC pr PP cfg (DD pr) (sub (codeOf Tryz.f6) [1, 1, 1, 0, 1, 0, 0]) (fun ex e w => normQ ex (fun e' w' => k (Env.restr e' (lookN cfg.loops (keyOf (sub (codeOf Tryz.f6) [1, 1, 1, 0, 1, 0, 0])))) w') Q e w) e w
def S20 (pr : Prims) (Q : Exit → Env → World → Prop) : (Env → World → Prop) → Env → World → Prop := fun k e w => wpC pr PP cfg (DD pr) (sub (codeOf Tryz.f6) [1, 1, 1, 1, 1, 0, 1, 0, 0]) (fun ex e w => normQ ex (fun e' w' => k (Env.restr e' (lookN cfg.loops (keyOf (sub (codeOf Tryz.f6) [1, 1, 1, 1, 1, 0, 1, 0, 0])))) w') Q e w) e w
def B8 (pr : Prims) (list_0 : Sl) (known_6 : (Option Nat)) (t30 : Int) (t31 : Int) (t36 : Sl) (t37 : Int) (t38 : Int) (w : World) (k : Env → World → Prop) (Q : Exit → Env → World → Prop) : Prop :=
  S8 pr Q k (emb8 list_0 known_6 t30 t31 t36 t37 t38) w
def L8 (pr : Prims) (list_0 : Sl) (known_6 : (Option Nat)) (t30 : Int) (t31 : Int) (t36 : Sl) (t37 : Int) (t38 : Int) (w : World) (Q : Exit → Env → World → Prop) : Prop :=
  pr.loop (S8 pr Q) (emb8 list_0 known_6 t30 t31 t36 t37 t38) w
def B5 (pr : Prims) (list_0 : Sl) (known_6 : (Option Nat)) (t30 : Int) (t31 : Int) (w : World) (k : Env → World → Prop) (Q : Exit → Env → World → Prop) : Prop :=
  S5 pr Q k (emb5 list_0 known_6 t30 t31) w
def L5 (pr : Prims) (list_0 : Sl) (known_6 : (Option Nat)) (t30 : Int) (t31 : Int) (w : World) (Q : Exit → Env → World → Prop) : Prop :=
  pr.loop (S5 pr Q) (emb5 list_0 known_6 t30 t31) w
def B20 (pr : Prims) (out_14 : Sl) (t71 : Value) (w : World) (k : Env → World → Prop) (Q : Exit → Env → World → Prop) : Prop :=
  S20 pr Q k (emb20 out_14 t71) w
def L20 (pr : Prims) (out_14 : Sl) (t71 : Value) (w : World) (Q : Exit → Env → World → Prop) : Prop :=
  pr.loop (S20 pr Q) (emb20 out_14 t71) w
def E (pr : Prims) (list_0 : Sl) (n_1 : Int) (w : World) (R : Ending → World → Prop) : Prop :=
  wpC pr PP cfg (DD pr) (codeOf Tryz.f6) (retQ Tryz.f6.results.toList R) (argE 0 [Sl.v list_0, vI n_1]) w
theorem B8_eq (pr : Prims) (list_0 : Sl) (known_6 : (Option Nat)) (t30 : Int) (t31 : Int) (t36 : Sl) (t37 : Int) (t38 : Int) (w : World) (k : Env → World → Prop) (Q : Exit → Env → World → Prop) : B8 pr list_0 known_6 t30 t31 t36 t37 t38 w k Q = (
  bif decide (t38 < t37) then (
  pr.idxK 1 t36 t38 fun (a11 : Addr) =>
  pr.load1 .sl a11 w fun (ξ12 : Sl) =>
  pr.call1 .sl PP F.impl_active #[Sl.v list_0, Sl.v ξ12] w fun (ρ13 : Sl) ω14 =>
  pr.call1 .sl PP F.impl_children #[Sl.v list_0, Sl.v ξ12] ω14 fun (ρ15 : Sl) ω16 =>
  pr.call1 .sl PP F.impl_labels #[Sl.v list_0, Sl.v ρ15] ω16 fun (ρ17 : Sl) ω18 =>
  pr.sem2 .sl .bool PP (Instr.lookup T_Mint_Sint (.map known_6) (vI (ρ13.n : Int)) true) ω18 fun (ρ19 : Sl) (ρ20 : Bool) ω21 =>
  bif ρ20 then (
  pr.call1 .bool PP F.slices_Equal___int_int_ #[Sl.v ρ19, Sl.v ρ17] ω21 fun (ρ22 : Bool) ω23 =>
  bif !ρ22 then (
  Q .ret [(4, Sl.v Sl.nil), (5, .bool false)] ω23)
  else (
  pr.sem0 PP (Instr.mapUpdate T_Mint_Sint (.map known_6) (vI (ρ13.n : Int)) (Sl.v ρ17)) ω23 fun ω24 =>
  k (emb8 list_0 known_6 t30 t31 t36 t37 (w64 (t38 + 1))) ω24))
  else (
  pr.sem0 PP (Instr.mapUpdate T_Mint_Sint (.map known_6) (vI (ρ13.n : Int)) (Sl.v ρ17)) ω21 fun ω25 =>
  k (emb8 list_0 known_6 t30 t31 t36 t37 (w64 (t38 + 1))) ω25))
  else (
  Q (.exit 2) (x2 list_0 known_6 t30 t31) w)) := by kernel_rfl
theorem B8_s (list_0 : Sl) (known_6 : (Option Nat)) (t30 : Int) (t31 : Int) (t36 : Sl) (t37 : Int) (t38 : Int) (w : World) (k : Env → World → Prop) (Q : Exit → Env → World → Prop) : B8 std list_0 known_6 t30 t31 t36 t37 t38 w k Q = (
  bif decide (t38 < t37) then (
  idxK 1 t36 t38 fun (a11 : Addr) =>
  load1 .sl a11 w fun (ξ12 : Sl) =>
  call1 .sl PP F.impl_active #[Sl.v list_0, Sl.v ξ12] w fun (ρ13 : Sl) ω14 =>
  call1 .sl PP F.impl_children #[Sl.v list_0, Sl.v ξ12] ω14 fun (ρ15 : Sl) ω16 =>
  call1 .sl PP F.impl_labels #[Sl.v list_0, Sl.v ρ15] ω16 fun (ρ17 : Sl) ω18 =>
  sem2 .sl .bool PP (Instr.lookup T_Mint_Sint (.map known_6) (vI (ρ13.n : Int)) true) ω18 fun (ρ19 : Sl) (ρ20 : Bool) ω21 =>
  bif ρ20 then (
  call1 .bool PP F.slices_Equal___int_int_ #[Sl.v ρ19, Sl.v ρ17] ω21 fun (ρ22 : Bool) ω23 =>
  bif !ρ22 then (
  Q .ret [(4, Sl.v Sl.nil), (5, .bool false)] ω23)
  else (
  sem0 PP (Instr.mapUpdate T_Mint_Sint (.map known_6) (vI (ρ13.n : Int)) (Sl.v ρ17)) ω23 fun ω24 =>
  k (emb8 list_0 known_6 t30 t31 t36 t37 (w64 (t38 + 1))) ω24))
  else (
  sem0 PP (Instr.mapUpdate T_Mint_Sint (.map known_6) (vI (ρ13.n : Int)) (Sl.v ρ17)) ω21 fun ω25 =>
  k (emb8 list_0 known_6 t30 t31 t36 t37 (w64 (t38 + 1))) ω25))
  else (
  Q (.exit 2) (x2 list_0 known_6 t30 t31) w)) := B8_eq std list_0 known_6 t30 t31 t36 t37 t38 w k Q
theorem L8_rule (list_0 : Sl) (known_6 : (Option Nat)) (t30 : Int) (t31 : Int) (t36 : Sl) (t37 : Int) (t38 : Int) (w : World) (Q : Exit → Env → World → Prop) (I : Int → World → Prop) (μ : Int → World → Nat) (h0 : I t38 w)
    (h : ∀ (t38 : Int) (w' : World), I t38 w' → B8 std list_0 known_6 t30 t31 t36 t37 t38 w' (fun e2 w2 => ∃ t38_n, e2 = emb8 list_0 known_6 t30 t31 t36 t37 t38_n ∧ I t38_n w2 ∧ μ t38_n w2 < μ t38 w') Q) :
    L8 std list_0 known_6 t30 t31 t36 t37 t38 w Q := by
  unfold L8
  refine LoopE.intro (σ := Int) (step := S8 std Q) (fun s => emb8 list_0 known_6 t30 t31 t36 t37 s) (fun s w => I s w) (fun s w => μ s w) t38 rfl h0 ?_
  intro s w' hI
  have h1 := h s w' hI
  unfold B8 at h1
  exact h1
theorem A8_2_eq (pr : Prims) (list_0 : Sl) (known_6 : (Option Nat)) (t30 : Int) (t31 : Int) (w : World) (k : Env → World → Prop) (Q : Exit → Env → World → Prop) : (q10 pr k Q) (.exit 2) (x2 list_0 known_6 t30 t31) w = (
  k (emb5 list_0 known_6 t30 (w64 (t31 + 1))) w) := by kernel_rfl
theorem A8_2_s (list_0 : Sl) (known_6 : (Option Nat)) (t30 : Int) (t31 : Int) (w : World) (k : Env → World → Prop) (Q : Exit → Env → World → Prop) : (q10 std k Q) (.exit 2) (x2 list_0 known_6 t30 t31) w = (
  k (emb5 list_0 known_6 t30 (w64 (t31 + 1))) w) := A8_2_eq std list_0 known_6 t30 t31 w k Q
theorem R8_eq (pr : Prims) (v4 : Value) (v5 : Value) (w : World) (k : Env → World → Prop) (Q : Exit → Env → World → Prop) : (q10 pr k Q) .ret [(4, v4), (5, v5)] w = (
  Q .ret [(4, v4), (5, v5)] w) := by kernel_rfl
theorem R8_s (v4 : Value) (v5 : Value) (w : World) (k : Env → World → Prop) (Q : Exit → Env → World → Prop) : (q10 std k Q) .ret [(4, v4), (5, v5)] w = (
  Q .ret [(4, v4), (5, v5)] w) := R8_eq std v4 v5 w k Q
theorem B5_eq (pr : Prims) (list_0 : Sl) (known_6 : (Option Nat)) (t30 : Int) (t31 : Int) (w : World) (k : Env → World → Prop) (Q : Exit → Env → World → Prop) : B5 pr list_0 known_6 t30 t31 w k Q = (
  bif decide (t31 < t30) then (
  pr.call1 .sl PP F.impl_class #[Sl.v list_0, vI t31] w fun (ρ8 : Sl) ω9 =>
  L8 pr list_0 known_6 t30 t31 ρ8 (ρ8.n : Int) 0 ω9 (q10 pr k Q))
  else (
  Q (.exit 0) (x0 known_6) w)) := by kernel_rfl
theorem B5_s (list_0 : Sl) (known_6 : (Option Nat)) (t30 : Int) (t31 : Int) (w : World) (k : Env → World → Prop) (Q : Exit → Env → World → Prop) : B5 std list_0 known_6 t30 t31 w k Q = (
  bif decide (t31 < t30) then (
  call1 .sl PP F.impl_class #[Sl.v list_0, vI t31] w fun (ρ8 : Sl) ω9 =>
  L8 std list_0 known_6 t30 t31 ρ8 (ρ8.n : Int) 0 ω9 (q10 std k Q))
  else (
  Q (.exit 0) (x0 known_6) w)) := B5_eq std list_0 known_6 t30 t31 w k Q
theorem L5_rule (list_0 : Sl) (known_6 : (Option Nat)) (t30 : Int) (t31 : Int) (w : World) (Q : Exit → Env → World → Prop) (I : Int → World → Prop) (μ : Int → World → Nat) (h0 : I t31 w)
    (h : ∀ (t31 : Int) (w' : World), I t31 w' → B5 std list_0 known_6 t30 t31 w' (fun e2 w2 => ∃ t31_n, e2 = emb5 list_0 known_6 t30 t31_n ∧ I t31_n w2 ∧ μ t31_n w2 < μ t31 w') Q) :
    L5 std list_0 known_6 t30 t31 w Q := by
  unfold L5
  refine LoopE.intro (σ := Int) (step := S5 std Q) (fun s => emb5 list_0 known_6 t30 s) (fun s w => I s w) (fun s w => μ s w) t31 rfl h0 ?_
  intro s w' hI
  have h1 := h s w' hI
  unfold B5 at h1
  exact h1
theorem B20_eq (pr : Prims) (out_14 : Sl) (t71 : Value) (w : World) (k : Env → World → Prop) (Q : Exit → Env → World → Prop) : B20 pr out_14 t71 w k Q = (
  nextK PP t71 false T___ w (fun ω32 =>
  Q (.exit 4) (x4 out_14) ω32) (fun (k33 : Value) (v34 : Value) ω35 =>
  entryK PP t71 ω35 fun (k36 : Value) (v37 : Value) ω38 =>
  pr.sem1 .sl PP (Instr.buildSlice T_Sint 1 #[(0, k36)]) ω38 fun (ρ39 : Sl) ω40 =>
  pr.sem1 .sl PP (Builtin.append_ #[T_Sint, T_Sint] T_Sint #[Sl.v ρ39, v37]) ω40 fun (ρ41 : Sl) ω42 =>
  pr.sem1 .sl PP (Instr.buildSlice T_SSint 1 #[(0, Sl.v ρ41)]) ω42 fun (ρ43 : Sl) ω44 =>
  pr.sem1 .sl PP (Builtin.append_ #[T_SSint, T_SSint] T_SSint #[Sl.v out_14, Sl.v ρ43]) ω44 fun (ρ45 : Sl) ω46 =>
  k (emb20 ρ45 t71) ω46)) := by kernel_rfl
theorem B20_s (out_14 : Sl) (t71 : Value) (w : World) (k : Env → World → Prop) (Q : Exit → Env → World → Prop) : B20 std out_14 t71 w k Q = (
  nextK PP t71 false T___ w (fun ω32 =>
  Q (.exit 4) (x4 out_14) ω32) (fun (k33 : Value) (v34 : Value) ω35 =>
  entryK PP t71 ω35 fun (k36 : Value) (v37 : Value) ω38 =>
  sem1 .sl PP (Instr.buildSlice T_Sint 1 #[(0, k36)]) ω38 fun (ρ39 : Sl) ω40 =>
  sem1 .sl PP (Builtin.append_ #[T_Sint, T_Sint] T_Sint #[Sl.v ρ39, v37]) ω40 fun (ρ41 : Sl) ω42 =>
  sem1 .sl PP (Instr.buildSlice T_SSint 1 #[(0, Sl.v ρ41)]) ω42 fun (ρ43 : Sl) ω44 =>
  sem1 .sl PP (Builtin.append_ #[T_SSint, T_SSint] T_SSint #[Sl.v out_14, Sl.v ρ43]) ω44 fun (ρ45 : Sl) ω46 =>
  k (emb20 ρ45 t71) ω46)) := B20_eq std out_14 t71 w k Q
theorem L20_rule (out_14 : Sl) (t71 : Value) (w : World) (Q : Exit → Env → World → Prop) (I : Sl → World → Prop) (μ : Sl → World → Nat) (h0 : I out_14 w)
    (h : ∀ (out_14 : Sl) (w' : World), I out_14 w' → B20 std out_14 t71 w' (fun e2 w2 => ∃ out_14_n, e2 = emb20 out_14_n t71 ∧ I out_14_n w2 ∧ μ out_14_n w2 < μ out_14 w') Q) :
    L20 std out_14 t71 w Q := by
  unfold L20
  refine LoopE.intro (σ := Sl) (step := S20 std Q) (fun s => emb20 s t71) (fun s w => I s w) (fun s w => μ s w) out_14 rfl h0 ?_
  intro s w' hI
  have h1 := h s w' hI
  unfold B20 at h1
  exact h1
theorem A20_4_eq (pr : Prims) (out_14 : Sl) (w : World) (R : Ending → World → Prop) : (q31 pr R) (.exit 4) (x4 out_14) w = (
  pr.call0  PP F.slices_SortFunc_____int___int_ #[Sl.v out_14, .func (.func F.slices_Compare___int_int_) #[] #[]] w fun ω47 =>
  R (.returned (.tuple #[Sl.v out_14, .bool true])) ω47) := by kernel_rfl
theorem A20_4_s (out_14 : Sl) (w : World) (R : Ending → World → Prop) : (q31 std R) (.exit 4) (x4 out_14) w = (
  call0  PP F.slices_SortFunc_____int___int_ #[Sl.v out_14, .func (.func F.slices_Compare___int_int_) #[] #[]] w fun ω47 =>
  R (.returned (.tuple #[Sl.v out_14, .bool true])) ω47) := A20_4_eq std out_14 w R
theorem A5_0_eq (pr : Prims) (known_6 : (Option Nat)) (w : World) (R : Ending → World → Prop) : (q5 pr R) (.exit 0) (x0 known_6) w = (
  pr.sem1 .sl PP (Instr.buildSlice T_SSint 0 #[]) w fun (ρ26 : Sl) ω27 =>
  pr.sem1 .any PP (Instr.range T_Mint_Sint (.map known_6)) ω27 fun (ρ29 : Value) ω30 =>
  L20 pr ρ26 ρ29 ω30 (q31 pr R)) := by kernel_rfl
theorem A5_0_s (known_6 : (Option Nat)) (w : World) (R : Ending → World → Prop) : (q5 std R) (.exit 0) (x0 known_6) w = (
  sem1 .sl PP (Instr.buildSlice T_SSint 0 #[]) w fun (ρ26 : Sl) ω27 =>
  sem1 .any PP (Instr.range T_Mint_Sint (.map known_6)) ω27 fun (ρ29 : Value) ω30 =>
  L20 std ρ26 ρ29 ω30 (q31 std R)) := A5_0_eq std known_6 w R
theorem R5_eq (pr : Prims) (v4 : Value) (v5 : Value) (w : World) (R : Ending → World → Prop) : (q5 pr R) .ret [(4, v4), (5, v5)] w = (
  R (.returned (.tuple #[v4, v5])) w) := by kernel_rfl
theorem R5_s (v4 : Value) (v5 : Value) (w : World) (R : Ending → World → Prop) : (q5 std R) .ret [(4, v4), (5, v5)] w = (
  R (.returned (.tuple #[v4, v5])) w) := R5_eq std v4 v5 w R
theorem E_eq (pr : Prims) (list_0 : Sl) (n_1 : Int) (w : World) (R : Ending → World → Prop) : E pr list_0 n_1 w R = (
  pr.call1 .bool PP F.impl_IsBasis #[Sl.v list_0] w fun (ρ0 : Bool) ω1 =>
  bif !ρ0 then (
  R (.returned (.tuple #[Sl.v Sl.nil, .bool false])) ω1)
  else (
  bif decide (n_1 < 0) then (
  R (.returned (.tuple #[Sl.v Sl.nil, .bool false])) ω1)
  else (
  bif decide (n_1 > 5) then (
  R (.returned (.tuple #[Sl.v Sl.nil, .bool false])) ω1)
  else (
  pr.sem1 .map PP (Instr.makeMap T_Mint_Sint none) ω1 fun (ρ2 : (Option Nat)) ω3 =>
  L5 pr list_0 ρ2 (w64 (n_1 + 1)) 0 ω3 (q5 pr R))))) := by kernel_rfl
theorem E_s (list_0 : Sl) (n_1 : Int) (w : World) (R : Ending → World → Prop) : E std list_0 n_1 w R = (
  call1 .bool PP F.impl_IsBasis #[Sl.v list_0] w fun (ρ0 : Bool) ω1 =>
  bif !ρ0 then (
  R (.returned (.tuple #[Sl.v Sl.nil, .bool false])) ω1)
  else (
  bif decide (n_1 < 0) then (
  R (.returned (.tuple #[Sl.v Sl.nil, .bool false])) ω1)
  else (
  bif decide (n_1 > 5) then (
  R (.returned (.tuple #[Sl.v Sl.nil, .bool false])) ω1)
  else (
  sem1 .map PP (Instr.makeMap T_Mint_Sint none) ω1 fun (ρ2 : (Option Nat)) ω3 =>
  L5 std list_0 ρ2 (w64 (n_1 + 1)) 0 ω3 (q5 std R))))) := E_eq std list_0 n_1 w R
theorem drawsOk : drawsOk PP cfg okD (codeOf Tryz.f6) = true := by kernel_rfl
theorem calls (list_0 : Sl) (n_1 : Int) {w : World} {R : Ending → World → Prop} (h : E std list_0 n_1 w R) : Calls PP F.impl_RuleUpTo #[Sl.v list_0, vI n_1] w R :=
  calls_of noCount mixed drawOk Tryz.func6 rfl (c := cfg) (args := [Sl.v list_0, vI n_1]) rfl (Nat.le_of_ble_eq_true (by kernel_rfl)) drawsOk h
end impl_RuleUpTo

namespace spec_RuleUpTo
@[reducible] def cfg : Cfg := ⟨63, [(9, [0, 1, 6, 7, 8, 9]), (5, [0, 1, 6, 7])], [(3, [0, 1, 6, 7, 8, 9]), (2, [0, 1, 6, 7]), (1, [0, 1, 6, 7]), (0, [6])], [(12, [0, 1, 6, 7, 8, 9, 10])], [4, 5], [], [13, 12, 21, 89, 36, 108, 74, 75, 104, 78, 125], [73, 117, 103, 46, 4, 30, 40]⟩
def q9 (pr : Prims) (R : Ending → World → Prop) : Exit → Env → World → Prop := fun ex e w => normQ ex (fun e w => contE pr cfg (sub (codeOf Tryz.f7) [1, 1, 1, 1]) (fun e w => wpC pr PP cfg (DD pr) (sub (codeOf Tryz.f7) [1, 1, 1, 1]) (retQ Tryz.f7.results.toList R) e w) e w) (retQ Tryz.f7.results.toList R) e w
def q10 (pr : Prims) (R : Ending → World → Prop) : Exit → Env → World → Prop := fun ex e w => blockQ ex 0 (q9 pr R) e w
def q11 (pr : Prims) (k : Env → World → Prop) (Q : Exit → Env → World → Prop) : Exit → Env → World → Prop := fun ex e w => normQ ex (fun e w => contE pr cfg (sub (codeOf Tryz.f7) [1, 1, 1, 0, 1, 0, 0, 1, 1]) (fun e w => wpC pr PP cfg (DD pr) (sub (codeOf Tryz.f7) [1, 1, 1, 0, 1, 0, 0, 1, 1]) (fun ex e w => normQ ex (fun e' w' => k (Env.restr e' (lookN cfg.loops (keyOf (sub (codeOf Tryz.f7) [1, 1, 1, 0, 1, 0, 0])))) w') Q e w) e w) e w) (fun ex e w => normQ ex (fun e' w' => k (Env.restr e' (lookN cfg.loops (keyOf (sub (codeOf Tryz.f7) [1, 1, 1, 0, 1, 0, 0])))) w') Q e w) e w
def q12 (pr : Prims) (k : Env → World → Prop) (Q : Exit → Env → World → Prop) : Exit → Env → World → Prop := fun ex e w => blockQ ex 1 (q11 pr k Q) e w
def q15 (pr : Prims) (k : Env → World → Prop) (Q : Exit → Env → World → Prop) : Exit → Env → World → Prop := fun ex e w => blockQ ex 2 (q12 pr k Q) e w
def q16 (pr : Prims) (k : Env → World → Prop) (Q : Exit → Env → World → Prop) : Exit → Env → World → Prop := fun ex e w => normQ ex (fun e w => contE pr cfg (sub (codeOf Tryz.f7) [1, 1, 1, 0, 1, 0, 0, 1, 0, 0, 1, 1, 0, 0, 1, 1]) (fun e w => wpC pr PP cfg (DD pr) (sub (codeOf Tryz.f7) [1, 1, 1, 0, 1, 0, 0, 1, 0, 0, 1, 1, 0, 0, 1, 1]) (fun ex e w => normQ ex (fun e' w' => k (Env.restr e' (lookN cfg.loops (keyOf (sub (codeOf Tryz.f7) [1, 1, 1, 0, 1, 0, 0, 1, 0, 0, 1, 1, 0, 0])))) w') Q e w) e w) e w) (fun ex e w => normQ ex (fun e' w' => k (Env.restr e' (lookN cfg.loops (keyOf (sub (codeOf Tryz.f7) [1, 1, 1, 0, 1, 0, 0, 1, 0, 0, 1, 1, 0, 0])))) w') Q e w) e w
def q17 (pr : Prims) (k : Env → World → Prop) (Q : Exit → Env → World → Prop) : Exit → Env → World → Prop := fun ex e w => blockQ ex 3 (q16 pr k Q) e w
def q18 (pr : Prims) (k : Env → World → Prop) (Q : Exit → Env → World → Prop) : Exit → Env → World → Prop := fun ex e w => normQ ex (fun e w => contE pr cfg (sub (codeOf Tryz.f7) [1, 1, 1, 0, 1, 0, 0, 1, 0, 0, 1, 1, 0, 0, 1, 0, 0, 1]) (fun e w => wpC pr PP cfg (DD pr) (sub (codeOf Tryz.f7) [1, 1, 1, 0, 1, 0, 0, 1, 0, 0, 1, 1, 0, 0, 1, 0, 0, 1]) (q17 pr k Q) e w) e w) (q17 pr k Q) e w
def emb5 (list_0 : Sl) (n_1 : Int) (rule_6 : Sl) (m_7 : Int) : Env := [(0, Sl.v list_0), (1, vI n_1), (6, Sl.v rule_6), (7, vI m_7)]
def emb9 (list_0 : Sl) (n_1 : Int) (rule_6 : Sl) (m_7 : Int) (all_8 : Sl) (k_9 : Int) : Env := [(0, Sl.v list_0), (1, vI n_1), (6, Sl.v rule_6), (7, vI m_7), (8, Sl.v all_8), (9, vI k_9)]
def j12 (list_0 : Sl) (n_1 : Int) (rule_6 : Sl) (m_7 : Int) (all_8 : Sl) (k_9 : Int) (next_10 : Sl) : Env := [(0, Sl.v list_0), (1, vI n_1), (6, Sl.v rule_6), (7, vI m_7), (8, Sl.v all_8), (9, vI k_9), (10, Sl.v next_10)]
def x2 (list_0 : Sl) (n_1 : Int) (rule_6 : Sl) (m_7 : Int) : Env := [(0, Sl.v list_0), (1, vI n_1), (6, Sl.v rule_6), (7, vI m_7)]
def x0 (rule_6 : Sl) : Env := [(6, Sl.v rule_6)]
def S9 (pr : Prims) (Q : Exit → Env → World → Prop) : (Env → World → Prop) → Env → World → Prop := fun k e w => wpC pr PP cfg (DD pr) (sub (codeOf Tryz.f7) [1, 1, 1, 0, 1, 0, 0, 1, 0, 0, 1, 1, 0, 0]) (fun ex e w => normQ ex (fun e' w' => k (Env.restr e' (lookN cfg.loops (keyOf (sub (codeOf Tryz.f7) [1, 1, 1, 0, 1, 0, 0, 1, 0, 0, 1, 1, 0, 0])))) w') Q e w) e w
def S5 (pr : Prims) (Q : Exit → Env → World → Prop) : (Env → World → Prop) → Env → World → Prop := fun k e w => wpC pr PP cfg (DD pr) (sub (codeOf Tryz.f7) [1, 1, 1, 0, 1, 0, 0]) (fun ex e w => normQ ex (fun e' w' => k (Env.restr e' (lookN cfg.loops (keyOf (sub (codeOf Tryz.f7) [1, 1, 1, 0, 1, 0, 0])))) w') Q e w) e w
def J12 (pr : Prims) (list_0 : Sl) (n_1 : Int) (rule_6 : Sl) (m_7 : Int) (all_8 : Sl) (k_9 : Int) (next_10 : Sl) (w : World) (k : Env → World → Prop) (Q : Exit → Env → World → Prop) : Prop :=
  pr.seg (fun e w => wpC pr PP cfg (DD pr) (sub (codeOf Tryz.f7) [1, 1, 1, 0, 1, 0, 0, 1, 0, 0, 1, 1, 0, 0, 1, 0, 0, 1]) (q17 pr k Q) e w) (j12 list_0 n_1 rule_6 m_7 all_8 k_9 next_10) w
def B9 (pr : Prims) (list_0 : Sl) (n_1 : Int) (rule_6 : Sl) (m_7 : Int) (all_8 : Sl) (k_9 : Int) (w : World) (k : Env → World → Prop) (Q : Exit → Env → World → Prop) : Prop :=
  S9 pr Q k (emb9 list_0 n_1 rule_6 m_7 all_8 k_9) w
def L9 (pr : Prims) (list_0 : Sl) (n_1 : Int) (rule_6 : Sl) (m_7 : Int) (all_8 : Sl) (k_9 : Int) (w : World) (Q : Exit → Env → World → Prop) : Prop :=
  pr.loop (S9 pr Q) (emb9 list_0 n_1 rule_6 m_7 all_8 k_9) w
def B5 (pr : Prims) (list_0 : Sl) (n_1 : Int) (rule_6 : Sl) (m_7 : Int) (w : World) (k : Env → World → Prop) (Q : Exit → Env → World → Prop) : Prop :=
  S5 pr Q k (emb5 list_0 n_1 rule_6 m_7) w
def L5 (pr : Prims) (list_0 : Sl) (n_1 : Int) (rule_6 : Sl) (m_7 : Int) (w : World) (Q : Exit → Env → World → Prop) : Prop :=
  pr.loop (S5 pr Q) (emb5 list_0 n_1 rule_6 m_7) w
def E (pr : Prims) (list_0 : Sl) (n_1 : Int) (w : World) (R : Ending → World → Prop) : Prop :=
  wpC pr PP cfg (DD pr) (codeOf Tryz.f7) (retQ Tryz.f7.results.toList R) (argE 0 [Sl.v list_0, vI n_1]) w
theorem J12_gen (pr : Prims) (list_0 : Sl) (n_1 : Int) (rule_6 : Sl) (m_7 : Int) (all_8 : Sl) (k_9 : Int) (next_10 : Sl) (w : World) (k : Env → World → Prop) (Q : Exit → Env → World → Prop) : wpC pr PP cfg (DD pr) (sub (codeOf Tryz.f7) [1, 1, 1, 0, 1, 0, 0, 1, 0, 0, 1, 1, 0, 0, 1, 0, 0, 1]) (q17 pr k Q) (j12 list_0 n_1 rule_6 m_7 all_8 k_9 next_10) w = (
  pr.call2 .sl .bool PP F.spec_l15Add #[Sl.v rule_6, Sl.v next_10] w fun (ρ32 : Sl) (ρ33 : Bool) ω34 =>
  bif !ρ33 then (
  pr.sem1 .sl PP (Instr.buildSlice T_SSint 0 #[]) ω34 fun (ρ35 : Sl) ω36 =>
  Q .ret [(4, Sl.v ρ35), (5, .bool false)] ω36)
  else (
  k (emb9 list_0 n_1 ρ32 m_7 all_8 (w64 (k_9 + 1))) ω34)) := by kernel_rfl
theorem J12_s (list_0 : Sl) (n_1 : Int) (rule_6 : Sl) (m_7 : Int) (all_8 : Sl) (k_9 : Int) (next_10 : Sl) (w : World) (k : Env → World → Prop) (Q : Exit → Env → World → Prop) : J12 std list_0 n_1 rule_6 m_7 all_8 k_9 next_10 w k Q = (
  call2 .sl .bool PP F.spec_l15Add #[Sl.v rule_6, Sl.v next_10] w fun (ρ32 : Sl) (ρ33 : Bool) ω34 =>
  bif !ρ33 then (
  sem1 .sl PP (Instr.buildSlice T_SSint 0 #[]) ω34 fun (ρ35 : Sl) ω36 =>
  Q .ret [(4, Sl.v ρ35), (5, .bool false)] ω36)
  else (
  k (emb9 list_0 n_1 ρ32 m_7 all_8 (w64 (k_9 + 1))) ω34)) := J12_gen std list_0 n_1 rule_6 m_7 all_8 k_9 next_10 w k Q
theorem B9_eq (pr : Prims) (list_0 : Sl) (n_1 : Int) (rule_6 : Sl) (m_7 : Int) (all_8 : Sl) (k_9 : Int) (w : World) (k : Env → World → Prop) (Q : Exit → Env → World → Prop) : B9 pr list_0 n_1 rule_6 m_7 all_8 k_9 w k Q = (
  bif decide (k_9 < (all_8.n : Int)) then (
  pr.drewAll w fun ω19 =>
  pr.idxK 1 all_8 k_9 fun (a20 : Addr) =>
  pr.idxK 1 all_8 k_9 fun (a21 : Addr) =>
  (pr.load1 .sl a20 ω19 fun (ξ22 : Sl) =>
  (pr.call1 .sl PP F.spec_l14Sites #[Sl.v list_0, Sl.v ξ22] ω19 fun (ρ23 : Sl) ω24 =>
  (pr.sem1 .sl PP (Instr.buildSlice T_Sint 1 #[(0, vI (ρ23.n : Int))]) ω24 fun (ρ25 : Sl) ω26 =>
  pr.load1 .sl a21 ω26 fun (ξ27 : Sl) =>
  pr.call1 .sl PP F.spec_ChildLabels #[Sl.v list_0, Sl.v ξ27] ω26 fun (ρ28 : Sl) ω29 =>
  pr.sem1 .sl PP (Builtin.append_ #[T_Sint, T_Sint] T_Sint #[Sl.v ρ25, Sl.v ρ28]) ω29 fun (ρ30 : Sl) ω31 =>
  J12 pr list_0 n_1 rule_6 m_7 all_8 k_9 ρ30 ω31 k Q) ∧
  (pr.load1 .sl a21 ω24 fun (ξ37 : Sl) =>
  (pr.sem1 .sl PP (Instr.buildSlice T_Sint 1 #[(0, vI (ρ23.n : Int))]) ω24 fun (ρ38 : Sl) ω39 =>
  pr.call1 .sl PP F.spec_ChildLabels #[Sl.v list_0, Sl.v ξ37] ω39 fun (ρ40 : Sl) ω41 =>
  pr.sem1 .sl PP (Builtin.append_ #[T_Sint, T_Sint] T_Sint #[Sl.v ρ38, Sl.v ρ40]) ω41 fun (ρ42 : Sl) ω43 =>
  J12 pr list_0 n_1 rule_6 m_7 all_8 k_9 ρ42 ω43 k Q) ∧
  (pr.call1 .sl PP F.spec_ChildLabels #[Sl.v list_0, Sl.v ξ37] ω24 fun (ρ44 : Sl) ω45 =>
  pr.sem1 .sl PP (Instr.buildSlice T_Sint 1 #[(0, vI (ρ23.n : Int))]) ω45 fun (ρ46 : Sl) ω47 =>
  pr.sem1 .sl PP (Builtin.append_ #[T_Sint, T_Sint] T_Sint #[Sl.v ρ46, Sl.v ρ44]) ω47 fun (ρ48 : Sl) ω49 =>
  J12 pr list_0 n_1 rule_6 m_7 all_8 k_9 ρ48 ω49 k Q))) ∧
  (pr.load1 .sl a21 ω19 fun (ξ50 : Sl) =>
  pr.call1 .sl PP F.spec_l14Sites #[Sl.v list_0, Sl.v ξ22] ω19 fun (ρ51 : Sl) ω52 =>
  (pr.sem1 .sl PP (Instr.buildSlice T_Sint 1 #[(0, vI (ρ51.n : Int))]) ω52 fun (ρ53 : Sl) ω54 =>
  pr.call1 .sl PP F.spec_ChildLabels #[Sl.v list_0, Sl.v ξ50] ω54 fun (ρ55 : Sl) ω56 =>
  pr.sem1 .sl PP (Builtin.append_ #[T_Sint, T_Sint] T_Sint #[Sl.v ρ53, Sl.v ρ55]) ω56 fun (ρ57 : Sl) ω58 =>
  J12 pr list_0 n_1 rule_6 m_7 all_8 k_9 ρ57 ω58 k Q) ∧
  (pr.call1 .sl PP F.spec_ChildLabels #[Sl.v list_0, Sl.v ξ50] ω52 fun (ρ59 : Sl) ω60 =>
  pr.sem1 .sl PP (Instr.buildSlice T_Sint 1 #[(0, vI (ρ51.n : Int))]) ω60 fun (ρ61 : Sl) ω62 =>
  pr.sem1 .sl PP (Builtin.append_ #[T_Sint, T_Sint] T_Sint #[Sl.v ρ61, Sl.v ρ59]) ω62 fun (ρ63 : Sl) ω64 =>
  J12 pr list_0 n_1 rule_6 m_7 all_8 k_9 ρ63 ω64 k Q))) ∧
  (pr.load1 .sl a21 ω19 fun (ξ65 : Sl) =>
  pr.load1 .sl a20 ω19 fun (ξ66 : Sl) =>
  pr.call1 .sl PP F.spec_l14Sites #[Sl.v list_0, Sl.v ξ66] ω19 fun (ρ67 : Sl) ω68 =>
  (pr.sem1 .sl PP (Instr.buildSlice T_Sint 1 #[(0, vI (ρ67.n : Int))]) ω68 fun (ρ69 : Sl) ω70 =>
  pr.call1 .sl PP F.spec_ChildLabels #[Sl.v list_0, Sl.v ξ65] ω70 fun (ρ71 : Sl) ω72 =>
  pr.sem1 .sl PP (Builtin.append_ #[T_Sint, T_Sint] T_Sint #[Sl.v ρ69, Sl.v ρ71]) ω72 fun (ρ73 : Sl) ω74 =>
  J12 pr list_0 n_1 rule_6 m_7 all_8 k_9 ρ73 ω74 k Q) ∧
  (pr.call1 .sl PP F.spec_ChildLabels #[Sl.v list_0, Sl.v ξ65] ω68 fun (ρ75 : Sl) ω76 =>
  pr.sem1 .sl PP (Instr.buildSlice T_Sint 1 #[(0, vI (ρ67.n : Int))]) ω76 fun (ρ77 : Sl) ω78 =>
  pr.sem1 .sl PP (Builtin.append_ #[T_Sint, T_Sint] T_Sint #[Sl.v ρ77, Sl.v ρ75]) ω78 fun (ρ79 : Sl) ω80 =>
  J12 pr list_0 n_1 rule_6 m_7 all_8 k_9 ρ79 ω80 k Q)))
  else (
  Q (.exit 2) (x2 list_0 n_1 rule_6 m_7) w)) := by kernel_rfl
theorem B9_s (list_0 : Sl) (n_1 : Int) (rule_6 : Sl) (m_7 : Int) (all_8 : Sl) (k_9 : Int) (w : World) (k : Env → World → Prop) (Q : Exit → Env → World → Prop) : B9 std list_0 n_1 rule_6 m_7 all_8 k_9 w k Q = (
  bif decide (k_9 < (all_8.n : Int)) then (
  drewAll w fun ω19 =>
  idxK 1 all_8 k_9 fun (a20 : Addr) =>
  idxK 1 all_8 k_9 fun (a21 : Addr) =>
  (load1 .sl a20 ω19 fun (ξ22 : Sl) =>
  (call1 .sl PP F.spec_l14Sites #[Sl.v list_0, Sl.v ξ22] ω19 fun (ρ23 : Sl) ω24 =>
  (sem1 .sl PP (Instr.buildSlice T_Sint 1 #[(0, vI (ρ23.n : Int))]) ω24 fun (ρ25 : Sl) ω26 =>
  load1 .sl a21 ω26 fun (ξ27 : Sl) =>
  call1 .sl PP F.spec_ChildLabels #[Sl.v list_0, Sl.v ξ27] ω26 fun (ρ28 : Sl) ω29 =>
  sem1 .sl PP (Builtin.append_ #[T_Sint, T_Sint] T_Sint #[Sl.v ρ25, Sl.v ρ28]) ω29 fun (ρ30 : Sl) ω31 =>
  J12 std list_0 n_1 rule_6 m_7 all_8 k_9 ρ30 ω31 k Q) ∧
  (load1 .sl a21 ω24 fun (ξ37 : Sl) =>
  (sem1 .sl PP (Instr.buildSlice T_Sint 1 #[(0, vI (ρ23.n : Int))]) ω24 fun (ρ38 : Sl) ω39 =>
  call1 .sl PP F.spec_ChildLabels #[Sl.v list_0, Sl.v ξ37] ω39 fun (ρ40 : Sl) ω41 =>
  sem1 .sl PP (Builtin.append_ #[T_Sint, T_Sint] T_Sint #[Sl.v ρ38, Sl.v ρ40]) ω41 fun (ρ42 : Sl) ω43 =>
  J12 std list_0 n_1 rule_6 m_7 all_8 k_9 ρ42 ω43 k Q) ∧
  (call1 .sl PP F.spec_ChildLabels #[Sl.v list_0, Sl.v ξ37] ω24 fun (ρ44 : Sl) ω45 =>
  sem1 .sl PP (Instr.buildSlice T_Sint 1 #[(0, vI (ρ23.n : Int))]) ω45 fun (ρ46 : Sl) ω47 =>
  sem1 .sl PP (Builtin.append_ #[T_Sint, T_Sint] T_Sint #[Sl.v ρ46, Sl.v ρ44]) ω47 fun (ρ48 : Sl) ω49 =>
  J12 std list_0 n_1 rule_6 m_7 all_8 k_9 ρ48 ω49 k Q))) ∧
  (load1 .sl a21 ω19 fun (ξ50 : Sl) =>
  call1 .sl PP F.spec_l14Sites #[Sl.v list_0, Sl.v ξ22] ω19 fun (ρ51 : Sl) ω52 =>
  (sem1 .sl PP (Instr.buildSlice T_Sint 1 #[(0, vI (ρ51.n : Int))]) ω52 fun (ρ53 : Sl) ω54 =>
  call1 .sl PP F.spec_ChildLabels #[Sl.v list_0, Sl.v ξ50] ω54 fun (ρ55 : Sl) ω56 =>
  sem1 .sl PP (Builtin.append_ #[T_Sint, T_Sint] T_Sint #[Sl.v ρ53, Sl.v ρ55]) ω56 fun (ρ57 : Sl) ω58 =>
  J12 std list_0 n_1 rule_6 m_7 all_8 k_9 ρ57 ω58 k Q) ∧
  (call1 .sl PP F.spec_ChildLabels #[Sl.v list_0, Sl.v ξ50] ω52 fun (ρ59 : Sl) ω60 =>
  sem1 .sl PP (Instr.buildSlice T_Sint 1 #[(0, vI (ρ51.n : Int))]) ω60 fun (ρ61 : Sl) ω62 =>
  sem1 .sl PP (Builtin.append_ #[T_Sint, T_Sint] T_Sint #[Sl.v ρ61, Sl.v ρ59]) ω62 fun (ρ63 : Sl) ω64 =>
  J12 std list_0 n_1 rule_6 m_7 all_8 k_9 ρ63 ω64 k Q))) ∧
  (load1 .sl a21 ω19 fun (ξ65 : Sl) =>
  load1 .sl a20 ω19 fun (ξ66 : Sl) =>
  call1 .sl PP F.spec_l14Sites #[Sl.v list_0, Sl.v ξ66] ω19 fun (ρ67 : Sl) ω68 =>
  (sem1 .sl PP (Instr.buildSlice T_Sint 1 #[(0, vI (ρ67.n : Int))]) ω68 fun (ρ69 : Sl) ω70 =>
  call1 .sl PP F.spec_ChildLabels #[Sl.v list_0, Sl.v ξ65] ω70 fun (ρ71 : Sl) ω72 =>
  sem1 .sl PP (Builtin.append_ #[T_Sint, T_Sint] T_Sint #[Sl.v ρ69, Sl.v ρ71]) ω72 fun (ρ73 : Sl) ω74 =>
  J12 std list_0 n_1 rule_6 m_7 all_8 k_9 ρ73 ω74 k Q) ∧
  (call1 .sl PP F.spec_ChildLabels #[Sl.v list_0, Sl.v ξ65] ω68 fun (ρ75 : Sl) ω76 =>
  sem1 .sl PP (Instr.buildSlice T_Sint 1 #[(0, vI (ρ67.n : Int))]) ω76 fun (ρ77 : Sl) ω78 =>
  sem1 .sl PP (Builtin.append_ #[T_Sint, T_Sint] T_Sint #[Sl.v ρ77, Sl.v ρ75]) ω78 fun (ρ79 : Sl) ω80 =>
  J12 std list_0 n_1 rule_6 m_7 all_8 k_9 ρ79 ω80 k Q)))
  else (
  Q (.exit 2) (x2 list_0 n_1 rule_6 m_7) w)) := B9_eq std list_0 n_1 rule_6 m_7 all_8 k_9 w k Q
theorem L9_rule (list_0 : Sl) (n_1 : Int) (rule_6 : Sl) (m_7 : Int) (all_8 : Sl) (k_9 : Int) (w : World) (Q : Exit → Env → World → Prop) (I : Sl → Int → World → Prop) (μ : Sl → Int → World → Nat) (h0 : I rule_6 k_9 w)
    (h : ∀ (rule_6 : Sl) (k_9 : Int) (w' : World), I rule_6 k_9 w' → B9 std list_0 n_1 rule_6 m_7 all_8 k_9 w' (fun e2 w2 => ∃ rule_6_n k_9_n, e2 = emb9 list_0 n_1 rule_6_n m_7 all_8 k_9_n ∧ I rule_6_n k_9_n w2 ∧ μ rule_6_n k_9_n w2 < μ rule_6 k_9 w') Q) :
    L9 std list_0 n_1 rule_6 m_7 all_8 k_9 w Q := by
  unfold L9
  refine LoopE.intro (σ := Sl × Int) (step := S9 std Q) (fun s => emb9 list_0 n_1 s.1 m_7 all_8 s.2) (fun s w => I s.1 s.2 w) (fun s w => μ s.1 s.2 w) (rule_6, k_9) rfl h0 ?_
  intro s w' hI
  have h1 := h s.1 s.2 w' hI
  unfold B9 at h1
  simp only [Prod.exists]
  exact h1
theorem A9_2_eq (pr : Prims) (list_0 : Sl) (n_1 : Int) (rule_6 : Sl) (m_7 : Int) (w : World) (k : Env → World → Prop) (Q : Exit → Env → World → Prop) : (q15 pr k Q) (.exit 2) (x2 list_0 n_1 rule_6 m_7) w = (
  k (emb5 list_0 n_1 rule_6 (w64 (m_7 + 1))) w) := by kernel_rfl
theorem A9_2_s (list_0 : Sl) (n_1 : Int) (rule_6 : Sl) (m_7 : Int) (w : World) (k : Env → World → Prop) (Q : Exit → Env → World → Prop) : (q15 std k Q) (.exit 2) (x2 list_0 n_1 rule_6 m_7) w = (
  k (emb5 list_0 n_1 rule_6 (w64 (m_7 + 1))) w) := A9_2_eq std list_0 n_1 rule_6 m_7 w k Q
theorem R9_eq (pr : Prims) (v4 : Value) (v5 : Value) (w : World) (k : Env → World → Prop) (Q : Exit → Env → World → Prop) : (q15 pr k Q) .ret [(4, v4), (5, v5)] w = (
  Q .ret [(4, v4), (5, v5)] w) := by kernel_rfl
theorem R9_s (v4 : Value) (v5 : Value) (w : World) (k : Env → World → Prop) (Q : Exit → Env → World → Prop) : (q15 std k Q) .ret [(4, v4), (5, v5)] w = (
  Q .ret [(4, v4), (5, v5)] w) := R9_eq std v4 v5 w k Q
theorem B5_eq (pr : Prims) (list_0 : Sl) (n_1 : Int) (rule_6 : Sl) (m_7 : Int) (w : World) (k : Env → World → Prop) (Q : Exit → Env → World → Prop) : B5 pr list_0 n_1 rule_6 m_7 w k Q = (
  bif decide (m_7 ≤ n_1) then (
  pr.call1 .sl PP F.spec_ClassOf #[Sl.v list_0, vI m_7] w fun (ρ13 : Sl) ω14 =>
  L9 pr list_0 n_1 rule_6 m_7 ρ13 0 ω14 (q15 pr k Q))
  else (
  Q (.exit 0) (x0 rule_6) w)) := by kernel_rfl
theorem B5_s (list_0 : Sl) (n_1 : Int) (rule_6 : Sl) (m_7 : Int) (w : World) (k : Env → World → Prop) (Q : Exit → Env → World → Prop) : B5 std list_0 n_1 rule_6 m_7 w k Q = (
  bif decide (m_7 ≤ n_1) then (
  call1 .sl PP F.spec_ClassOf #[Sl.v list_0, vI m_7] w fun (ρ13 : Sl) ω14 =>
  L9 std list_0 n_1 rule_6 m_7 ρ13 0 ω14 (q15 std k Q))
  else (
  Q (.exit 0) (x0 rule_6) w)) := B5_eq std list_0 n_1 rule_6 m_7 w k Q
theorem L5_rule (list_0 : Sl) (n_1 : Int) (rule_6 : Sl) (m_7 : Int) (w : World) (Q : Exit → Env → World → Prop) (I : Sl → Int → World → Prop) (μ : Sl → Int → World → Nat) (h0 : I rule_6 m_7 w)
    (h : ∀ (rule_6 : Sl) (m_7 : Int) (w' : World), I rule_6 m_7 w' → B5 std list_0 n_1 rule_6 m_7 w' (fun e2 w2 => ∃ rule_6_n m_7_n, e2 = emb5 list_0 n_1 rule_6_n m_7_n ∧ I rule_6_n m_7_n w2 ∧ μ rule_6_n m_7_n w2 < μ rule_6 m_7 w') Q) :
    L5 std list_0 n_1 rule_6 m_7 w Q := by
  unfold L5
  refine LoopE.intro (σ := Sl × Int) (step := S5 std Q) (fun s => emb5 list_0 n_1 s.1 s.2) (fun s w => I s.1 s.2 w) (fun s w => μ s.1 s.2 w) (rule_6, m_7) rfl h0 ?_
  intro s w' hI
  have h1 := h s.1 s.2 w' hI
  unfold B5 at h1
  simp only [Prod.exists]
  exact h1
theorem A5_0_eq (pr : Prims) (rule_6 : Sl) (w : World) (R : Ending → World → Prop) : (q10 pr R) (.exit 0) (x0 rule_6) w = (
  R (.returned (.tuple #[Sl.v rule_6, .bool true])) w) := by kernel_rfl
theorem A5_0_s (rule_6 : Sl) (w : World) (R : Ending → World → Prop) : (q10 std R) (.exit 0) (x0 rule_6) w = (
  R (.returned (.tuple #[Sl.v rule_6, .bool true])) w) := A5_0_eq std rule_6 w R
theorem R5_eq (pr : Prims) (v4 : Value) (v5 : Value) (w : World) (R : Ending → World → Prop) : (q10 pr R) .ret [(4, v4), (5, v5)] w = (
  R (.returned (.tuple #[v4, v5])) w) := by kernel_rfl
theorem R5_s (v4 : Value) (v5 : Value) (w : World) (R : Ending → World → Prop) : (q10 std R) .ret [(4, v4), (5, v5)] w = (
  R (.returned (.tuple #[v4, v5])) w) := R5_eq std v4 v5 w R
theorem E_eq (pr : Prims) (list_0 : Sl) (n_1 : Int) (w : World) (R : Ending → World → Prop) : E pr list_0 n_1 w R = (
  pr.call1 .bool PP F.spec_IsBasis #[Sl.v list_0] w fun (ρ0 : Bool) ω1 =>
  bif !ρ0 then (
  pr.sem1 .sl PP (Instr.buildSlice T_SSint 0 #[]) ω1 fun (ρ2 : Sl) ω3 =>
  R (.returned (.tuple #[Sl.v ρ2, .bool false])) ω3)
  else (
  pr.pcall1 .bool PP F.spec_l1In #[vI n_1, vI 0, vI 5] fun (ρ4 : Bool) =>
  bif !ρ4 then (
  pr.sem1 .sl PP (Instr.buildSlice T_SSint 0 #[]) ω1 fun (ρ5 : Sl) ω6 =>
  R (.returned (.tuple #[Sl.v ρ5, .bool false])) ω6)
  else (
  pr.sem1 .sl PP (Instr.buildSlice T_SSint 0 #[]) ω1 fun (ρ7 : Sl) ω8 =>
  L5 pr list_0 n_1 ρ7 0 ω8 (q10 pr R)))) := by kernel_rfl
theorem E_s (list_0 : Sl) (n_1 : Int) (w : World) (R : Ending → World → Prop) : E std list_0 n_1 w R = (
  call1 .bool PP F.spec_IsBasis #[Sl.v list_0] w fun (ρ0 : Bool) ω1 =>
  bif !ρ0 then (
  sem1 .sl PP (Instr.buildSlice T_SSint 0 #[]) ω1 fun (ρ2 : Sl) ω3 =>
  R (.returned (.tuple #[Sl.v ρ2, .bool false])) ω3)
  else (
  pcall1 .bool PP F.spec_l1In #[vI n_1, vI 0, vI 5] fun (ρ4 : Bool) =>
  bif !ρ4 then (
  sem1 .sl PP (Instr.buildSlice T_SSint 0 #[]) ω1 fun (ρ5 : Sl) ω6 =>
  R (.returned (.tuple #[Sl.v ρ5, .bool false])) ω6)
  else (
  sem1 .sl PP (Instr.buildSlice T_SSint 0 #[]) ω1 fun (ρ7 : Sl) ω8 =>
  L5 std list_0 n_1 ρ7 0 ω8 (q10 std R)))) := E_eq std list_0 n_1 w R
theorem drawsOk : drawsOk PP cfg okD (codeOf Tryz.f7) = true := by kernel_rfl
theorem calls (list_0 : Sl) (n_1 : Int) {w : World} {R : Ending → World → Prop} (h : E std list_0 n_1 w R) : Calls PP F.spec_RuleUpTo #[Sl.v list_0, vI n_1] w R :=
  calls_of noCount mixed drawOk Tryz.func7 rfl (c := cfg) (args := [Sl.v list_0, vI n_1]) rfl (Nat.le_of_ble_eq_true (by kernel_rfl)) drawsOk h
end spec_RuleUpTo

namespace spec_l15Add
@[reducible] def cfg : Cfg := ⟨63, [(2, [0, 1, 6])], [(1, [0, 1, 6]), (0, [0, 1, 6])], [], [4, 5], [2, 4], [13, 12, 21, 89, 36, 108, 74, 75, 104, 78, 125], [73, 117, 103, 46, 4, 30, 40]⟩
def q0 (pr : Prims) (R : Ending → World → Prop) : Exit → Env → World → Prop := fun ex e w => normQ ex (fun e w => contE pr cfg (sub (codeOf Tryz.f42) [1, 1, 1]) (fun e w => wpC pr PP cfg (DD pr) (sub (codeOf Tryz.f42) [1, 1, 1]) (retQ Tryz.f42.results.toList R) e w) e w) (retQ Tryz.f42.results.toList R) e w
def q1 (pr : Prims) (R : Ending → World → Prop) : Exit → Env → World → Prop := fun ex e w => blockQ ex 0 (q0 pr R) e w
def emb2 (rule_0 : Sl) (next_1 : Sl) (at_6 : Int) : Env := [(0, Sl.v rule_0), (1, Sl.v next_1), (6, vI at_6)]
def x0 (rule_0 : Sl) (next_1 : Sl) (at_6 : Int) : Env := [(0, Sl.v rule_0), (1, Sl.v next_1), (6, vI at_6)]
def S2 (pr : Prims) (Q : Exit → Env → World → Prop) : (Env → World → Prop) → Env → World → Prop := fun k e w => wpC pr PP cfg (DD pr) (sub (codeOf Tryz.f42) [1, 1, 0, 0, 0]) (fun ex e w => normQ ex (fun e' w' => k (Env.restr e' (lookN cfg.loops (keyOf (sub (codeOf Tryz.f42) [1, 1, 0, 0, 0])))) w') Q e w) e w
def B2 (pr : Prims) (rule_0 : Sl) (next_1 : Sl) (at_6 : Int) (w : World) (k : Env → World → Prop) (Q : Exit → Env → World → Prop) : Prop :=
  S2 pr Q k (emb2 rule_0 next_1 at_6) w
def L2 (pr : Prims) (rule_0 : Sl) (next_1 : Sl) (at_6 : Int) (w : World) (Q : Exit → Env → World → Prop) : Prop :=
  pr.loop (S2 pr Q) (emb2 rule_0 next_1 at_6) w
def E (pr : Prims) (rule_0 : Sl) (next_1 : Sl) (w : World) (R : Ending → World → Prop) : Prop :=
  wpC pr PP cfg (DD pr) (codeOf Tryz.f42) (retQ Tryz.f42.results.toList R) (argE 0 [Sl.v rule_0, Sl.v next_1]) w
theorem B2_eq (pr : Prims) (rule_0 : Sl) (next_1 : Sl) (at_6 : Int) (w : World) (k : Env → World → Prop) (Q : Exit → Env → World → Prop) : B2 pr rule_0 next_1 at_6 w k Q = (
  bif decide (at_6 > 0) then (
  pr.idxK 1 next_1 0 fun (a2 : Addr) =>
  pr.load1 (.int .i64) a2 w fun (ξ3 : Int) =>
  pr.idxK 1 rule_0 (w64 (at_6 - 1)) fun (a4 : Addr) =>
  pr.load1 .sl a4 w fun (ξ5 : Sl) =>
  pr.idxK 1 ξ5 0 fun (a6 : Addr) =>
  pr.load1 (.int .i64) a6 w fun (ξ7 : Int) =>
  pr.drewAll w fun ω8 =>
  bif decide (ξ3 < ξ7) then (
  k (emb2 rule_0 next_1 (w64 (at_6 - 1))) ω8)
  else (
  Q (.exit 0) (x0 rule_0 next_1 at_6) ω8))
  else (
  pr.drewAll w fun ω9 =>
  Q (.exit 0) (x0 rule_0 next_1 at_6) ω9)) := by kernel_rfl
theorem B2_s (rule_0 : Sl) (next_1 : Sl) (at_6 : Int) (w : World) (k : Env → World → Prop) (Q : Exit → Env → World → Prop) : B2 std rule_0 next_1 at_6 w k Q = (
  bif decide (at_6 > 0) then (
  idxK 1 next_1 0 fun (a2 : Addr) =>
  load1 (.int .i64) a2 w fun (ξ3 : Int) =>
  idxK 1 rule_0 (w64 (at_6 - 1)) fun (a4 : Addr) =>
  load1 .sl a4 w fun (ξ5 : Sl) =>
  idxK 1 ξ5 0 fun (a6 : Addr) =>
  load1 (.int .i64) a6 w fun (ξ7 : Int) =>
  drewAll w fun ω8 =>
  bif decide (ξ3 < ξ7) then (
  k (emb2 rule_0 next_1 (w64 (at_6 - 1))) ω8)
  else (
  Q (.exit 0) (x0 rule_0 next_1 at_6) ω8))
  else (
  drewAll w fun ω9 =>
  Q (.exit 0) (x0 rule_0 next_1 at_6) ω9)) := B2_eq std rule_0 next_1 at_6 w k Q
theorem L2_rule (rule_0 : Sl) (next_1 : Sl) (at_6 : Int) (w : World) (Q : Exit → Env → World → Prop) (I : Int → World → Prop) (μ : Int → World → Nat) (h0 : I at_6 w)
    (h : ∀ (at_6 : Int) (w' : World), I at_6 w' → B2 std rule_0 next_1 at_6 w' (fun e2 w2 => ∃ at_6_n, e2 = emb2 rule_0 next_1 at_6_n ∧ I at_6_n w2 ∧ μ at_6_n w2 < μ at_6 w') Q) :
    L2 std rule_0 next_1 at_6 w Q := by
  unfold L2
  refine LoopE.intro (σ := Int) (step := S2 std Q) (fun s => emb2 rule_0 next_1 s) (fun s w => I s w) (fun s w => μ s w) at_6 rfl h0 ?_
  intro s w' hI
  have h1 := h s w' hI
  unfold B2 at h1
  exact h1
theorem A2_0_eq (pr : Prims) (rule_0 : Sl) (next_1 : Sl) (at_6 : Int) (w : World) (R : Ending → World → Prop) : (q1 pr R) (.exit 0) (x0 rule_0 next_1 at_6) w = (
  bif decide (at_6 > 0) then (
  pr.idxK 1 rule_0 (w64 (at_6 - 1)) fun (a10 : Addr) =>
  pr.load1 .sl a10 w fun (ξ11 : Sl) =>
  pr.idxK 1 ξ11 0 fun (a12 : Addr) =>
  pr.load1 (.int .i64) a12 w fun (ξ13 : Int) =>
  pr.idxK 1 next_1 0 fun (a14 : Addr) =>
  pr.load1 (.int .i64) a14 w fun (ξ15 : Int) =>
  pr.drewAll w fun ω16 =>
  bif ξ13 == ξ15 then (
  pr.idxK 1 rule_0 (w64 (at_6 - 1)) fun (a17 : Addr) =>
  pr.load1 .sl a17 ω16 fun (ξ18 : Sl) =>
  pr.call1 .bool PP F.spec_l2Same #[Sl.v ξ18, Sl.v next_1] ω16 fun (ρ19 : Bool) ω20 =>
  R (.returned (.tuple #[Sl.v rule_0, .bool ρ19])) ω20)
  else (
  pr.sem1 .sl PP (Instr.buildSlice T_SSint 0 #[]) ω16 fun (ρ21 : Sl) ω22 =>
  pr.cutK 1 rule_0 (some at_6) none fun (s23 : Sl) =>
  pr.sem1 .sl PP (Builtin.append_ #[T_SSint, T_SSint] T_SSint #[Sl.v ρ21, Sl.v s23]) ω22 fun (ρ24 : Sl) ω25 =>
  pr.cutK 1 rule_0 none (some at_6) fun (s26 : Sl) =>
  pr.sem1 .sl PP (Instr.buildSlice T_SSint 1 #[(0, Sl.v next_1)]) ω25 fun (ρ27 : Sl) ω28 =>
  pr.sem1 .sl PP (Builtin.append_ #[T_SSint, T_SSint] T_SSint #[Sl.v s26, Sl.v ρ27]) ω28 fun (ρ29 : Sl) ω30 =>
  pr.sem1 .sl PP (Builtin.append_ #[T_SSint, T_SSint] T_SSint #[Sl.v ρ29, Sl.v ρ24]) ω30 fun (ρ31 : Sl) ω32 =>
  R (.returned (.tuple #[Sl.v ρ31, .bool true])) ω32))
  else (
  pr.drewAll w fun ω33 =>
  pr.sem1 .sl PP (Instr.buildSlice T_SSint 0 #[]) ω33 fun (ρ34 : Sl) ω35 =>
  pr.cutK 1 rule_0 (some at_6) none fun (s36 : Sl) =>
  pr.sem1 .sl PP (Builtin.append_ #[T_SSint, T_SSint] T_SSint #[Sl.v ρ34, Sl.v s36]) ω35 fun (ρ37 : Sl) ω38 =>
  pr.cutK 1 rule_0 none (some at_6) fun (s39 : Sl) =>
  pr.sem1 .sl PP (Instr.buildSlice T_SSint 1 #[(0, Sl.v next_1)]) ω38 fun (ρ40 : Sl) ω41 =>
  pr.sem1 .sl PP (Builtin.append_ #[T_SSint, T_SSint] T_SSint #[Sl.v s39, Sl.v ρ40]) ω41 fun (ρ42 : Sl) ω43 =>
  pr.sem1 .sl PP (Builtin.append_ #[T_SSint, T_SSint] T_SSint #[Sl.v ρ42, Sl.v ρ37]) ω43 fun (ρ44 : Sl) ω45 =>
  R (.returned (.tuple #[Sl.v ρ44, .bool true])) ω45)) := by kernel_rfl
theorem A2_0_s (rule_0 : Sl) (next_1 : Sl) (at_6 : Int) (w : World) (R : Ending → World → Prop) : (q1 std R) (.exit 0) (x0 rule_0 next_1 at_6) w = (
  bif decide (at_6 > 0) then (
  idxK 1 rule_0 (w64 (at_6 - 1)) fun (a10 : Addr) =>
  load1 .sl a10 w fun (ξ11 : Sl) =>
  idxK 1 ξ11 0 fun (a12 : Addr) =>
  load1 (.int .i64) a12 w fun (ξ13 : Int) =>
  idxK 1 next_1 0 fun (a14 : Addr) =>
  load1 (.int .i64) a14 w fun (ξ15 : Int) =>
  drewAll w fun ω16 =>
  bif ξ13 == ξ15 then (
  idxK 1 rule_0 (w64 (at_6 - 1)) fun (a17 : Addr) =>
  load1 .sl a17 ω16 fun (ξ18 : Sl) =>
  call1 .bool PP F.spec_l2Same #[Sl.v ξ18, Sl.v next_1] ω16 fun (ρ19 : Bool) ω20 =>
  R (.returned (.tuple #[Sl.v rule_0, .bool ρ19])) ω20)
  else (
  sem1 .sl PP (Instr.buildSlice T_SSint 0 #[]) ω16 fun (ρ21 : Sl) ω22 =>
  cutK 1 rule_0 (some at_6) none fun (s23 : Sl) =>
  sem1 .sl PP (Builtin.append_ #[T_SSint, T_SSint] T_SSint #[Sl.v ρ21, Sl.v s23]) ω22 fun (ρ24 : Sl) ω25 =>
  cutK 1 rule_0 none (some at_6) fun (s26 : Sl) =>
  sem1 .sl PP (Instr.buildSlice T_SSint 1 #[(0, Sl.v next_1)]) ω25 fun (ρ27 : Sl) ω28 =>
  sem1 .sl PP (Builtin.append_ #[T_SSint, T_SSint] T_SSint #[Sl.v s26, Sl.v ρ27]) ω28 fun (ρ29 : Sl) ω30 =>
  sem1 .sl PP (Builtin.append_ #[T_SSint, T_SSint] T_SSint #[Sl.v ρ29, Sl.v ρ24]) ω30 fun (ρ31 : Sl) ω32 =>
  R (.returned (.tuple #[Sl.v ρ31, .bool true])) ω32))
  else (
  drewAll w fun ω33 =>
  sem1 .sl PP (Instr.buildSlice T_SSint 0 #[]) ω33 fun (ρ34 : Sl) ω35 =>
  cutK 1 rule_0 (some at_6) none fun (s36 : Sl) =>
  sem1 .sl PP (Builtin.append_ #[T_SSint, T_SSint] T_SSint #[Sl.v ρ34, Sl.v s36]) ω35 fun (ρ37 : Sl) ω38 =>
  cutK 1 rule_0 none (some at_6) fun (s39 : Sl) =>
  sem1 .sl PP (Instr.buildSlice T_SSint 1 #[(0, Sl.v next_1)]) ω38 fun (ρ40 : Sl) ω41 =>
  sem1 .sl PP (Builtin.append_ #[T_SSint, T_SSint] T_SSint #[Sl.v s39, Sl.v ρ40]) ω41 fun (ρ42 : Sl) ω43 =>
  sem1 .sl PP (Builtin.append_ #[T_SSint, T_SSint] T_SSint #[Sl.v ρ42, Sl.v ρ37]) ω43 fun (ρ44 : Sl) ω45 =>
  R (.returned (.tuple #[Sl.v ρ44, .bool true])) ω45)) := A2_0_eq std rule_0 next_1 at_6 w R
theorem E_eq (pr : Prims) (rule_0 : Sl) (next_1 : Sl) (w : World) (R : Ending → World → Prop) : E pr rule_0 next_1 w R = (
  L2 pr rule_0 next_1 (rule_0.n : Int) w (q1 pr R)) := by kernel_rfl
theorem E_s (rule_0 : Sl) (next_1 : Sl) (w : World) (R : Ending → World → Prop) : E std rule_0 next_1 w R = (
  L2 std rule_0 next_1 (rule_0.n : Int) w (q1 std R)) := E_eq std rule_0 next_1 w R
theorem drawsOk : drawsOk PP cfg okD (codeOf Tryz.f42) = true := by kernel_rfl
theorem calls (rule_0 : Sl) (next_1 : Sl) {w : World} {R : Ending → World → Prop} (h : E std rule_0 next_1 w R) : Calls PP F.spec_l15Add #[Sl.v rule_0, Sl.v next_1] w R :=
  calls_of noCount mixed drawOk Tryz.func42 rfl (c := cfg) (args := [Sl.v rule_0, Sl.v next_1]) rfl (Nat.le_of_ble_eq_true (by kernel_rfl)) drawsOk h
end spec_l15Add

namespace slices_SortFunc_____int___int_
@[reducible] def cfg : Cfg := ⟨14, [], [], [], [], [], [13, 12, 21, 89, 36, 108, 74, 75, 104, 78, 125], [73, 117, 103, 46, 4, 30, 40]⟩
def E (pr : Prims) (x_0 : Sl) (cmp_1 : Value) (w : World) (R : Ending → World → Prop) : Prop :=
  wpC pr PP cfg (DD pr) (codeOf Tryz.f37) (retQ Tryz.f37.results.toList R) (argE 0 [Sl.v x_0, cmp_1]) w
theorem E_eq (pr : Prims) (x_0 : Sl) (cmp_1 : Value) (w : World) (R : Ending → World → Prop) : E pr x_0 cmp_1 w R = (
  pr.call1 (.int .i64) PP F.math_bits_Len #[.int .u64 (IntKind.u64.wrap ((x_0.n : Int)))] w fun (ρ0 : Int) ω1 =>
  pr.call0  PP F.slices_pdqsortCmpFunc___int_ #[Sl.v x_0, vI 0, vI (x_0.n : Int), vI ρ0, cmp_1] ω1 fun ω2 =>
  R (.returned (.tuple #[])) ω2) := by kernel_rfl
theorem E_s (x_0 : Sl) (cmp_1 : Value) (w : World) (R : Ending → World → Prop) : E std x_0 cmp_1 w R = (
  call1 (.int .i64) PP F.math_bits_Len #[.int .u64 (IntKind.u64.wrap ((x_0.n : Int)))] w fun (ρ0 : Int) ω1 =>
  call0  PP F.slices_pdqsortCmpFunc___int_ #[Sl.v x_0, vI 0, vI (x_0.n : Int), vI ρ0, cmp_1] ω1 fun ω2 =>
  R (.returned (.tuple #[])) ω2) := E_eq std x_0 cmp_1 w R
theorem drawsOk : drawsOk PP cfg okD (codeOf Tryz.f37) = true := by kernel_rfl
theorem calls (x_0 : Sl) (cmp_1 : Value) {w : World} {R : Ending → World → Prop} (h : E std x_0 cmp_1 w R) : Calls PP F.slices_SortFunc_____int___int_ #[Sl.v x_0, cmp_1] w R :=
  calls_of noCount mixed drawOk Tryz.func37 rfl (c := cfg) (args := [Sl.v x_0, cmp_1]) rfl (Nat.le_of_ble_eq_true (by kernel_rfl)) drawsOk h
end slices_SortFunc_____int___int_

end Go.Proofs.YteplokddaebbeaaGreat

/- Which blocks a slice of rows stands on, and what a step does to them. -/
namespace Go.Proofs.YteplokddaebbeaaGreat
open Go Go.RowKit
set_option maxRecDepth 100000

/-- The blocks of a slice of rows. -/
def foot (s : Sl) (rs : List Sl) (g : Nat) : Prop := s.blk = some g ∨ ∃ r ∈ rs, r.blk = some g
theorem OwnRows.footLt {w B s rs LL} (h : OwnRows w B s rs LL) {g : Nat} (hg : foot s rs g) : B ≤ g ∧ g < w.heap.size := by
  rcases hg with hg | ⟨r, hr, hg⟩
  · exact h.out.lt g hg
  · exact h.lt hr hg
theorem OwnRows.keepsF {S : Nat → Prop} {w w' B s rs LL} (h : OwnRows w B s rs LL) (hk : Keeps S w w') (hd : ∀ g, foot s rs g → ¬ S g) : OwnRows w' B s rs LL :=
  h.keeps hk (fun g hg => hd g (.inl hg)) (fun r hr g hg => hd g (.inr ⟨r, hr, hg⟩))
/-- A step that writes S alone, and what S becomes: nothing but S and what is new. -/
structure Stp (w w' : World) (S S' : Nat → Prop) : Prop where
  keeps : Keeps S w w'
  next : ∀ g, S' g → S g ∨ w.heap.size ≤ g
theorem Stp.refl (w : World) (S : Nat → Prop) : Stp w w S S := ⟨Keeps.refl _ _, fun _ h => .inl h⟩
theorem Stp.trans {a b c : World} {S T U : Nat → Prop} (h : Stp a b S T) (k : Stp b c T U) : Stp a c S U := by
  refine ⟨⟨k.keeps.os.trans h.keeps.os, k.keeps.tape.trans h.keeps.tape, k.keeps.output.trans h.keeps.output, Nat.le_trans h.keeps.size k.keeps.size, fun x hx hn => ?_⟩, fun g hg => ?_⟩
  · rw [k.keeps.block x (Nat.lt_of_lt_of_le hx h.keeps.size) fun ht => ?_]
    · exact h.keeps.block x hx hn
    · rcases h.next x ht with h1 | h1
      · exact hn h1
      · omega
  · rcases k.next g hg with h1 | h1
    · exact h.next g h1
    · have := h.keeps.size; exact .inr (by omega)
/-- What stands on other blocks stays apart. -/
theorem Stp.apart {w w' : World} {S S' F : Nat → Prop} (h : Stp w w' S S') (hF : ∀ g, F g → g < w.heap.size) (hd : ∀ g, S g → ¬ F g) : ∀ g, S' g → ¬ F g := fun g h1 h2 => by
  rcases h.next g h1 with h3 | h3
  · exact hd g h3 h2
  · have := hF g h2; omega
theorem Stp.grow {w w' : World} {S : Nat → Prop} (h : Below w.heap.size w w') : Stp w w' S S := ⟨(keeps_grown (grow_of_below h)).mono (fun k e => by cases e), fun _ h => .inl h⟩
theorem Stp.below {w w' : World} {S S' : Nat → Prop} {B : Nat} (h : Stp w w' S S') (hS : ∀ g, S g → B ≤ g) (hB : B ≤ w.heap.size) : Below B w w' := h.keeps.below hS hB

theorem getElem?_getD {LL : List (List Int)} {i : Nat} (hi : i < LL.length) : LL[i]? = some (LL.getD i []) := by simp [List.getD_eq_getElem?_getD, List.getElem?_eq_getElem hi]
/-- 'rows[i] = append(rows[i], x)'. -/
theorem OwnRows.appendAtF {w B s rs LL} (h : OwnRows w B s rs LL) {i : Int} (h0 : 0 ≤ i) (hi : i < LL.length) (hB : B ≤ w.heap.size) (hlen : (LL.getD i.toNat []).length < 2^39) {x : Int} {K : World → Prop}
    (hk : ∀ w' rs', OwnRows w' B s rs' (LL.set i.toNat (LL.getD i.toNat [] ++ [x])) → Stp w w' (foot s rs) (foot s rs') → K w') :
    idxK 1 s i fun a => load1 .sl a w fun (t : Sl) => sem1 .sl PP (Instr.buildSlice T_Sint 1 #[(0, vI x)]) w fun (ρ : Sl) w1 => sem1 .sl PP (Builtin.append_ #[T_Sint, T_Sint] T_Sint #[t.v, ρ.v]) w1 fun (t' : Sl) w2 =>
      idxK 1 s i fun a2 => storeC a2 t'.v w2 K := by
  obtain ⟨t, h1, h2⟩ := h.get (i := i.toNat) (by omega)
  refine Row.get (sh := .sl) (r := t) h.out.row h0 (by rw [List.getElem?_map, h1]; rfl) ?_
  refine append_int h2 hB hlen ?_
  intro t' w5 ht' hg5 hn5
  have hs5 : Own w5 B T_Sint s (rs.map Sl.v) := h.out.kept hg5 fun g hg' e => (h.out.apt h2 (by decide)) g hg' e
  refine Own.put hs5 h0 (by rw [List.length_map, h.len]; exact hi) (v := t'.v) ?_
  intro w6 ho6 hg6 _
  have hm : t ∈ rs := List.mem_of_getElem? h1
  refine hk w6 _ (h.setNew h1 hg5 ht' hn5 ho6 hg6 rfl) ⟨?_, fun g hg => ?_⟩
  · exact ((keeps_grown hg5).mono (fun k e => .inr ⟨t, hm, e⟩)).trans ((keeps_grown hg6).mono (fun k e => .inl e))
  · rcases hg with hg | ⟨r, hr, hg⟩
    · exact .inl (.inl hg)
    · rcases List.mem_or_eq_of_mem_set hr with hr | rfl
      · exact .inl (.inr ⟨r, hr, hg⟩)
      · rcases hn5 g hg with h3 | h3
        · exact .inl (.inr ⟨t, hm, h3⟩)
        · exact .inr h3
/-- 'rows[i][c] = x'. -/
theorem OwnRows.setAtF {w B s rs LL} (h : OwnRows w B s rs LL) {i c : Int} (h0 : 0 ≤ i) (hi : i < LL.length) (hc0 : 0 ≤ c) (hc : c < (LL.getD i.toNat []).length) {x : Int} {K : World → Prop}
    (hk : ∀ w', OwnRows w' B s rs (LL.set i.toNat ((LL.getD i.toNat []).set c.toNat x)) → Stp w w' (foot s rs) (foot s rs) → w'.heap.size = w.heap.size → K w') :
    idxK 1 s i fun a => load1 .sl a w fun (t : Sl) => idxK 1 t c fun a2 => storeC a2 (vI x) w K := by
  obtain ⟨t, h1, h2⟩ := h.get (i := i.toNat) (by omega)
  refine Row.get (sh := .sl) (r := t) h.out.row h0 (by rw [List.getElem?_map, h1]; rfl) ?_
  refine Own.put h2 hc0 (by rw [List.length_map]; exact hc) ?_
  intro w6 ho6 hg6 hs6
  refine hk w6 (h.inside h1 (by simpa [OwnI, List.map_set] using ho6) hg6) ⟨?_, fun g hg => .inl hg⟩ hs6
  exact (keeps_grown hg6).mono (fun k e => .inr ⟨t, List.mem_of_getElem? h1, e⟩)
theorem foot_push {w w' : World} {s s' : Sl} {rs : List Sl} {r : Sl} {C : Nat} (hg : w.grownBy w' s.blk) (hn : Next w s s') (hC : C ≤ w.heap.size) (hr : ∀ g, r.blk = some g → C ≤ g) : Keeps (foot s rs) w w' ∧ ∀ g, foot s' (rs ++ [r]) g → foot s rs g ∨ C ≤ g := by
  refine ⟨(keeps_grown hg).mono (fun k e => .inl e), fun g hg => ?_⟩
  rcases hg with hg | ⟨t, ht, hg⟩
  · rcases hn g hg with h1 | h1
    · exact .inl (.inl h1)
    · exact .inr (by omega)
  · rcases List.mem_append.1 ht with ht | ht
    · exact .inl (.inr ⟨t, ht, hg⟩)
    · simp at ht; subst ht; exact .inr (hr g hg)
/-- 'append(rows, row)', the row made by this step. -/
theorem OwnRows.pushF {w0 w : World} {B : Nat} {s : Sl} {rs : List Sl} {LL : List (List Int)} {r : Sl} {L : List Int} (h0 : OwnRows w0 B s rs LL) (hb : Below w0.heap.size w0 w) (hB : B ≤ w0.heap.size) (hr : OwnI w B r L) (hrn : ∀ g, r.blk = some g → w0.heap.size ≤ g) (hn : LL.length < 2^39) {K : Sl → World → Prop}
    (hk : ∀ s' w', OwnRows w' B s' (rs ++ [r]) (LL ++ [L]) → Stp w0 w' (foot s rs) (foot s' (rs ++ [r])) → K s' w') :
    sem1 .sl PP (Instr.buildSlice T_SSint 1 #[(0, r.v)]) w fun t w1 => sem1 .sl PP (Builtin.append_ #[T_SSint, T_SSint] T_SSint #[s.v, t.v]) w1 K := by
  refine append_sl (h0.grow hb) (Nat.le_trans hB hb.size) hr (fun t ht => Apt.of_lt (fun g hg => (h0.lt ht hg).2) hrn) hn fun s' w' h1 h2 h3 => hk s' w' h1 ?_
  obtain ⟨k1, k2⟩ := foot_push (rs := rs) h2 h3 hb.size hrn
  exact ⟨((Stp.grow (S := foot s rs) hb).keeps).trans k1, k2⟩
end Go.Proofs.YteplokddaebbeaaGreat

/- RuleUpTo: the model's text. -/
namespace Go.Proofs.YteplokddaebbeaaGreat
open Go Go.RowKit
set_option maxRecDepth 100000

/-- Rows that are owned, with an owned list of them. -/
structure RW (w : World) (B : Nat) (s : Sl) (rs : List Sl) (R : List (List Int)) : Prop where
  out : Own w B T_Sint s (rs.map Sl.v)
  len : rs.length = R.length
  at_ : ∀ (i : Nat) (r : Sl) (L : List Int), rs[i]? = some r → R[i]? = some L → OwnI w B r L
theorem RW.rows {w B s rs R} (h : RW w B s rs R) : RowSS w s R := ⟨rs, h.out.row, h.len, fun i r L e1 e2 => (h.at_ i r L e1 e2).row⟩
theorem RW.grow {w w' B s rs R} (h : RW w B s rs R) (hb : Below w.heap.size w w') : RW w' B s rs R := ⟨h.out.grow hb, h.len, fun i r L e1 e2 => (h.at_ i r L e1 e2).grow hb⟩
theorem RW.heap {w w' B s rs R} (h : RW w B s rs R) (hh : w'.heap = w.heap) : RW w' B s rs R := ⟨h.out.heap hh, h.len, fun i r L e1 e2 => (h.at_ i r L e1 e2).heap hh⟩
theorem insG_at {α : Type} {l : List α} {x y : α} {k i : Nat} (hk : k ≤ l.length) (h : (l.take k ++ [x] ++ l.drop k)[i]? = some y) : (i < k ∧ l[i]? = some y) ∨ (i = k ∧ y = x) ∨ (k < i ∧ l[i - 1]? = some y) := by
  rw [List.append_assoc] at h
  by_cases h1 : i < k
  · rw [List.getElem?_append_left (by rw [List.length_take]; omega), List.getElem?_take, if_pos h1] at h
    exact .inl ⟨h1, h⟩
  · rw [List.getElem?_append_right (by rw [List.length_take]; omega), List.length_take, Nat.min_eq_left hk, List.singleton_append] at h
    by_cases h2 : i = k
    · subst h2
      rw [Nat.sub_self] at h
      simp at h
      exact .inr (.inl ⟨rfl, h.symm⟩)
    · obtain ⟨d, hd⟩ : ∃ d, i - k = d + 1 := ⟨i - k - 1, by omega⟩
      rw [hd, List.getElem?_cons_succ, List.getElem?_drop] at h
      refine .inr (.inr ⟨by omega, ?_⟩)
      rw [show i - 1 = k + d by omega]; exact h
theorem insG_rel {α β : Type} {l : List α} {m : List β} {x : α} {y : β} {k : Nat} (hl : l.length = m.length) (hk : k ≤ l.length) {T : α → β → Prop} (h : ∀ (i : Nat) a b, l[i]? = some a → m[i]? = some b → T a b) (hxy : T x y) :
    ∀ (i : Nat) a b, (l.take k ++ [x] ++ l.drop k)[i]? = some a → (m.take k ++ [y] ++ m.drop k)[i]? = some b → T a b := by
  intro i a b e1 e2
  rcases insG_at hk e1 with ⟨h1, h2⟩ | ⟨h1, rfl⟩ | ⟨h1, h2⟩
  · rcases insG_at (by omega) e2 with ⟨h3, h4⟩ | ⟨h3, rfl⟩ | ⟨h3, h4⟩
    · exact h _ _ _ h2 h4
    · omega
    · omega
  · rcases insG_at (by omega) e2 with ⟨h3, h4⟩ | ⟨h3, rfl⟩ | ⟨h3, h4⟩
    · omega
    · exact hxy
    · omega
  · rcases insG_at (by omega) e2 with ⟨h3, h4⟩ | ⟨h3, rfl⟩ | ⟨h3, h4⟩
    · omega
    · omega
    · exact h _ _ _ h2 h4
theorem hd_getD (X : List Int) : hd X = X.getD 0 0 := rfl
theorem c_l15Add {w : World} {B : Nat} {s x : Sl} {rs : List Sl} {R : List (List Int)} {X : List Int} (h : RW w B s rs R) (hB : B ≤ w.heap.size) (hx : OwnI w B x X) (hX : X ≠ []) (hR : ∀ Y ∈ R, Y ≠ []) (hS : Str R) (hl : R.length < 2^30) (hXl : ∀ Y ∈ R, Y.length < 2^38) :
    Calls PP F.spec_l15Add #[s.v, x.v] w fun e w' => ∃ (s' : Sl) (rs' : List Sl) (R' : List (List Int)) (ok : Bool), e = .returned (.tuple #[s'.v, .bool ok]) ∧ RW w' B s' rs' R' ∧ Stp w w' (fun g => s.blk = some g) (fun g => s'.blk = some g) ∧
      ((ok = true ∧ Str R' ∧ ∀ Z, Z ∈ R' ↔ Z ∈ R ∨ Z = X) ∨ (ok = false ∧ ∃ Y ∈ R, hd Y = hd X ∧ Y ≠ X)) := by
  have hsn : s.n = R.length := h.rows.n
  have hXp : 0 < X.length := List.length_pos_iff.2 hX
  refine spec_l15Add.calls s x ?_
  rw [spec_l15Add.E_s, hsn]
  -- the insertion
  have ins : ∀ (at_ : Nat) (w2 : World), at_ ≤ R.length → Drew w w2 → (∀ j, at_ ≤ j → j < R.length → hd X < hd (R.getD j [])) → (at_ = 0 ∨ hd (R.getD (at_ - 1) []) < hd X) →
      sem1 .sl PP (Instr.buildSlice T_SSint 0 #[]) w2 fun (ρ21 : Sl) ω22 => cutK 1 s (some (at_ : Int)) none fun (s23 : Sl) => sem1 .sl PP (Builtin.append_ #[T_SSint, T_SSint] T_SSint #[Sl.v ρ21, Sl.v s23]) ω22 fun (ρ24 : Sl) ω25 =>
        cutK 1 s none (some (at_ : Int)) fun (s26 : Sl) => sem1 .sl PP (Instr.buildSlice T_SSint 1 #[(0, Sl.v x)]) ω25 fun (ρ27 : Sl) ω28 => sem1 .sl PP (Builtin.append_ #[T_SSint, T_SSint] T_SSint #[Sl.v s26, Sl.v ρ27]) ω28 fun (ρ29 : Sl) ω30 =>
        sem1 .sl PP (Builtin.append_ #[T_SSint, T_SSint] T_SSint #[Sl.v ρ29, Sl.v ρ24]) ω30 fun (ρ31 : Sl) ω32 =>
        (fun e w' => ∃ (s' : Sl) (rs' : List Sl) (R' : List (List Int)) (ok : Bool), e = Ending.returned (.tuple #[s'.v, .bool ok]) ∧ RW w' B s' rs' R' ∧ Stp w w' (fun g => s.blk = some g) (fun g => s'.blk = some g) ∧
          ((ok = true ∧ Str R' ∧ ∀ Z, Z ∈ R' ↔ Z ∈ R ∨ Z = X) ∨ (ok = false ∧ ∃ Y ∈ R, hd Y = hd X ∧ Y ≠ X))) (.returned (.tuple #[Sl.v ρ31, .bool true])) ω32 := by
    intro at_ w2 hat hd2 hgt hle
    have hrl := h.len
    have h2 := h.heap hd2.heap'
    have hx2 : OwnI w2 B x X := Own.heap hx hd2.heap'
    have hb2 : Below B w w2 := hd2.below B
    have hB2 : B ≤ w2.heap.size := Nat.le_trans hB hb2.size
    refine lit0 oneSint (B := w2.heap.size) (Nat.le_refl _) ?_
    intro r w4 hr hg4 _
    have hb24 := below_of_grow hg4
    have h4 := h2.grow hb24
    refine Row.cut h4.out.row (by simp) (by simp <;> omega) (by simp <;> omega) fun s16 hs16 => ?_
    have e2 : (List.take ((none : Option Int).getD (s.n : Int)).toNat (rs.map Sl.v)).drop ((some (at_ : Int)).getD 0).toNat = (rs.drop at_).map Sl.v := by
      rw [hsn]; simp [List.map_drop, List.take_of_length_le, hrl]
    rw [e2] at hs16
    refine append_row oneSint hr hb24.size hs16 (fun v hv => by obtain ⟨x, _, rfl⟩ := List.mem_map.1 hv; exact One.sl x) (by simp; omega) ?_
    intro r2 w5 hr2 hg5 _ _
    rw [List.nil_append] at hr2
    have hb25 := hb24.grown hg5 hb24.size (fun g hg => (hr.lt g hg).1)
    have h5 := h2.grow hb25
    have hb5 := hb2.trans (hb25.mono hB2)
    have hB5 : B ≤ w5.heap.size := Nat.le_trans hB2 hb25.size
    refine Own.pop h5.out (by omega) (by rw [List.length_map]; omega) fun s20 hs20 hblk => ?_
    rw [← List.map_take, Int.toNat_natCast] at hs20
    refine append_one oneSint hs20 hB5 (One.sl x) (by simp; omega) ?_
    intro o7 w7 ho7 hg7 hn7
    have st57 : Stp w5 w7 (fun g => s.blk = some g) (fun g => o7.blk = some g) := ⟨by rw [← hblk]; exact (keeps_grown hg7), fun g hg => by rw [← hblk]; exact hn7 g hg⟩
    have hb57 : Below B w5 w7 := (keeps_grown hg7).below (fun k hk => (hs20.lt k hk).1) hB5
    have keep7 : ∀ r L, OwnI w2 B r L → OwnI w7 B r L := fun r L hr => by
      have h6 := Own.grow hr hb25
      exact h6.kept hg7 (fun g hg' e => (hs20.apt h6 (by decide)) g e hg')
    have hr7 : Own w7 w2.heap.size T_Sint r2 ((rs.drop at_).map Sl.v) := Own.keeps hr2 (keeps_grown hg7) (fun g hg hg2 => by
      rw [hblk] at hg2; have := (h2.out.lt g hg2).2; have := (hr2.lt g hg).1; omega)
    refine append_row oneSint ho7 (Nat.le_trans hB5 hb57.size) hr7.row (fun v hv => by obtain ⟨x, _, rfl⟩ := List.mem_map.1 hv; exact One.sl x) (by simp; omega) ?_
    intro o8 w8 ho8 hg8 hn8 _
    have st58 := st57.trans (Stp.mk (S := fun g => o7.blk = some g) (S' := fun g => o8.blk = some g) (keeps_grown hg8) hn8)
    have hb58 : Below B w5 w8 := hb57.trans ((keeps_grown hg8).below (fun k hk => (ho7.lt k hk).1) (Nat.le_trans hB5 hb57.size))
    have keep8 : ∀ r L, OwnI w2 B r L → OwnI w8 B r L := fun r L hr => by
      have h6 := keep7 r L hr
      exact h6.kept hg8 (fun g hg' e => (ho7.apt h6 (by decide)) g e hg')
    refine ⟨o8, rs.take at_ ++ [x] ++ rs.drop at_, insR R X at_, true, rfl, ⟨?_, ?_, ?_⟩, ((Stp.grow (hd2.below _)).trans (Stp.grow hb25)).trans st58, .inl ⟨rfl, insR_str hS hat hgt hle, fun Z => insR_mem⟩⟩
    · simpa using ho8
    · simp [insR, hrl]
    · exact insG_rel hrl (by omega) (fun i a b e1 e2 => keep8 a b (h2.at_ i a b e1 e2)) (keep8 x X hx2)
  have fin : ∀ (at_ : Int) (w3 : World), 0 ≤ at_ → at_ ≤ R.length → Drew w w3 → (∀ j, at_.toNat ≤ j → j < R.length → hd X < hd (R.getD j [])) → (at_ = 0 ∨ ¬ hd X < hd (R.getD (at_.toNat - 1) [])) →
      spec_l15Add.q1 std (fun e w' => ∃ (s' : Sl) (rs' : List Sl) (R' : List (List Int)) (ok : Bool), e = .returned (.tuple #[s'.v, .bool ok]) ∧ RW w' B s' rs' R' ∧ Stp w w' (fun g => s.blk = some g) (fun g => s'.blk = some g) ∧
      ((ok = true ∧ Str R' ∧ ∀ Z, Z ∈ R' ↔ Z ∈ R ∨ Z = X) ∨ (ok = false ∧ ∃ Y ∈ R, hd Y = hd X ∧ Y ≠ X))) (.exit 0) (spec_l15Add.x0 s x at_) w3 := by
    intro at_ w3 h0 h1 hd3 hgt hle
    have h3 := h.heap hd3.heap'
    have hx3 : OwnI w3 B x X := Own.heap hx hd3.heap'
    rw [spec_l15Add.A2_0_s]
    refine bif_dec (fun hp => ?_) (fun hp => ?_)
    · have e1 : w64 (at_ - 1) = at_ - 1 := w64_id (by omega) (by omega)
      have en : (at_ - 1).toNat = at_.toNat - 1 := by omega
      have hlt : at_.toNat - 1 < R.length := by omega
      rw [e1]
      refine RowSS.get h3.rows (by omega) (by omega) fun r hr => ?_
      rw [en] at hr
      have hne := hR _ (List.getElem_mem hlt)
      rw [← getD_SS hlt] at hne
      have hpos : 0 < (R.getD (at_.toNat - 1) []).length := List.length_pos_iff.2 hne
      refine RowI.get hr (by omega) (by omega) ?_
      refine RowI.get hx3.row (by omega) (by omega) ?_
      refine drew_intro fun w4 hd4 => ?_
      have hd34 := hd3.trans hd4
      have h4 := h.heap hd34.heap'
      refine bif_intro (fun h5 => ?_) (fun h5 => ?_)
      · have heq : hd (R.getD (at_.toNat - 1) []) = hd X := eq_of_beq h5
        refine RowSS.get h4.rows (by omega) (by omega) fun r2 hr2 => ?_
        rw [en] at hr2
        refine Quiet.call1 (s := .bool) (c_l2Same hr2 (Own.heap hx hd34.heap').row (by have := hXl _ (List.getElem_mem hlt); rw [← getD_SS hlt] at this; omega)) ?_
        intro w5 hd5
        have hmem : R.getD (at_.toNat - 1) [] ∈ R := by rw [getD_SS hlt]; exact List.getElem_mem hlt
        refine ⟨s, rs, R, _, rfl, h4.heap hd5.heap', (Stp.grow (hd34.below _)).trans (Stp.grow (hd5.below _)), ?_⟩
        by_cases hs : R.getD (at_.toNat - 1) [] = X
        · refine .inl ⟨decide_eq_true hs, hS, fun Z => ⟨.inl, fun hZ => ?_⟩⟩
          rcases hZ with hZ | rfl
          · exact hZ
          · rw [← hs]; exact hmem
        · exact .inr ⟨decide_eq_false hs, _, hmem, heq, hs⟩
      · have hne2 : hd (R.getD (at_.toNat - 1) []) ≠ hd X := ne_of_beq_false h5
        obtain ⟨a, rfl⟩ : ∃ a : Nat, at_ = a := ⟨at_.toNat, by omega⟩
        refine ins a w4 (by omega) hd34 hgt (.inr ?_)
        rw [Int.toNat_natCast] at hle hne2
        rcases hle with hle | hle <;> omega
    · refine drew_intro fun w4 hd4 => ?_
      obtain rfl : at_ = ((0 : Nat) : Int) := by omega
      exact ins 0 w4 (by omega) (hd3.trans hd4) hgt (.inl rfl)
  refine spec_l15Add.L2_rule _ _ _ _ _ (I := fun at_ w3 => 0 ≤ at_ ∧ at_ ≤ R.length ∧ Drew w w3 ∧ ∀ j, at_.toNat ≤ j → j < R.length → hd X < hd (R.getD j [])) (μ := fun at_ _ => at_.toNat)
    ⟨by omega, by omega, Drew.refl _, fun j hj1 hj2 => by omega⟩ ?_
  rintro at_ w3 ⟨h0, h1, hd3, hgt⟩
  rw [spec_l15Add.B2_s]
  have h3 := h.heap hd3.heap'
  refine bif_dec (fun h4 => ?_) (fun h4 => ?_)
  · refine RowI.get (Own.heap hx hd3.heap').row (by omega) (by omega) ?_
    have e1 : w64 (at_ - 1) = at_ - 1 := w64_id (by omega) (by omega)
    have en : (at_ - 1).toNat = at_.toNat - 1 := by omega
    have hlt : at_.toNat - 1 < R.length := by omega
    rw [e1]
    refine RowSS.get h3.rows (by omega) (by omega) fun r hr => ?_
    rw [en] at hr
    have hne := hR _ (List.getElem_mem hlt)
    rw [← getD_SS hlt] at hne
    have hpos : 0 < (R.getD (at_.toNat - 1) []).length := List.length_pos_iff.2 hne
    refine RowI.get hr (by omega) (by omega) ?_
    refine drew_intro fun w4 hd4 => ?_
    refine bif_dec (fun h5 => ?_) (fun h5 => ?_)
    · refine ⟨at_ - 1, rfl, ⟨by omega, by omega, hd3.trans hd4, fun j hj1 hj2 => ?_⟩, by omega⟩
      by_cases e : j = at_.toNat - 1
      · subst e; exact h5
      · exact hgt j (by omega) hj2
    · exact fin at_ w4 h0 h1 (hd3.trans hd4) hgt (.inr h5)
  · refine drew_intro fun w4 hd4 => ?_
    exact fin at_ w4 h0 h1 (hd3.trans hd4) hgt (.inl (by omega))
theorem class_InCl {LL : List (List Int)} {m : Nat} (hB : BasisOk LL) (hm : m ≤ 6) {p : List Int} (hp : p ∈ classV LL m) : InCl LL p := ⟨hB, permsV_isP (by omega) (classV_mem hp).1, (classV_mem hp).2⟩
theorem vI_one' {L : List Int} : ∀ v ∈ L.map vI, One v := fun v hv => by obtain ⟨x, _, rfl⟩ := List.mem_map.1 hv; exact One.int x
/-- '[]int{label} ++ labels'. -/
theorem make_ent {w : World} {B : Nat} (hB : B ≤ w.heap.size) {a : Int} {K : Sl → World → Prop} (hk : ∀ s w', OwnI w' B s [a] → Below w.heap.size w w' → (∀ g, s.blk = some g → w.heap.size ≤ g) → K s w') :
    sem1 .sl PP (Instr.buildSlice T_Sint 1 #[(0, vI a)]) w K :=
  lit1 oneInt (B := w.heap.size) (Nat.le_refl _) (One.int a) fun s w' hs hg _ => hk s w' (hs.mono hB) (below_of_grow hg) (fun g hg => (hs.lt g hg).1)
theorem c_specRuleUpTo {w : World} {l : Sl} {LL : List (List Int)} (hl : RowSS w l LL) (hL : LL.length < 2^38) (ht : tot LL < 2^37) (n : Int) :
    Calls PP F.spec_RuleUpTo #[l.v, vI n] w fun e w' => ∃ s : Sl, e = .returned (.tuple #[s.v, .bool (RuleUpToV1 LL n)]) ∧ RowSS w' s (RuleUpToV LL n) ∧ Below w.heap.size w w' := by
  have empty : ∀ (w1 : World), Below w.heap.size w w1 → RuleUpToV1 LL n = false → RuleUpToV LL n = [] →
      sem1 .sl PP (Instr.buildSlice T_SSint 0 #[]) w1 fun (ρ2 : Sl) ω3 => (fun e w' => ∃ s : Sl, e = Ending.returned (.tuple #[s.v, .bool (RuleUpToV1 LL n)]) ∧ RowSS w' s (RuleUpToV LL n) ∧ Below w.heap.size w w') (.returned (.tuple #[Sl.v ρ2, .bool false])) ω3 := by
    intro w1 hb1 h1 h2
    refine lit0 oneSint (B := w1.heap.size) (Nat.le_refl _) ?_
    intro o w2 ho hg _
    exact ⟨o, by rw [h1], by rw [h2]; exact (OwnRows.nil ho).row, hb1.trans ((below_of_grow hg).mono hb1.size)⟩
  refine spec_RuleUpTo.calls l n ?_
  rw [spec_RuleUpTo.E_s]
  refine (c_specIsBasis hl hL ht).mono ?_
  rintro e w1 ⟨rfl, hb1⟩
  refine ⟨_, rfl, ?_⟩
  refine bif_intro (fun h => ?_) (fun h => ?_)
  · have h : ¬ BasisOk LL := by simpa [IsBasisV] using h
    obtain ⟨h1, h2⟩ := told_no (LL := LL) (n := n) (fun hh => h hh.1)
    exact empty w1 hb1 h1 h2
  have hBa : BasisOk LL := by simpa [IsBasisV] using h
  refine Pure.pcall1 (s := .bool) (c_l1In n 0 5) ?_
  refine bif_intro (fun h => ?_) (fun h => ?_)
  · have h : ¬ (0 ≤ n ∧ n ≤ 5) := by simp at h; omega
    obtain ⟨h1, h2⟩ := told_no (LL := LL) (n := n) (fun hh => h ⟨hh.2.1, hh.2.2.1⟩)
    exact empty w1 hb1 h1 h2
  have hn5 : 0 ≤ n ∧ n ≤ 5 := by simpa using h
  refine lit0 oneSint (B := w.heap.size) hb1.size ?_
  intro o w2 ho hg2 _
  have hb2 := hb1.trans ((below_of_grow hg2).mono hb1.size)
  refine spec_RuleUpTo.L5_rule _ _ _ _ _ _ (I := fun rule m w' => 0 ≤ m ∧ m ≤ n + 1 ∧ Below w.heap.size w w' ∧ ∃ rs R, RW w' w.heap.size rule rs R ∧ Told (ents LL m.toNat) R) (μ := fun _ m _ => (n + 1 - m).toNat)
    ⟨by omega, by omega, hb2, [], [], ⟨ho, rfl, fun i r L e1 => by simp at e1⟩, List.Pairwise.nil, fun Z => by simp [ents]⟩ ?_
  rintro rule m w3 ⟨hm0, hm, hb3, rs, R, hRW, hT⟩
  rw [spec_RuleUpTo.B5_s]
  refine bif_dec (fun h3 => ?_) (fun h3 => ?_)
  · refine (c_ClassOf (hl.grow hb3) hL ht m).mono ?_
    rintro e w4 ⟨t, rfl, hts, hb34⟩
    refine ⟨t, rfl, ?_⟩
    have hV : ClassOfV LL m = classV LL m.toNat := by rw [ClassOfV, if_pos ⟨hBa, by omega, by omega⟩]
    rw [hV] at hts
    obtain ⟨ts, hts⟩ := hts
    have htn := hts.n
    have hb4 := hb3.trans (hb34.mono hb3.size)
    have hcl : (classV LL m.toNat).length ≤ 46656 := classV_len (by omega)
    refine spec_RuleUpTo.L9_rule _ _ _ _ _ _ _ _ (I := fun rule k w' => 0 ≤ k ∧ k ≤ (classV LL m.toNat).length ∧ Below w.heap.size w w' ∧ OwnRows w' w3.heap.size t ts (classV LL m.toNat) ∧ (∀ g, rule.blk = some g → ¬ foot t ts g) ∧
        ∃ rs R, RW w' w.heap.size rule rs R ∧ Told (ents LL m.toNat ++ ((classV LL m.toNat).take k.toNat).map (ent LL)) R) (μ := fun _ k _ => ((classV LL m.toNat).length - k).toNat)
      ⟨by omega, by omega, hb4, hts, fun g hg hf => by have := (hRW.out.lt g hg).2; have := (hts.footLt hf).1; omega, rs, R, hRW.grow hb34, by simpa using hT⟩ ?_
    rintro rule k w5 ⟨hk0, hk, hb5, hts5, hap, rs, R, hRW, hT⟩
    rw [spec_RuleUpTo.B9_s, htn]
    refine bif_dec (fun h4 => ?_) (fun h4 => ?_)
    · have hlt : k.toNat < (classV LL m.toNat).length := by omega
      refine drew_intro fun w6 hd6 => ?_
      have hRW6 := hRW.heap hd6.heap'
      have hts6 := hts5.heap hd6.heap'
      have hb6 := hb5.trans (hd6.below _)
      obtain ⟨P, hPe⟩ : ∃ P, P = (classV LL m.toNat)[k.toNat] := ⟨_, rfl⟩
      have hPm : P ∈ classV LL m.toNat := by rw [hPe]; exact List.getElem_mem hlt
      have hPl := class_pl hPm
      have hin := class_InCl hBa (by omega) hPm
      have hCV : ChildLabelsV LL P = labsV LL (childrenV LL P) := by rw [ChildLabelsV, if_pos ⟨hin, by omega⟩]
      have hcl2 := childrenV_len LL P
      have fin : ∀ (x : Sl) (w7 : World), Below w6.heap.size w6 w7 → OwnI w7 w6.heap.size x (ent LL P) → ∀ K Q, (∀ rule' w8, (0 ≤ k + 1 ∧ k + 1 ≤ (classV LL m.toNat).length ∧ Below w.heap.size w w8 ∧ OwnRows w8 w3.heap.size t ts (classV LL m.toNat) ∧ (∀ g, rule'.blk = some g → ¬ foot t ts g) ∧
            ∃ rs R, RW w8 w.heap.size rule' rs R ∧ Told (ents LL m.toNat ++ ((classV LL m.toNat).take (k + 1).toNat).map (ent LL)) R) → K (spec_RuleUpTo.emb9 l n rule' m t (k + 1)) w8) →
          (∀ (o : Sl) w8, RuleUpToV1 LL n = false → RuleUpToV LL n = [] → RowSS w8 o [] → Below w.heap.size w w8 → Q .ret [(4, Sl.v o), (5, .bool false)] w8) → spec_RuleUpTo.J12 std l n rule m t k x w7 K Q := by
        intro x w7 hb67 hx K Q hK hQ
        rw [spec_RuleUpTo.J12_s]
        have hRW7 := hRW6.grow hb67
        have hmemE : ∀ Y ∈ R, Y ∈ ents LL (n.toNat + 1) := fun Y hY => by
          rcases List.mem_append.1 ((hT.2 Y).1 hY) with h | h
          · obtain ⟨m', p, hm', hp, rfl⟩ := ents_mem h
            exact ents_mem_of (by omega) hp
          · obtain ⟨p, hp, rfl⟩ := List.mem_map.1 h
            exact ents_mem_of (by omega) (List.mem_of_mem_take hp)
        have hf : ∀ Y ∈ R, Y ≠ [] ∧ Y.length ≤ 8 := fun Y hY => by
          have := ent_facts (n := n.toNat + 1) (by omega) (hmemE Y hY)
          exact ⟨this.2.2.2, this.2.2.1⟩
        have hsh := str_short hT.1 fun z hz => by
          have := ent_facts (n := n.toNat + 1) (by omega) (hmemE z hz)
          exact ⟨this.1, this.2.1⟩
        have hb7 := hb6.trans (hb67.mono hb6.size)
        refine (c_l15Add hRW7 hb7.size (hx.mono hb6.size) (by simp [ent]) (fun Y hY => (hf Y hY).1) hT.1 (by omega) (fun Y hY => by have := (hf Y hY).2; omega)).mono ?_
        rintro e w8 ⟨s', rs', R', ok, rfl, hRW8, hst, hres⟩
        refine ⟨s', ok, rfl, ?_⟩
        have hb8 : Below w.heap.size w w8 := hb7.trans (hst.below (fun g hg => (hRW7.out.lt g hg).1) hb7.size)
        have hts7 := hts6.grow hb67
        rcases hres with ⟨rfl, hS', hm'⟩ | ⟨rfl, Y, hY, hYX, hne⟩
        · refine bif_f rfl ?_
          rw [w64_succ hk0 (by omega)]
          refine hK s' w8 ⟨by omega, by omega, hb8, hts7.keepsF hst.keeps (fun g h1 h2 => hap g h2 h1), hst.apart (fun g hg => (hts7.footLt hg).2) hap, rs', R', hRW8, hS', fun Z => ?_⟩
          rw [show (k + 1).toNat = k.toNat + 1 by omega, List.take_succ_eq_append_getElem hlt, ← hPe, hm', hT.2]
          simp only [List.map_append, List.mem_append, List.map_cons, List.map_nil, List.mem_singleton]
          rw [or_assoc]
        · refine bif_t rfl ?_
          refine lit0 oneSint (B := w8.heap.size) (Nat.le_refl _) ?_
          intro o w9 ho9 hg9 _
          have hno := not_told (hmemE Y hY) (ents_mem_of (LL := LL) (n := n.toNat + 1) (m := m.toNat) (p := P) (by omega) hPm) hYX hne
          obtain ⟨h1, h2⟩ := told_no (LL := LL) (n := n) (fun hh => hno hh.2.2.2)
          exact hQ o w9 h1 h2 (OwnRows.nil ho9).row (hb8.trans ((below_of_grow hg9).mono hb8.size))
      have hK : ∀ rule' w8, (0 ≤ k + 1 ∧ k + 1 ≤ (classV LL m.toNat).length ∧ Below w.heap.size w w8 ∧ OwnRows w8 w3.heap.size t ts (classV LL m.toNat) ∧ (∀ g, rule'.blk = some g → ¬ foot t ts g) ∧
            ∃ rs R, RW w8 w.heap.size rule' rs R ∧ Told (ents LL m.toNat ++ ((classV LL m.toNat).take (k + 1).toNat).map (ent LL)) R) → (fun e2 w' => ∃ rule_n k_n, e2 = spec_RuleUpTo.emb9 l n rule_n m t k_n ∧ (0 ≤ k_n ∧ k_n ≤ (classV LL m.toNat).length ∧ Below w.heap.size w w' ∧ OwnRows w' w3.heap.size t ts (classV LL m.toNat) ∧ (∀ g, rule_n.blk = some g → ¬ foot t ts g) ∧
        ∃ rs R, RW w' w.heap.size rule_n rs R ∧ Told (ents LL m.toNat ++ ((classV LL m.toNat).take k_n.toNat).map (ent LL)) R) ∧ ((classV LL m.toNat).length - k_n).toNat < ((classV LL m.toNat).length - k).toNat) (spec_RuleUpTo.emb9 l n rule' m t (k + 1)) w8 :=
        fun rule' w8 h => ⟨rule', k + 1, rfl, h, by omega⟩
      -- the parts
      have hS : ∀ {w7 : World} {r : Sl}, Below w6.heap.size w6 w7 → RowI w7 r P → Calls PP F.spec_l14Sites #[l.v, r.v] w7 fun e w8 => ∃ u : Sl, e = .returned u.v ∧ (u.n : Int) = siteN LL P ∧ Below w6.heap.size w6 w8 ∧ Below w7.heap.size w7 w8 := fun {w7 r} hb67 hr =>
        (c_l14Sites ((hl.grow hb6).grow hb67) hBa hr (by omega)).mono fun e w8 ⟨u, he, hu, hb⟩ => ⟨u, he, by have := hu.n; rw [List.length_map] at this; rw [siteN, this], hb67.trans (hb.mono hb67.size), hb⟩
      have hC : ∀ {w7 : World} {r : Sl}, Below w6.heap.size w6 w7 → RowI w7 r P → Calls PP F.spec_ChildLabels #[l.v, r.v] w7 fun e w8 => ∃ u : Sl, e = .returned u.v ∧ RowI w8 u (labsV LL (childrenV LL P)) ∧ Below w6.heap.size w6 w8 ∧ Below w7.heap.size w7 w8 := fun {w7 r} hb67 hr =>
        (c_specChildLabels ((hl.grow hb6).grow hb67) hL ht hr (by omega)).mono fun e w8 ⟨u, he, hu, hb⟩ => ⟨u, he, by rw [← hCV]; exact hu, hb67.trans (hb.mono hb67.size), hb⟩
      have hA : ∀ {w7 : World} {x u : Sl} {K : Sl → World → Prop}, Below w6.heap.size w6 w7 → OwnI w7 w6.heap.size x [siteN LL P] → RowI w7 u (labsV LL (childrenV LL P)) → (∀ x' w8, Below w6.heap.size w6 w8 → OwnI w8 w6.heap.size x' (ent LL P) → K x' w8) →
          sem1 .sl PP (Builtin.append_ #[T_Sint, T_Sint] T_Sint #[Sl.v x, Sl.v u]) w7 K := fun {w7 x u K} hb67 hx hu hk => by
        refine append_row oneInt hx hb67.size hu vI_one' (by rw [List.length_map, List.length_map, labsV_length]; simp; omega) ?_
        intro x' w8 hx' hg8 _ _
        rw [← List.map_append] at hx'
        exact hk x' w8 (hb67.grown hg8 hb67.size (fun g hg => (hx.lt g hg).1)) hx'
      have hQ := fun (o : Sl) (w8 : World) (h1 : RuleUpToV1 LL n = false) (h2 : RuleUpToV LL n = []) (h3 : RowSS w8 o []) (h4 : Below w.heap.size w w8) =>
        (show spec_RuleUpTo.q15 std (fun e2 w' => ∃ rule_n m_n, e2 = spec_RuleUpTo.emb5 l n rule_n m_n ∧ (0 ≤ m_n ∧ m_n ≤ n + 1 ∧ Below w.heap.size w w' ∧ ∃ rs R, RW w' w.heap.size rule_n rs R ∧ Told (ents LL m_n.toNat) R) ∧ (n + 1 - m_n).toNat < (n + 1 - m).toNat) (spec_RuleUpTo.q10 std (fun e w' => ∃ s : Sl, e = .returned (.tuple #[s.v, .bool (RuleUpToV1 LL n)]) ∧ RowSS w' s (RuleUpToV LL n) ∧ Below w.heap.size w w')) .ret [(4, Sl.v o), (5, .bool false)] w8 by
          rw [spec_RuleUpTo.R9_s, spec_RuleUpTo.R5_s]
          exact ⟨o, by rw [h1], by rw [h2]; exact h3, h4⟩)
      have hrow6 := hts6.row
      refine RowSS.place hrow6 hk0 (by omega) fun a20 r20 hc20 hr20 => ?_
      refine RowSS.place hrow6 hk0 (by omega) fun a21 r21 hc21 hr21 => ?_
      rw [getD_SS hlt, ← hPe] at hr20 hr21
      have one : ∀ {w7 : World} {K : Sl → World → Prop}, Below w6.heap.size w6 w7 → (∀ x w8, Below w6.heap.size w6 w8 → Below w7.heap.size w7 w8 → OwnI w8 w6.heap.size x [siteN LL P] → K x w8) → sem1 .sl PP (Instr.buildSlice T_Sint 1 #[(0, vI (siteN LL P))]) w7 K := fun {w7 K} hb67 hk =>
        make_ent hb67.size fun x w8 hx hb78 _ => hk x w8 (hb67.trans (hb78.mono hb67.size)) hb78 hx
      have b0 := Below.refl w6.heap.size w6
      have T1 : ∀ {w7 : World} {r : Sl}, Below w6.heap.size w6 w7 → RowI w6 r P → ∀ K Q, (∀ x w9, Below w6.heap.size w6 w9 → OwnI w9 w6.heap.size x (ent LL P) → spec_RuleUpTo.J12 std l n rule m t k x w9 K Q) →
          sem1 .sl PP (Instr.buildSlice T_Sint 1 #[(0, vI (siteN LL P))]) w7 fun (ρ25 : Sl) ω26 => call1 .sl PP F.spec_ChildLabels #[Sl.v l, Sl.v r] ω26 fun (ρ28 : Sl) ω29 => sem1 .sl PP (Builtin.append_ #[T_Sint, T_Sint] T_Sint #[Sl.v ρ25, Sl.v ρ28]) ω29 fun (ρ30 : Sl) ω31 =>
          spec_RuleUpTo.J12 std l n rule m t k ρ30 ω31 K Q := fun {w7 r} hb67 hr K Q hJ => by
        refine one hb67 fun x w8 hb8 _ hx => ?_
        refine (hC hb8 (hr.grow hb8)).mono ?_
        rintro e w9 ⟨u, rfl, hu, hb9, hb89⟩
        exact ⟨u, rfl, hA hb9 (Own.grow hx hb89) hu fun x' w10 hb10 hx' => hJ x' w10 hb10 hx'⟩
      have T2 : ∀ {w7 : World} {r : Sl}, Below w6.heap.size w6 w7 → RowI w6 r P → ∀ K Q, (∀ x w9, Below w6.heap.size w6 w9 → OwnI w9 w6.heap.size x (ent LL P) → spec_RuleUpTo.J12 std l n rule m t k x w9 K Q) →
          call1 .sl PP F.spec_ChildLabels #[Sl.v l, Sl.v r] w7 fun (ρ28 : Sl) ω29 => sem1 .sl PP (Instr.buildSlice T_Sint 1 #[(0, vI (siteN LL P))]) ω29 fun (ρ25 : Sl) ω26 => sem1 .sl PP (Builtin.append_ #[T_Sint, T_Sint] T_Sint #[Sl.v ρ25, Sl.v ρ28]) ω26 fun (ρ30 : Sl) ω31 =>
          spec_RuleUpTo.J12 std l n rule m t k ρ30 ω31 K Q := fun {w7 r} hb67 hr K Q hJ => by
        refine (hC hb67 (hr.grow hb67)).mono ?_
        rintro e w9 ⟨u, rfl, hu, hb9, hb89⟩
        refine ⟨u, rfl, ?_⟩
        refine one hb9 fun x w8 hb8 hb98 hx => ?_
        exact hA hb8 hx (hu.grow hb98) fun x' w10 hb10 hx' => hJ x' w10 hb10 hx'
      refine ⟨load_sl hc20 ⟨?_, load_sl hc21 ?_⟩, load_sl hc21 (K := fun ξ65 => load1 .sl a20 w6 _) (load_sl hc20 ?_)⟩
      · refine (hS b0 hr20).mono ?_
        rintro e w7 ⟨u, rfl, hu, hb7, _⟩
        refine ⟨u, rfl, ?_⟩
        simp only [hu]
        refine ⟨?_, load_sl (cell_grow hc21 hb7) ⟨T1 hb7 hr21 _ _ fun x w9 hb9 hx => fin x w9 hb9 hx _ _ hK hQ, T2 hb7 hr21 _ _ fun x w9 hb9 hx => fin x w9 hb9 hx _ _ hK hQ⟩⟩
        refine one hb7 fun x w8 hb8 _ hx => ?_
        refine load_sl (cell_grow hc21 hb8) ?_
        refine (hC hb8 (hr21.grow hb8)).mono ?_
        rintro e w9 ⟨u, rfl, hu, hb9, hb89⟩
        exact ⟨u, rfl, hA hb9 (Own.grow hx hb89) hu fun x' w10 hb10 hx' => fin x' w10 hb10 hx' _ _ hK hQ⟩
      · refine (hS b0 hr20).mono ?_
        rintro e w7 ⟨u, rfl, hu, hb7, _⟩
        refine ⟨u, rfl, ?_⟩
        simp only [hu]
        exact ⟨T1 hb7 hr21 _ _ fun x w9 hb9 hx => fin x w9 hb9 hx _ _ hK hQ, T2 hb7 hr21 _ _ fun x w9 hb9 hx => fin x w9 hb9 hx _ _ hK hQ⟩
      · refine (hS b0 hr20).mono ?_
        rintro e w7 ⟨u, rfl, hu, hb7, _⟩
        refine ⟨u, rfl, ?_⟩
        simp only [hu]
        exact ⟨T1 hb7 hr21 _ _ fun x w9 hb9 hx => fin x w9 hb9 hx _ _ hK hQ, T2 hb7 hr21 _ _ fun x w9 hb9 hx => fin x w9 hb9 hx _ _ hK hQ⟩
    · rw [spec_RuleUpTo.A9_2_s]
      have e : k.toNat = (classV LL m.toNat).length := by omega
      rw [e, List.take_length, ← ents_succ] at hT
      refine ⟨rule, m + 1, by rw [w64_succ hm0 (by omega)], ⟨by omega, by omega, hb5, rs, R, hRW, ?_⟩, by omega⟩
      rw [show (m + 1).toNat = m.toNat + 1 by omega]; exact hT
  · rw [spec_RuleUpTo.A5_0_s]
    have e : m.toNat = n.toNat + 1 := by omega
    rw [e] at hT
    obtain ⟨h1, h2⟩ := told_V hBa hn5.1 hn5.2 hT
    exact ⟨rule, by rw [h1], by rw [h2]; exact hRW.rows, hb3⟩
end Go.Proofs.YteplokddaebbeaaGreat

/- A map whose keys are numbers and whose values are rows: looking up, storing, ranging. -/
namespace Go.Proofs.YteplokddaebbeaaGreat
open Go Go.RowKit
set_option maxRecDepth 100000

theorem u_mapI : PP.underlying T_Mint_Sint = some (.map T_int T_Sint) := by kernel_rfl
theorem u_intI : PP.underlying T_int = some (.int .i64) := by kernel_rfl
@[reducible] def EntI := Int × Sl × List Int
def rowE (t : EntI) : List Int := t.1 :: t.2.2
structure MapI (w : World) (B r : Nat) (T : List EntI) : Prop where
  obj : ∃ es clock, w.heap[r]? = some (.map es clock) ∧ es.toList.map (fun e => (e.key, e.val)) = T.map (fun t => (vI t.1, t.2.1.v)) ∧ (es.toList.map (·.born)).Nodup ∧ ∀ e ∈ es.toList, e.born < clock
  keys : (T.map (·.1)).Nodup
  own : ∀ t ∈ T, OwnI w B t.2.1 t.2.2
theorem MapI.lt {w B r T} (h : MapI w B r T) : r < w.heap.size := by
  obtain ⟨es, clock, hg, _⟩ := h.obj
  exact (Array.getElem?_eq_some_iff.1 hg).1
theorem MapI.keeps {S : Nat → Prop} {w w' B r T} (h : MapI w B r T) (hk : Keeps S w w') (hr : ¬ S r) (hS : ∀ t ∈ T, ∀ g, t.2.1.blk = some g → ¬ S g) : MapI w' B r T := by
  obtain ⟨es, clock, hg, h1, h2⟩ := h.obj
  exact ⟨⟨es, clock, by rw [hk.block r (Array.getElem?_eq_some_iff.1 hg).1 hr]; exact hg, h1, h2⟩, h.keys, fun t ht => (h.own t ht).keeps hk (hS t ht)⟩
theorem MapI.grow {w w' B r T} (h : MapI w B r T) (hb : Below w.heap.size w w') : MapI w' B r T :=
  h.keeps (S := fun _ => False) ((keeps_grown (grow_of_below hb)).mono fun _ e => (by cases e)) id fun _ _ _ _ => id
theorem MapI.heap {w w' B r T} (h : MapI w B r T) (hh : w'.heap = w.heap) : MapI w' B r T := by
  obtain ⟨es, clock, hg, h1, h2⟩ := h.obj
  exact ⟨⟨es, clock, by rw [hh]; exact hg, h1, h2⟩, h.keys, fun t ht => (h.own t ht).heap hh⟩
theorem find_int (a : Int) : ∀ (es : List MapEntry) (i : Nat), (∀ e ∈ es, ∃ k, e.key = vI k) →
    ∃ res, Instr.findNow (.int .i64) (vI a) es i = some res ∧ ((res = none ∧ ∀ e ∈ es, e.key ≠ vI a) ∨ ∃ j e, res = some (i + j, e.val) ∧ es[j]? = some e ∧ e.key = vI a)
  | [], i, _ => ⟨none, rfl, .inl ⟨rfl, fun e he => (by cases he)⟩⟩
  | e :: es, i, h => by
    obtain ⟨k, hk⟩ := h e (by simp)
    by_cases hak : a = k
    · subst hak
      refine ⟨some (i, e.val), ?_, .inr ⟨0, e, rfl, rfl, hk⟩⟩
      simp [Instr.findNow, hk, Instr.sameNow]
    · obtain ⟨res, h1, h2⟩ := find_int a es (i + 1) fun e' he' => h e' (by simp [he'])
      refine ⟨res, ?_, ?_⟩
      · simp only [Instr.findNow, hk, Instr.sameNow, if_true]
        have : (a == k) = false := by simpa using hak
        rw [this]
        exact h1
      · rcases h2 with ⟨h3, h4⟩ | ⟨j, e', h3, h4, h5⟩
        · refine .inl ⟨h3, fun e' he' => ?_⟩
          rcases List.mem_cons.1 he' with rfl | he'
          · rw [hk]; intro e; simp at e; exact hak e.symm
          · exact h4 e' he'
        · exact .inr ⟨j + 1, e', by rw [h3]; congr 2; omega, h4, h5⟩
theorem align_at {es : List MapEntry} {T : List EntI} (h : es.map (fun e => (e.key, e.val)) = T.map (fun t => (vI t.1, t.2.1.v))) {i : Nat} {e : MapEntry} (he : es[i]? = some e) : ∃ t, T[i]? = some t ∧ e.key = vI t.1 ∧ e.val = t.2.1.v := by
  have h1 : (es.map (fun e => (e.key, e.val)))[i]? = (T.map (fun t => (vI t.1, t.2.1.v)))[i]? := by rw [h]
  rw [List.getElem?_map, List.getElem?_map, he] at h1
  cases ht : T[i]? with
  | none => rw [ht] at h1; simp at h1
  | some t =>
    rw [ht] at h1
    simp at h1
    exact ⟨t, rfl, h1.1, h1.2⟩
theorem align_back {es : List MapEntry} {T : List EntI} (h : es.map (fun e => (e.key, e.val)) = T.map (fun t => (vI t.1, t.2.1.v))) {i : Nat} {t : EntI} (ht : T[i]? = some t) : ∃ e, es[i]? = some e ∧ e.key = vI t.1 ∧ e.val = t.2.1.v := by
  have h1 : (es.map (fun e => (e.key, e.val)))[i]? = (T.map (fun t => (vI t.1, t.2.1.v)))[i]? := by rw [h]
  rw [List.getElem?_map, List.getElem?_map, ht] at h1
  cases he : es[i]? with
  | none => rw [he] at h1; simp at h1
  | some e =>
    rw [he] at h1
    simp at h1
    exact ⟨e, rfl, h1.1, h1.2⟩
theorem key_int {es : List MapEntry} {T : List EntI} (h : es.map (fun e => (e.key, e.val)) = T.map (fun t => (vI t.1, t.2.1.v))) : ∀ e ∈ es, ∃ k, e.key = vI k := fun e he => by
  obtain ⟨i, hi, rfl⟩ := List.getElem_of_mem he
  obtain ⟨t, _, hk, _⟩ := align_at h (List.getElem?_eq_getElem hi)
  exact ⟨t.1, hk⟩
theorem vI_inj {a b : Int} (h : vI a = vI b) : a = b := by simpa using h
theorem check_I (e : Bool) (a : Int) (w : World) : (Instr.checkKey e 10000 T_int (vI a)).run PP w = .ok () w := by
  rw [show (10000 : Nat) = 9999 + 1 from rfl, Instr.checkKey]
  simp [run_underlying u_intI]
theorem zero_Sint (w : World) : (zeroValue T_Sint).run PP w = .ok (Sl.nil.v) w := by
  have : (PP.info? T_Sint).map (·.zero) = some (some (Sl.nil.v)) := by kernel_rfl
  cases hi : PP.info? T_Sint with
  | none => rw [hi] at this; cases this
  | some i =>
    rw [hi] at this
    simp at this
    simp [zeroValue, typeInfo, hi, this]
theorem lookI {w B r T} (h : MapI w B r T) (a : Int) {K : Sl → Bool → World → Prop} (h1 : ∀ t ∈ T, t.1 = a → K t.2.1 true w) (h2 : (∀ t ∈ T, t.1 ≠ a) → K Sl.nil false w) : sem2 .sl .bool PP (Instr.lookup T_Mint_Sint (.map (some r)) (vI a) true) w K := by
  obtain ⟨es, clock, hg, hal, _, _⟩ := h.obj
  obtain ⟨q, h3, h4⟩ := find_int a es.toList 0 (key_int hal)
  have hobj : (getObj r).run PP w = .ok (.map es clock) w := by simp [getObj, Sem.run, hg]
  have hfk : (Instr.findKey T_int (vI a) es.toList).run PP w = .ok q w := by
    simp only [Instr.findKey, Sem.run_bind, run_underlying u_intI, Result.andThen_ok, h3, Sem.run_pure]
  rcases h4 with ⟨rfl, h5⟩ | ⟨j, e, rfl, h5, h6⟩
  · refine ⟨Sl.nil, false, w, ?_, h2 fun t ht hta => ?_⟩
    · simp only [Instr.lookup, Sem.run_bind, run_underlying u_mapI, Result.andThen_ok, hobj, Sem.run_pure, check_I, hfk, zero_Sint]
      rfl
    · obtain ⟨i, hi, rfl⟩ := List.getElem_of_mem ht
      obtain ⟨e, he, hk, _⟩ := align_back hal (List.getElem?_eq_getElem hi)
      exact h5 e (List.mem_of_getElem? he) (by rw [hk, hta])
  · obtain ⟨t, ht, hk, hv⟩ := align_at hal h5
    refine ⟨t.2.1, true, w, ?_, h1 t (List.mem_of_getElem? ht) (vI_inj (by rw [← hk, h6]))⟩
    simp only [Instr.lookup, Sem.run_bind, run_underlying u_mapI, Result.andThen_ok, hobj, Sem.run_pure, check_I, hfk, hv]
    rfl
theorem set_mapI {w : World} {r : Nat} {es es' : Array MapEntry} {c c' : Nat} (hg : w.heap[r]? = some (.map es c)) : ∃ w', (setObj r (.map es' c')).run PP w = .ok () w' ∧ w'.heap[r]? = some (.map es' c') ∧ w.grownBy w' (some r) ∧ w'.heap.size = w.heap.size := by
  have hlt : r < w.heap.size := (Array.getElem?_eq_some_iff.1 hg).1
  refine ⟨{ w with heap := w.heap.setIfInBounds r (.map es' c') }, by simp [setObj, Sem.run, hg], ?_, ⟨rfl, rfl, rfl, by simp, fun k hk hne => ?_⟩, by simp⟩
  · simp [hlt]
  · simp only
    rw [Array.getElem?_setIfInBounds_ne]
    intro e; exact hne (by rw [e])
/-- A row's block is no map. -/
theorem own_ne_map {w B r es c e s vs} (h : Own w B e s vs) (hg : w.heap[r]? = some (.map es c)) : ∀ g, s.blk = some g → g ≠ r := fun g h1 h2 => by
  obtain ⟨cur, hc⟩ := h.heapAt h1
  rw [h2, hg] at hc
  cases hc
theorem putI {w B r T} (h : MapI w B r T) (a : Int) {x : Sl} {X : List Int} (hx : OwnI w B x X) (hsame : ∀ t ∈ T, t.1 = a → t.2.2 = X) {K : World → Prop}
    (hk : ∀ w' T', MapI w' B r T' → w.grownBy w' (some r) → w'.heap.size = w.heap.size → (∀ Z, Z ∈ T'.map rowE ↔ Z ∈ T.map rowE ∨ Z = a :: X) → T'.length ≤ T.length + 1 → K w') : sem0 PP (Instr.mapUpdate T_Mint_Sint (.map (some r)) (vI a) (Sl.v x)) w K := by
  obtain ⟨es, clock, hg, hal, hnd, hbo⟩ := h.obj
  obtain ⟨q, h3, h4⟩ := find_int a es.toList 0 (key_int hal)
  have hobj : (getObj r).run PP w = .ok (.map es clock) w := by simp [getObj, Sem.run, hg]
  have hfk : (Instr.findKey T_int (vI a) es.toList).run PP w = .ok q w := by
    simp only [Instr.findKey, Sem.run_bind, run_underlying u_intI, Result.andThen_ok, h3, Sem.run_pure]
  have hkept : ∀ {w' : World} {t : Sl} {L : List Int}, w.grownBy w' (some r) → OwnI w B t L → OwnI w' B t L := fun {w' t L} hg' ht => ht.kept hg' (fun g hgb e => own_ne_map ht hg g hgb (by cases e; rfl))
  have hlen : es.toList.length = T.length := by have := congrArg List.length hal; simpa using this
  rcases h4 with ⟨rfl, h5⟩ | ⟨j, e, rfl, h5, h6⟩
  · obtain ⟨w', s1, s2, s3, s4⟩ := set_mapI (es' := es.push { key := vI a, val := x.v, born := clock }) (c' := clock + 1) hg
    have hnew : ∀ t ∈ T, t.1 ≠ a := fun t ht hta => by
      obtain ⟨i, hi, rfl⟩ := List.getElem_of_mem ht
      obtain ⟨e, he, hk, _⟩ := align_back hal (List.getElem?_eq_getElem hi)
      exact h5 e (List.mem_of_getElem? he) (by rw [hk, hta])
    refine ⟨w', ?_, hk w' (T ++ [(a, x, X)]) ⟨⟨_, _, s2, ?_, ?_, ?_⟩, ?_, ?_⟩ s3 s4 (fun Z => ?_) (by simp)⟩
    · simp only [Instr.mapUpdate, Sem.run_bind, run_underlying u_mapI, Result.andThen_ok, hobj, check_I, hfk]
      exact s1
    · rw [Array.toList_push, List.map_append, List.map_append, hal]; rfl
    · rw [Array.toList_push, List.map_append, List.nodup_append]
      refine ⟨hnd, by simp, fun b hb c hc => ?_⟩
      simp at hc
      obtain ⟨e, he, rfl⟩ := List.mem_map.1 hb
      have := hbo e he
      omega
    · intro e he
      rw [Array.toList_push] at he
      rcases List.mem_append.1 he with he | he
      · have := hbo e he; omega
      · simp at he; subst he; simp
    · rw [List.map_append, List.nodup_append]
      refine ⟨h.keys, by simp, fun b hb c hc => ?_⟩
      obtain ⟨t, ht, rfl⟩ := List.mem_map.1 hb
      simp at hc
      rw [hc]; exact hnew t ht
    · intro t ht
      rcases List.mem_append.1 ht with ht | ht
      · exact hkept s3 (h.own t ht)
      · simp at ht; subst ht; exact hkept s3 hx
    · simp [rowE]
  · obtain ⟨t, ht, hkt, hvt⟩ := align_at hal h5
    have hta : t.1 = a := vI_inj (by rw [← hkt, h6])
    have htX := hsame t (List.mem_of_getElem? ht) hta
    have hj : es[j]? = some e := by rw [← Array.getElem?_toList]; exact h5
    have hjT : j < T.length := (List.getElem?_eq_some_iff.1 ht).1
    have hTj : T[j] = t := (List.getElem?_eq_some_iff.1 ht).2
    obtain ⟨w', s1, s2, s3, s4⟩ := set_mapI (es' := es.modify j fun e => { e with key := vI a, val := x.v }) (c' := clock) hg
    have hsame2 : (Instr.keyThatStays (((es[j]?).map (·.key)).getD (vI a)) (vI a)).run PP w = .ok (vI a) w := by
      rw [hj]
      simp [Option.map_some, Option.getD_some, h6, Instr.keyThatStays, Instr.sameBits]
    have hmod : (es.modify j fun e => { e with key := vI a, val := x.v }).toList = es.toList.modify j fun e => { e with key := vI a, val := x.v } := by simp
    have hrows : (T.set j (a, x, X)).map rowE = T.map rowE := by
      rw [List.map_set]
      apply List.ext_getElem?
      intro i
      rw [List.getElem?_set]
      split
      · rename_i e'
        subst e'
        split
        · rw [List.getElem?_map, ht]; simp [rowE, hta, htX]
        · rename_i hh; simp at hh; omega
      · rfl
    refine ⟨w', ?_, hk w' (T.set j (a, x, X)) ⟨⟨_, _, s2, ?_, ?_, ?_⟩, ?_, ?_⟩ s3 s4 (fun Z => ?_) (by simp)⟩
    · simp only [Instr.mapUpdate, Sem.run_bind, run_underlying u_mapI, Result.andThen_ok, hobj, check_I, hfk, Nat.zero_add, hsame2]
      exact s1
    · rw [hmod]
      apply List.ext_getElem?
      intro i
      rw [List.getElem?_map, List.getElem?_map, List.getElem?_modify, List.getElem?_set]
      have hi2 : (es.toList.map (fun e => (e.key, e.val)))[i]? = (T.map (fun t => (vI t.1, t.2.1.v)))[i]? := by rw [hal]
      rw [List.getElem?_map, List.getElem?_map] at hi2
      by_cases hij : j = i
      · subst hij
        rw [if_pos rfl, if_pos hjT]
        rw [Array.getElem?_toList, hj]
        simp
      · rw [if_neg hij]
        simpa [hij] using hi2
    · rw [hmod]
      have : (es.toList.modify j fun e => { e with key := vI a, val := x.v }).map (·.born) = es.toList.map (·.born) := by
        apply List.ext_getElem?
        intro i
        rw [List.getElem?_map, List.getElem?_map, List.getElem?_modify]
        by_cases hij : j = i
        · subst hij
          cases es.toList[j]? <;> simp
        · cases es.toList[i]? <;> simp [hij]
      rw [this]; exact hnd
    · intro e' he'
      rw [hmod] at he'
      obtain ⟨i, hi, rfl⟩ := List.getElem_of_mem he'
      rw [List.getElem_modify]
      have hi' : i < es.toList.length := by simpa using hi
      have := hbo _ (List.getElem_mem hi')
      split <;> simpa using this
    · have : (T.set j (a, x, X)).map (·.1) = T.map (·.1) := by
        rw [List.map_set]
        apply List.ext_getElem?
        intro i
        rw [List.getElem?_set]
        split
        · rename_i e'
          subst e'
          split
          · rw [List.getElem?_map, ht]; simp [hta]
          · rename_i hh; simp at hh; omega
        · rfl
      rw [this]; exact h.keys
    · intro t' ht'
      rcases List.mem_or_eq_of_mem_set ht' with h7 | h7
      · exact hkept s3 (h.own t' h7)
      · subst h7; exact hkept s3 hx
    · rw [hrows]
      constructor
      · exact .inl
      · rintro (h7 | rfl)
        · exact h7
        · exact List.mem_map.2 ⟨t, List.mem_of_getElem? ht, by simp [rowE, hta, htX]⟩
theorem newI {w : World} {B : Nat} {K : Option Nat → World → Prop} (hk : ∀ w', MapI w' B w.heap.size [] → Below w.heap.size w w' → K (some w.heap.size) w') : sem1 .map PP (Instr.makeMap T_Mint_Sint none) w K := by
  refine ⟨some w.heap.size, w.alloc (.map #[] 0), ?_, hk _ ⟨⟨#[], 0, heap_alloc_new w _, rfl, by simp, fun e he => by simp at he⟩, by simp, fun t ht => by cases ht⟩ (below_of_grow (World.grownBy_alloc w _ none))⟩
  simp [Instr.makeMap, run_underlying u_mapI, newObj, Sem.run]
end Go.Proofs.YteplokddaebbeaaGreat

/- A range over such a map, under way. -/
namespace Go.Proofs.YteplokddaebbeaaGreat
open Go Go.RowKit
open Go.ChangeMaps (setBlock)
set_option maxRecDepth 100000

theorem setBlock_heap {w : World} {r : Nat} {o o' : Obj} (h : w.heap[r]? = some o) : (setBlock w r o').heap[r]? = some o' ∧ w.grownBy (setBlock w r o') (some r) ∧ (setBlock w r o').heap.size = w.heap.size := by
  have hlt : r < w.heap.size := (Array.getElem?_eq_some_iff.1 h).1
  refine ⟨by simp [setBlock, hlt], ⟨rfl, rfl, rfl, by simp [setBlock], fun k hk hne => ?_⟩, by simp [setBlock]⟩
  simp only [setBlock]
  rw [Array.getElem?_setIfInBounds_ne]
  intro e; exact hne (by rw [e])
/-- The iterator r over the map b that holds T; the entries at I have come. -/
structure Ran (w : World) (B r b : Nat) (T : List EntI) (I : List Nat) : Prop where
  map : MapI w B b T
  it : ∃ es clock since seen c0, w.heap[b]? = some (.map es clock) ∧ es.toList.map (fun e => (e.key, e.val)) = T.map (fun t => (vI t.1, t.2.1.v)) ∧ (es.toList.map (·.born)).Nodup ∧ w.heap[r]? = some (.mapIter (some b) since seen c0) ∧
    (∀ x ∈ es.toList, x.born < since) ∧ since ≤ c0 ∧ seen.toList = I.map (fun i => (es.toList.map (·.born)).getD i 0) ∧ since ≤ clock
  nd : I.Nodup
  lt : ∀ i ∈ I, i < T.length
theorem Ran.rlt {w B r b T I} (h : Ran w B r b T I) : r < w.heap.size := by
  obtain ⟨es, clock, since, seen, c0, _, _, _, hr, _⟩ := h.it
  exact (Array.getElem?_eq_some_iff.1 hr).1
theorem Ran.keeps {S : Nat → Prop} {w w' B r b T I} (h : Ran w B r b T I) (hk : Keeps S w w') (hr : ¬ S r) (hb : ¬ S b) (hS : ∀ t ∈ T, ∀ g, t.2.1.blk = some g → ¬ S g) : Ran w' B r b T I := by
  refine ⟨h.map.keeps hk hb hS, ?_, h.nd, h.lt⟩
  obtain ⟨es, clock, since, seen, c0, h1, h2, h3, h4, h5⟩ := h.it
  exact ⟨es, clock, since, seen, c0, by rw [hk.block b (Array.getElem?_eq_some_iff.1 h1).1 hb]; exact h1, h2, h3, by rw [hk.block r (Array.getElem?_eq_some_iff.1 h4).1 hr]; exact h4, h5⟩
theorem range_mapI {w B b T} (h : MapI w B b T) {K : Value → World → Prop} (hk : ∀ w', Ran w' B w.heap.size b T [] → Below w.heap.size w w' → K (.pointer (some ⟨w.heap.size, 0, none⟩)) w') : sem1 .any PP (Instr.range T_Mint_Sint (.map (some b))) w K := by
  obtain ⟨es, clock, hg, hal, hnd, hbo⟩ := h.obj
  have hb : Below w.heap.size w (w.alloc (.mapIter (some b) clock #[] clock)) := below_of_grow (World.grownBy_alloc w _ none)
  refine ⟨.pointer (some ⟨w.heap.size, 0, none⟩), _, run_range_map w T_Mint_Sint T_int T_Sint b es clock u_mapI hg, hk _ ⟨h.grow hb, ⟨es, clock, clock, #[], clock, ?_, hal, hnd, heap_alloc_new w _, hbo, Nat.le_refl _, by simp, Nat.le_refl _⟩, by simp, fun i hi => (by cases hi)⟩ hb⟩
  rw [hb.block b (Array.getElem?_eq_some_iff.1 hg).1]; exact hg
theorem next_mapI {w B r b T I} (h : Ran w B r b T I) {Kf : World → Prop} {Kt : Value → Value → World → Prop} (hf : (∀ i, i < T.length → i ∈ I) → Kf w)
    (ht : ∀ i t w', T[i]? = some t → i ∉ I → Ran w' B r b T (I ++ [i]) → w.grownBy w' (some r) → w'.heap.size = w.heap.size → (Instr.entry (.pointer (some ⟨r, 0, none⟩))).run PP w' = .ok (.tuple #[vI t.1, t.2.1.v]) w' → Kt (vI t.1) t.2.1.v w') :
    nextK PP (.pointer (some ⟨r, 0, none⟩)) false T___ w Kf Kt := by
  obtain ⟨es, clock, since, seen, c0, hb, hal, hnd, hr, hold, hsc, hseen, hck⟩ := h.it
  have hlen : es.toList.length = T.length := by have := congrArg List.length hal; simpa using this
  have hbl : (es.toList.map (·.born)).length = T.length := by rw [List.length_map, hlen]
  have inj : ∀ {i j : Nat}, i < T.length → j < T.length → (es.toList.map (·.born)).getD i 0 = (es.toList.map (·.born)).getD j 0 → i = j := fun {i j} hi hj he => by
    rw [List.getD_eq_getElem?_getD, List.getD_eq_getElem?_getD, List.getElem?_eq_getElem (by omega), List.getElem?_eq_getElem (by omega)] at he
    have hp := List.pairwise_iff_getElem.1 hnd
    rcases Nat.lt_trichotomy i j with h1 | h1 | h1
    · exact absurd (show (es.toList.map (·.born))[i]'(by omega) = (es.toList.map (·.born))[j]'(by omega) from he) (hp i j (by omega) (by omega) h1)
    · exact h1
    · exact absurd (show (es.toList.map (·.born))[i]'(by omega) = (es.toList.map (·.born))[j]'(by omega) from he).symm (hp j i (by omega) (by omega) h1)
  rcases run_next_at (P := PP) w T___ r b since c0 seen es clock hr hb hold hsc with ⟨h0, hrun⟩ | ⟨e, he, w1, hw1, hrun⟩
  · refine .inl ⟨w, hrun, hf fun i hi => ?_⟩
    have hil : i < es.toList.length := by omega
    have h1 : leftOf es seen = #[] := Array.eq_empty_of_size_eq_zero h0
    have h2 : seen.contains (es.toList[i]).born = true := by
      cases hc : seen.contains (es.toList[i]).born
      · have : es.toList[i] ∈ (leftOf es seen) := by
          unfold leftOf
          rw [Array.mem_filter]
          exact ⟨Array.mem_toList_iff.1 (List.getElem_mem hil), by rw [hc]; rfl⟩
        rw [h1] at this
        simp at this
      · rfl
    have h3 : (es.toList[i]).born ∈ seen.toList := by
      have := Array.contains_iff_mem.1 h2
      exact Array.mem_toList_iff.2 this
    rw [hseen] at h3
    obtain ⟨j, hj, hje⟩ := List.mem_map.1 h3
    have : j = i := inj (h.lt j hj) hi (by
      rw [hje, List.getD_eq_getElem?_getD, List.getElem?_map, List.getElem?_eq_getElem hil]; rfl)
    rw [← this]; exact hj
  · obtain ⟨hem, hes⟩ := mem_left he
    obtain ⟨i, hi, rfl⟩ := List.getElem_of_mem hem
    obtain ⟨t, hti, hkt, hvt⟩ := align_at hal (List.getElem?_eq_getElem hi)
    have hborn : (es.toList.map (·.born)).getD i 0 = (es.toList[i]).born := by
      rw [List.getD_eq_getElem?_getD, List.getElem?_map, List.getElem?_eq_getElem hi]; rfl
    have hni : i ∉ I := fun hiI => by
      have : (es.toList[i]).born ∈ seen.toList := by
        rw [hseen]
        exact List.mem_map.2 ⟨i, hiI, hborn⟩
      have h2 := Array.contains_iff_mem.2 (Array.mem_toList_iff.1 this)
      rw [hes] at h2
      cases h2
    have hr1 : w1.heap[r]? = some (.mapIter (some b) since seen c0) := by rcases hw1 with rfl | rfl <;> exact hr
    have hb1 : w1.heap[b]? = some (.map es clock) := by rcases hw1 with rfl | rfl <;> exact hb
    obtain ⟨s1, s2, s3⟩ := setBlock_heap (o' := .mapIter (some b) since (seen.push (es.toList[i]).born) clock) hr1
    have hg : w.grownBy (setBlock w1 r (.mapIter (some b) since (seen.push (es.toList[i]).born) clock)) (some r) := by
      rcases hw1 with rfl | rfl
      · exact s2
      · exact ⟨s2.os, s2.tape, s2.output, s2.size, s2.block⟩
    have hne : b ≠ r := fun e => by rw [e, hr] at hb; cases hb
    have hbk : (setBlock w1 r (.mapIter (some b) since (seen.push (es.toList[i]).born) clock)).heap[b]? = some (.map es clock) := by
      rw [s2.block b (Array.getElem?_eq_some_iff.1 hb1).1 (fun e => hne (by cases e; rfl))]; exact hb1
    have hlt : i < T.length := by omega
    refine .inr ⟨_, _, _, by rw [hkt, hvt] at hrun; exact hrun, ht i t _ hti hni ⟨?_, ⟨es, clock, since, _, clock, hbk, hal, hnd, s1, hold, hck, ?_, hck⟩, ?_, ?_⟩ hg (by rw [s3]; rcases hw1 with rfl | rfl <;> rfl) ?_⟩
    · exact h.map.keeps (keeps_grown hg) (fun e => hne (by cases e; rfl)) fun t' ht' g hgb e => by
        have : r = g := by cases e; rfl
        subst this
        obtain ⟨cur, hc⟩ := (h.map.own t' ht').heapAt hgb
        rw [hr] at hc; cases hc
    · rw [Array.toList_push, hseen, List.map_append, List.map_cons, List.map_nil, hborn]
    · rw [List.nodup_append]
      refine ⟨h.nd, by simp, fun a ha c hc => ?_⟩
      simp at hc
      subst hc
      intro e; subst e; exact hni ha
    · intro j hj
      rcases List.mem_append.1 hj with hj | hj
      · exact h.lt j hj
      · simp at hj; subst hj; exact hlt
    · have := run_entry_at (P := PP) _ r b since seen es clock es.toList[i] s1 hbk (List.getElem_mem hi) hnd
      rw [hkt, hvt] at this
      exact this
end Go.Proofs.YteplokddaebbeaaGreat

/- slices.SortFunc at rows with slices.Compare: the shelf's contract in this proof's words. -/
namespace Go.Proofs.YteplokddaebbeaaGreat
open Go Go.RowKit Go.Sort Go.Lib
set_option maxRecDepth 100000

section
variable {α : Type} [Inhabited α] (enc : α → Value)
theorem holds_of_blockG {w : World} {g : Nat} {cur : Array Value} {e : TypeId} {ss : List α} (hb : w.heap[g]? = some (.cells cur e (0, 0))) (ht : cur.toList.take ss.length = ss.map enc) : Holds enc w g 0 ss.toArray := by
  intro j hj
  have hj' : j < ss.length := by simpa using hj
  refine ⟨?_, by simp [World.frozen?, hb]⟩
  have h1 : (cur.toList.take ss.length)[j]? = (ss.map enc)[j]? := by rw [ht]
  rw [List.getElem?_take_of_lt hj'] at h1
  simp only [World.cell?, hb, Nat.zero_add]
  simp only [Option.isSome_none, Bool.false_eq_true, if_false]
  rw [← Array.getElem?_toList, h1]
  simp [hj']
theorem heap_sortedG {w : World} {g n : Nat} {os : Array Obj} {cur : Array Value} {e : TypeId} {fr : Nat × Nat} (d : Array α) (hb : w.heap[g]? = some (.cells cur e fr)) :
    (grow (putRow enc (Sort.ahead w n) g 0 d) os).heap[g]? = some (.cells (putCells enc 0 d cur) e fr) := by
  have hg : g < w.heap.size := (Array.getElem?_eq_some_iff.1 hb).1
  rw [heap_grow_old _ _ (by simpa using hg)]
  simp [putRow, mapBlock, Sort.ahead, Array.getElem?_modify, hb, onCells]
theorem grownBy_sortedG {w : World} {g n : Nat} {os : Array Obj} (d : Array α) : w.grownBy (grow (putRow enc (Sort.ahead w n) g 0 d) os) (some g) := by
  refine ⟨rfl, rfl, rfl, by simp, fun k hk hne => ?_⟩
  rw [heap_grow_old _ _ (by simpa using hk)]
  have : g ≠ k := fun e => hne (by rw [e])
  simp [putRow, mapBlock, Sort.ahead, Array.getElem?_modify, this]
theorem take_putCellsG (cur : Array Value) (ts : List α) (h : ts.length ≤ cur.size) : (putCells enc 0 ts.toArray cur).toList.take ts.length = ts.map enc := by
  apply List.ext_getElem?
  intro j
  by_cases hj : j < ts.length
  · rw [List.getElem?_take_of_lt hj, Array.getElem?_toList]
    simp [putCells, hj, show j < cur.size by omega]
  · rw [List.getElem?_take_eq_none (by omega), List.getElem?_eq_none (by simp; omega)]
end
/-- A row that is owned, apart from the list of rows. -/
@[reducible] def RowP (w : World) (B g : Nat) : Type := {x : Sl × List Int // OwnI w B x.1 x.2 ∧ (∀ h, x.1.blk = some h → h ≠ g) ∧ x.2.length < 2^38}
instance (w : World) (B g : Nat) : Inhabited (RowP w B g) := ⟨⟨(Sl.nil, []), Own.nil _ _ _, fun h e => by simp [Sl.blk, Sl.nil] at e, by simp⟩⟩
def encP {w : World} {B g : Nat} (x : RowP w B g) : Value := x.1.1.v
def cfP {w : World} {B g : Nat} (x y : RowP w B g) : Int := lexC x.1.2 y.1.2
theorem ltP {w : World} {B g : Nat} (x y : RowP w B g) : ltOf cfP x y = decide (lexC x.1.2 y.1.2 < 0) := rfl
theorem swoP (w : World) (B g : Nat) : SWO (ltOf (cfP (w := w) (B := B) (g := g))) where
  irrefl x := by rw [ltP, lexC_self]; rfl
  trans x y z h1 h2 := by
    rw [ltP] at *
    exact decide_eq_true (lexC_trans _ _ _ (of_decide_eq_true h1) (of_decide_eq_true h2))
  ntrans x y z h1 h2 := by
    rw [ltP] at *
    refine decide_eq_false fun h3 => ?_
    have h1 := of_decide_eq_false h1
    have h2 := of_decide_eq_false h2
    by_cases e1 : lexC x.1.2 y.1.2 = 0
    · rw [lexC_zero _ _ e1] at h3; exact h2 h3
    · by_cases e2 : lexC y.1.2 z.1.2 = 0
      · rw [← lexC_zero _ _ e2] at h3; exact h1 h3
      · have h4 := lexC_swap x.1.2 y.1.2
        have h5 := lexC_swap y.1.2 z.1.2
        have h6 := lexC_swap x.1.2 z.1.2
        have := lexC_trans z.1.2 y.1.2 x.1.2 (by omega) (by omega)
        omega
theorem zip_row {w : World} {B g : Nat} : ∀ (rs : List Sl) (R : List (List Int)), rs.length = R.length → (∀ (i : Nat) r L, rs[i]? = some r → R[i]? = some L → OwnI w B r L ∧ (∀ h, r.blk = some h → h ≠ g) ∧ L.length < 2^38) →
    ∃ d : List (RowP w B g), d.map (·.1.1) = rs ∧ d.map (·.1.2) = R
  | [], [], _, _ => ⟨[], rfl, rfl⟩
  | [], _ :: _, h, _ => by simp at h
  | _ :: _, [], h, _ => by simp at h
  | r :: rs, L :: R, h, hh => by
    obtain ⟨d, h1, h2⟩ := zip_row rs R (by simpa using h) fun i r L e1 e2 => hh (i + 1) r L (by simpa using e1) (by simpa using e2)
    exact ⟨⟨(r, L), hh 0 r L rfl rfl⟩ :: d, by rw [List.map_cons, h1], by rw [List.map_cons, h2]⟩
theorem c_SortF {w : World} {B : Nat} {s : Sl} {rs : List Sl} {R : List (List Int)} (h : OwnRows w B s rs R) (hl : R.length < 2^40) (hL : ∀ L ∈ R, L.length < 2^38 ∧ L ≠ []) (hk : (R.map hd).Nodup) {K : World → Prop}
    (hK : ∀ w' rs' R', OwnRows w' B s rs' R' → Str R' → R'.Perm R → Below B w w' → K w') :
    call0 PP F.slices_SortFunc_____int___int_ #[s.v, .func (.func F.slices_Compare___int_int_) #[] #[]] w K := by
  have hn : s.n = R.length := h.n
  have hnc := h.out.nc
  have hcm := h.out.cm
  have hrl := h.len
  rcases h.out.at_ with hc | ⟨g, cur, ha, hBg, hg, hsz, ht⟩
  · have h0 : R.length = 0 := by omega
    obtain rfl : R = [] := List.eq_nil_of_length_eq_zero h0
    have e : s.v = .slice s.a 0 s.c := by rw [Sl.v, hn]; rfl
    rw [e]
    refine (Calls.mono (AnyF.slices_SortFunc_none { Tryz.laysSlF6_f55 with } s.a s.c (.func (.func F.slices_Compare___int_int_) #[] #[]) w) ?_)
    rintro e w' ⟨rfl, rfl⟩
    exact ⟨rfl, hK _ rs [] h List.Pairwise.nil (List.Perm.refl _) (Below.refl _ _)⟩
  · by_cases hz : R = []
    · subst hz
      have e : s.v = .slice s.a 0 s.c := by rw [Sl.v, hn]; rfl
      rw [e]
      refine (Calls.mono (AnyF.slices_SortFunc_none { Tryz.laysSlF6_f55 with } s.a s.c (.func (.func F.slices_Compare___int_int_) #[] #[]) w) ?_)
      rintro e w' ⟨rfl, rfl⟩
      exact ⟨rfl, hK _ rs [] h List.Pairwise.nil (List.Perm.refl _) (Below.refl _ _)⟩
    have hpos : 0 < R.length := List.length_pos_iff.2 hz
    have hc0 : s.c ≠ 0 := by omega
    have hblk : s.blk = some g := by rw [Sl.blk, if_neg hc0, ha]; rfl
    have hglt : g < w.heap.size := (Array.getElem?_eq_some_iff.1 hg).1
    obtain ⟨d, hd1, hd2⟩ := zip_row (w := w) (B := B) (g := g) rs R hrl fun i r L e1 e2 => ⟨h.at_ i r L e1 e2, fun x hx e => (h.out.apt (h.at_ i r L e1 e2) (by decide)) g hblk (by rw [hx, e]), (hL L (List.mem_of_getElem? e2)).1⟩
    have hdl : d.length = R.length := by rw [← hd2, List.length_map]
    have hdv : d.map encP = rs.map Sl.v := by rw [← hd1, List.map_map]; rfl
    have e : s.v = .slice (some ⟨g, 0, none⟩) d.toArray.size s.c := by rw [Sl.v, hn, ha, List.size_toArray, hdl]
    rw [e]
    have eg : ∀ args w, (callFunc F.slices_Compare___int_int_ args).run PP w = .ok (.enter F.slices_Compare___int_int_ args) w := fun args w => callFunc_run noCount (by kernel_rfl) args w
    have hcmp : CmpReads PP F.slices_Compare___int_int_ #[] (encP (w := w) (B := B) (g := g)) cfP g 0 d.toArray.size w := by
      intro m os dk hs x y
      have hgr := grownBy_sortedG (w := w) (g := g) (n := m) (os := os) encP dk
      have kept : ∀ z : RowP w B g, OwnI (sortWorld encP w g 0 m dk os) B z.1.1 z.1.2 := fun z => Own.keeps z.2.1 (keeps_grown hgr) (fun k hk e => z.2.2.1 k hk (by cases e; rfl))
      refine (c_CompareS (kept x).row (kept y).row x.2.2.2 _ (Drew.refl _)).mono ?_
      rintro e w' ⟨rfl, q, rfl⟩
      exact ⟨rfl, q, rfl⟩
    refine (Calls.mono (Tryz.slices_SortFunc encP (fun _ => rfl) cfP (swoP w B g) F.slices_Compare___int_int_ #[] g 0 s.c d.toArray w eg hcmp.lays (holds_of_blockG encP hg ?_) hglt (by rw [List.size_toArray]; omega)) ?_)
    · rw [hdv, hdl, ← hn]; exact ht
    rintro e w' ⟨rfl, d', n, os, hp, hs, rfl⟩
    have hd's : d'.size = R.length := by rw [hp.1, List.size_toArray, hdl]
    have hperm : d'.toList.Perm d := by
      have := hp.2.2
      rw [List.size_toArray, hdl] at this
      rw [show d'.extract 0 R.length = d' by rw [← hd's]; simp, show d.toArray.extract 0 R.length = d.toArray by rw [← hdl]; simp] at this
      simpa using this
    have hgr := grownBy_sortedG (w := w) (g := g) (n := n) (os := os) encP d'
    have hRp : (d'.toList.map (·.1.2)).Perm R := by rw [← hd2]; exact hperm.map _
    have hdlen : d'.toList.length = R.length := by simpa using hd's
    refine ⟨rfl, hK _ (d'.toList.map (·.1.1)) (d'.toList.map (·.1.2)) ⟨⟨?_, hnc, hcm, .inr ⟨g, _, ha, hBg, heap_sortedG encP d' hg, by simp [Go.Sort.putCells, hsz], ?_⟩⟩, by simp, ?_, ?_⟩ ?_ hRp ?_⟩
    · rw [List.length_map, List.length_map, hn, hdlen]
    · rw [hn, ← hdlen, List.map_map]
      have := take_putCellsG (encP (w := w) (B := B) (g := g)) cur d'.toList (by omega)
      rw [Array.toArray_toList] at this
      exact this
    · intro i r L e1 e2
      rw [List.getElem?_map] at e1 e2
      cases hz : d'.toList[i]? with
      | none => rw [hz] at e1; cases e1
      | some z =>
        rw [hz] at e1 e2
        cases e1; cases e2
        exact Own.keeps z.2.1 (keeps_grown hgr) (fun k hk e => z.2.2.1 k hk (by cases e; rfl))
    · have h1 : rs.Pairwise Apt := List.pairwise_iff_getElem.2 fun i j hi hj hij => h.apt i j _ _ (by omega) (List.getElem?_eq_getElem hi) (List.getElem?_eq_getElem hj)
      have h2 : (d'.toList.map (·.1.1)).Perm rs := by rw [← hd1]; exact hperm.map _
      have h3 : (d'.toList.map (·.1.1)).Pairwise Apt := (h2.symm.pairwise_iff (fun {_ _} h => h.symm)).1 h1
      intro i j r t hij e1 e2
      obtain ⟨hi, rfl⟩ := List.getElem?_eq_some_iff.1 e1
      obtain ⟨hj, rfl⟩ := List.getElem?_eq_some_iff.1 e2
      rcases Nat.lt_or_gt_of_ne hij with h4 | h4
      · exact List.pairwise_iff_getElem.1 h3 i j hi hj h4
      · exact (List.pairwise_iff_getElem.1 h3 j i hj hi h4).symm
    · have hnd : ((d'.toList.map (·.1.2)).map hd).Nodup := (hRp.map hd).nodup_iff.2 hk
      refine List.pairwise_iff_getElem.2 fun i j hi hj hij => ?_
      have hi' : i < d'.size := by simpa using hi
      have hj' : j < d'.size := by simpa using hj
      have h1 := hs i j (by omega) hij (by rw [List.size_toArray, hdl, ← hd's]; exact hj')
      rw [getElem!_pos d' i hi', getElem!_pos d' j hj', ltP] at h1
      have h1 := of_decide_eq_false h1
      rw [List.getElem_map, List.getElem_map, Array.getElem_toList, Array.getElem_toList]
      have hne : hd d'[i].1.2 ≠ hd d'[j].1.2 := by
        have := List.pairwise_iff_getElem.1 hnd i j (by simpa using hi') (by simpa using hj') hij
        simpa using this
      have hmem : ∀ k (hk : k < d'.size), d'[k].1.2 ≠ [] := fun k hk => (hL _ (hRp.subset (List.mem_map.2 ⟨d'[k], Array.mem_toList_iff.2 (Array.getElem_mem hk), rfl⟩))).2
      obtain ⟨x, a, hxa⟩ := List.exists_cons_of_ne_nil (hmem i hi')
      obtain ⟨y, b, hyb⟩ := List.exists_cons_of_ne_nil (hmem j hj')
      rw [hxa, hyb] at hne h1 ⊢
      have hne : x ≠ y := hne
      have h3 : ¬ y < x := fun h => h1 ((lexC_hd (fun e => hne e.symm)).2 h)
      show x < y
      omega
    · exact ⟨hgr.os, hgr.tape, hgr.output, hgr.size, fun k hk => hgr.block k (by omega) fun e => by have : k = g := Option.some.inj e
                                                                                                    omega⟩
end Go.Proofs.YteplokddaebbeaaGreat

/- What each function does, step by step, written by a program (Gen.lean); each equation is checked by the kernel. -/
namespace Go.Proofs.YteplokddaebbeaaGreat
open Go
set_option linter.unusedVariables false
set_option maxRecDepth 100000
namespace slices_Equal___int_int_
@[reducible] def cfg : Cfg := ⟨26, [(4, [0, 1, 12, 13])], [(1, [0, 1, 12, 13]), (0, [])], [], [4], [6], [13, 12, 21, 89, 36, 108, 74, 75, 104, 78, 125], [73, 117, 103, 46, 4, 30, 40]⟩
def q0 (pr : Prims) (R : Ending → World → Prop) : Exit → Env → World → Prop := fun ex e w => normQ ex (fun e w => contE pr cfg (sub (codeOf Tryz.f36) [1, 1, 1]) (fun e w => wpC pr PP cfg (DD pr) (sub (codeOf Tryz.f36) [1, 1, 1]) (retQ Tryz.f36.results.toList R) e w) e w) (retQ Tryz.f36.results.toList R) e w
def q1 (pr : Prims) (R : Ending → World → Prop) : Exit → Env → World → Prop := fun ex e w => blockQ ex 0 (q0 pr R) e w
def emb4 (s1_0 : Sl) (s2_1 : Sl) (t12 : Int) (t13 : Int) : Env := [(0, Sl.v s1_0), (1, Sl.v s2_1), (12, vI t12), (13, vI t13)]
def x0 : Env := []
def S4 (pr : Prims) (Q : Exit → Env → World → Prop) : (Env → World → Prop) → Env → World → Prop := fun k e w => wpC pr PP cfg (DD pr) (sub (codeOf Tryz.f36) [1, 1, 0, 1, 0, 0]) (fun ex e w => normQ ex (fun e' w' => k (Env.restr e' (lookN cfg.loops (keyOf (sub (codeOf Tryz.f36) [1, 1, 0, 1, 0, 0])))) w') Q e w) e w
def B4 (pr : Prims) (s1_0 : Sl) (s2_1 : Sl) (t12 : Int) (t13 : Int) (w : World) (k : Env → World → Prop) (Q : Exit → Env → World → Prop) : Prop :=
  S4 pr Q k (emb4 s1_0 s2_1 t12 t13) w
def L4 (pr : Prims) (s1_0 : Sl) (s2_1 : Sl) (t12 : Int) (t13 : Int) (w : World) (Q : Exit → Env → World → Prop) : Prop :=
  pr.loop (S4 pr Q) (emb4 s1_0 s2_1 t12 t13) w
def E (pr : Prims) (s1_0 : Sl) (s2_1 : Sl) (w : World) (R : Ending → World → Prop) : Prop :=
  wpC pr PP cfg (DD pr) (codeOf Tryz.f36) (retQ Tryz.f36.results.toList R) (argE 0 [Sl.v s1_0, Sl.v s2_1]) w
theorem B4_eq (pr : Prims) (s1_0 : Sl) (s2_1 : Sl) (t12 : Int) (t13 : Int) (w : World) (k : Env → World → Prop) (Q : Exit → Env → World → Prop) : B4 pr s1_0 s2_1 t12 t13 w k Q = (
  bif decide (t13 < t12) then (
  pr.idxK 1 s1_0 t13 fun (a2 : Addr) =>
  pr.load1 (.int .i64) a2 w fun (ξ3 : Int) =>
  pr.idxK 1 s2_1 t13 fun (a4 : Addr) =>
  pr.load1 (.int .i64) a4 w fun (ξ5 : Int) =>
  pr.drewAll w fun ω6 =>
  bif ξ3 != ξ5 then (
  Q .ret [(4, .bool false)] ω6)
  else (
  k (emb4 s1_0 s2_1 t12 (w64 (t13 + 1))) ω6))
  else (
  Q (.exit 0) (x0) w)) := by kernel_rfl
theorem B4_s (s1_0 : Sl) (s2_1 : Sl) (t12 : Int) (t13 : Int) (w : World) (k : Env → World → Prop) (Q : Exit → Env → World → Prop) : B4 std s1_0 s2_1 t12 t13 w k Q = (
  bif decide (t13 < t12) then (
  idxK 1 s1_0 t13 fun (a2 : Addr) =>
  load1 (.int .i64) a2 w fun (ξ3 : Int) =>
  idxK 1 s2_1 t13 fun (a4 : Addr) =>
  load1 (.int .i64) a4 w fun (ξ5 : Int) =>
  drewAll w fun ω6 =>
  bif ξ3 != ξ5 then (
  Q .ret [(4, .bool false)] ω6)
  else (
  k (emb4 s1_0 s2_1 t12 (w64 (t13 + 1))) ω6))
  else (
  Q (.exit 0) (x0) w)) := B4_eq std s1_0 s2_1 t12 t13 w k Q
theorem L4_rule (s1_0 : Sl) (s2_1 : Sl) (t12 : Int) (t13 : Int) (w : World) (Q : Exit → Env → World → Prop) (I : Int → World → Prop) (μ : Int → World → Nat) (h0 : I t13 w)
    (h : ∀ (t13 : Int) (w' : World), I t13 w' → B4 std s1_0 s2_1 t12 t13 w' (fun e2 w2 => ∃ t13_n, e2 = emb4 s1_0 s2_1 t12 t13_n ∧ I t13_n w2 ∧ μ t13_n w2 < μ t13 w') Q) :
    L4 std s1_0 s2_1 t12 t13 w Q := by
  unfold L4
  refine LoopE.intro (σ := Int) (step := S4 std Q) (fun s => emb4 s1_0 s2_1 t12 s) (fun s w => I s w) (fun s w => μ s w) t13 rfl h0 ?_
  intro s w' hI
  have h1 := h s w' hI
  unfold B4 at h1
  exact h1
theorem A4_0_eq (pr : Prims) (w : World) (R : Ending → World → Prop) : (q1 pr R) (.exit 0) (x0) w = (
  R (.returned (.bool true)) w) := by kernel_rfl
theorem A4_0_s (w : World) (R : Ending → World → Prop) : (q1 std R) (.exit 0) (x0) w = (
  R (.returned (.bool true)) w) := A4_0_eq std w R
theorem R4_eq (pr : Prims) (v4 : Value) (w : World) (R : Ending → World → Prop) : (q1 pr R) .ret [(4, v4)] w = (
  R (.returned (v4)) w) := by kernel_rfl
theorem R4_s (v4 : Value) (w : World) (R : Ending → World → Prop) : (q1 std R) .ret [(4, v4)] w = (
  R (.returned (v4)) w) := R4_eq std v4 w R
theorem E_eq (pr : Prims) (s1_0 : Sl) (s2_1 : Sl) (w : World) (R : Ending → World → Prop) : E pr s1_0 s2_1 w R = (
  bif (s1_0.n : Int) != (s2_1.n : Int) then (
  R (.returned (.bool false)) w)
  else (
  L4 pr s1_0 s2_1 (s1_0.n : Int) 0 w (q1 pr R))) := by kernel_rfl
theorem E_s (s1_0 : Sl) (s2_1 : Sl) (w : World) (R : Ending → World → Prop) : E std s1_0 s2_1 w R = (
  bif (s1_0.n : Int) != (s2_1.n : Int) then (
  R (.returned (.bool false)) w)
  else (
  L4 std s1_0 s2_1 (s1_0.n : Int) 0 w (q1 std R))) := E_eq std s1_0 s2_1 w R
theorem drawsOk : drawsOk PP cfg okD (codeOf Tryz.f36) = true := by kernel_rfl
theorem calls (s1_0 : Sl) (s2_1 : Sl) {w : World} {R : Ending → World → Prop} (h : E std s1_0 s2_1 w R) : Calls PP F.slices_Equal___int_int_ #[Sl.v s1_0, Sl.v s2_1] w R :=
  calls_of noCount mixed drawOk Tryz.func36 rfl (c := cfg) (args := [Sl.v s1_0, Sl.v s2_1]) rfl (Nat.le_of_ble_eq_true (by kernel_rfl)) drawsOk h
end slices_Equal___int_int_

end Go.Proofs.YteplokddaebbeaaGreat

/- The library's equality of rows. -/
namespace Go.Proofs.YteplokddaebbeaaGreat
open Go Go.RowKit
set_option maxRecDepth 100000

theorem c_Equal {w : World} {a b : Sl} {L M : List Int} (ha : RowI w a L) (hb : RowI w b M) (hL : L.length < 2^39) : Quiet F.slices_Equal___int_int_ #[a.v, b.v] w (.bool (decide (L = M))) := by
  intro w1 hd
  have han : a.n = L.length := by have := ha.n; simpa using this
  have hbn : b.n = M.length := by have := hb.n; simpa using this
  refine slices_Equal___int_int_.calls a b ?_
  rw [slices_Equal___int_int_.E_s]
  refine bif_intro (fun h => ?_) (fun h => ?_)
  · have : L.length ≠ M.length := by simp at h; omega
    have : L ≠ M := fun e => this (by rw [e])
    exact ⟨by simp [this], Drew.refl _⟩
  have hlen : L.length = M.length := by simp at h; omega
  refine slices_Equal___int_int_.L4_rule _ _ _ _ _ _ (I := fun i w' => 0 ≤ i ∧ i ≤ L.length ∧ (∀ k, k < i.toNat → L[k]? = M[k]?) ∧ Drew w1 w') (μ := fun i _ => (L.length - i).toNat)
    ⟨by omega, by omega, fun k hk => by simp at hk, Drew.refl _⟩ ?_
  rintro i w' ⟨h0, hi, hall, hd2⟩
  have hh : w'.heap = w.heap := (hd.trans hd2).heap'
  rw [slices_Equal___int_int_.B4_s]
  refine bif_dec (fun h3 => ?_) (fun h3 => ?_)
  · have hlt : i.toNat < L.length := by omega
    have hlt2 : i.toNat < M.length := by omega
    refine RowI.get (ha.heap hh) h0 (by omega) ?_
    refine RowI.get (hb.heap hh) h0 (by omega) ?_
    refine drew_intro fun w3 hd3 => ?_
    rw [getD_eq hlt, getD_eq hlt2]
    refine bif_intro (fun h4 => ?_) (fun h4 => ?_)
    · have : L ≠ M := fun e => by subst e; simp at h4
      rw [slices_Equal___int_int_.R4_s]
      exact ⟨by simp [this], hd2.trans hd3⟩
    · have h4 : L[i.toNat] = M[i.toNat] := by simpa using h4
      refine ⟨i + 1, by rw [w64_succ h0 (by omega)], ⟨by omega, by omega, fun k hk => ?_, hd2.trans hd3⟩, by omega⟩
      by_cases hk2 : k < i.toNat
      · exact hall k hk2
      · have : k = i.toNat := by omega
        subst this
        rw [List.getElem?_eq_getElem hlt, List.getElem?_eq_getElem hlt2, h4]
  · rw [slices_Equal___int_int_.A4_0_s]
    have : L = M := by
      apply List.ext_getElem?
      intro k
      by_cases hk : k < L.length
      · exact hall k (by omega)
      · rw [List.getElem?_eq_none (by omega), List.getElem?_eq_none (by omega)]
    exact ⟨by simp [this], hd2⟩
end Go.Proofs.YteplokddaebbeaaGreat
