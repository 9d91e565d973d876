/- What each function does, step by step, written by a program (Gen.lean); each equation is checked by the kernel. -/
import Derived.Test.YtfainpmcdfckkaaHead
namespace Go.Proofs.Ytfainpmcdfckkaa
open Go
set_option linter.unusedVariables false
set_option maxRecDepth 100000
namespace impl_isPerm
@[reducible] def cfg : Cfg := ⟨34, [(3, [0, 3, 10, 11, 12])], [(1, [0, 3, 10, 11, 12]), (0, [])], [], [2], [], [17, 24, 21, 26, 65, 27, 91, 60, 78], [86, 52]⟩
def q2 (pr : Prims) (R : Ending → World → Prop) : Exit → Env → World → Prop := fun ex e w => normQ ex (fun e w => contE pr cfg (sub (codeOf Try.f68) [1, 1, 1]) (fun e w => wpC pr PP cfg (DD pr) (sub (codeOf Try.f68) [1, 1, 1]) (retQ Try.f68.results.toList R) e w) e w) (retQ Try.f68.results.toList R) e w
def q3 (pr : Prims) (R : Ending → World → Prop) : Exit → Env → World → Prop := fun ex e w => blockQ ex 0 (q2 pr R) e w
def emb3 (p_0 : Sl) (seen_3 : Sl) (t10 : Sl) (t11 : Int) (t12 : Int) : Env := [(0, Sl.v p_0), (3, Sl.v seen_3), (10, Sl.v t10), (11, vI t11), (12, vI t12)]
def x0 : Env := []
def S3 (pr : Prims) (Q : Exit → Env → World → Prop) : (Env → World → Prop) → Env → World → Prop := fun k e w => wpC pr PP cfg (DD pr) (sub (codeOf Try.f68) [1, 1, 0, 1, 0, 0]) (fun ex e w => normQ ex (fun e' w' => k (Env.restr e' (lookN cfg.loops (keyOf (sub (codeOf Try.f68) [1, 1, 0, 1, 0, 0])))) w') Q e w) e w
def B3 (pr : Prims) (p_0 : Sl) (seen_3 : Sl) (t10 : Sl) (t11 : Int) (t12 : Int) (w : World) (k : Env → World → Prop) (Q : Exit → Env → World → Prop) : Prop :=
  S3 pr Q k (emb3 p_0 seen_3 t10 t11 t12) w
def L3 (pr : Prims) (p_0 : Sl) (seen_3 : Sl) (t10 : Sl) (t11 : Int) (t12 : Int) (w : World) (Q : Exit → Env → World → Prop) : Prop :=
  pr.loop (S3 pr Q) (emb3 p_0 seen_3 t10 t11 t12) w
def E (pr : Prims) (p_0 : Sl) (w : World) (R : Ending → World → Prop) : Prop :=
  wpC pr PP cfg (DD pr) (codeOf Try.f68) (retQ Try.f68.results.toList R) (argE 0 [Sl.v p_0]) w
theorem B3_eq (pr : Prims) (p_0 : Sl) (seen_3 : Sl) (t10 : Sl) (t11 : Int) (t12 : Int) (w : World) (k : Env → World → Prop) (Q : Exit → Env → World → Prop) : B3 pr p_0 seen_3 t10 t11 t12 w k Q = (
  bif decide (t12 < t11) then (
  pr.idxK 1 t10 t12 fun (a4 : Addr) =>
  pr.load1 (.int .i64) a4 w fun (ξ5 : Int) =>
  bif decide (ξ5 < 1) then (
  Q .ret [(2, .bool false)] w)
  else (
  bif decide (ξ5 > (p_0.n : Int)) then (
  Q .ret [(2, .bool false)] w)
  else (
  pr.idxK 1 seen_3 ξ5 fun (a6 : Addr) =>
  pr.load1 .bool a6 w fun (ξ7 : Bool) =>
  bif ξ7 then (
  Q .ret [(2, .bool false)] w)
  else (
  pr.idxK 1 seen_3 ξ5 fun (a8 : Addr) =>
  pr.storeC a8 (.bool true) w fun ω9 =>
  k (emb3 p_0 seen_3 t10 t11 (w64 (t12 + 1))) ω9))))
  else (
  Q (.exit 0) (x0) w)) := by kernel_rfl
theorem B3_s (p_0 : Sl) (seen_3 : Sl) (t10 : Sl) (t11 : Int) (t12 : Int) (w : World) (k : Env → World → Prop) (Q : Exit → Env → World → Prop) : B3 std p_0 seen_3 t10 t11 t12 w k Q = (
  bif decide (t12 < t11) then (
  idxK 1 t10 t12 fun (a4 : Addr) =>
  load1 (.int .i64) a4 w fun (ξ5 : Int) =>
  bif decide (ξ5 < 1) then (
  Q .ret [(2, .bool false)] w)
  else (
  bif decide (ξ5 > (p_0.n : Int)) then (
  Q .ret [(2, .bool false)] w)
  else (
  idxK 1 seen_3 ξ5 fun (a6 : Addr) =>
  load1 .bool a6 w fun (ξ7 : Bool) =>
  bif ξ7 then (
  Q .ret [(2, .bool false)] w)
  else (
  idxK 1 seen_3 ξ5 fun (a8 : Addr) =>
  storeC a8 (.bool true) w fun ω9 =>
  k (emb3 p_0 seen_3 t10 t11 (w64 (t12 + 1))) ω9))))
  else (
  Q (.exit 0) (x0) w)) := B3_eq std p_0 seen_3 t10 t11 t12 w k Q
theorem L3_rule (p_0 : Sl) (seen_3 : Sl) (t10 : Sl) (t11 : Int) (t12 : Int) (w : World) (Q : Exit → Env → World → Prop) (I : Int → World → Prop) (μ : Int → World → Nat) (h0 : I t12 w)
    (h : ∀ (t12 : Int) (w' : World), I t12 w' → B3 std p_0 seen_3 t10 t11 t12 w' (fun e2 w2 => ∃ t12_n, e2 = emb3 p_0 seen_3 t10 t11 t12_n ∧ I t12_n w2 ∧ μ t12_n w2 < μ t12 w') Q) :
    L3 std p_0 seen_3 t10 t11 t12 w Q := by
  unfold L3
  refine LoopE.intro (σ := Int) (step := S3 std Q) (fun s => emb3 p_0 seen_3 t10 t11 s) (fun s w => I s w) (fun s w => μ s w) t12 rfl h0 ?_
  intro s w' hI
  have h1 := h s w' hI
  unfold B3 at h1
  exact h1
theorem A3_0_eq (pr : Prims) (w : World) (R : Ending → World → Prop) : (q3 pr R) (.exit 0) (x0) w = (
  R (.returned (.bool true)) w) := by kernel_rfl
theorem A3_0_s (w : World) (R : Ending → World → Prop) : (q3 std R) (.exit 0) (x0) w = (
  R (.returned (.bool true)) w) := A3_0_eq std w R
theorem R3_eq (pr : Prims) (v2 : Value) (w : World) (R : Ending → World → Prop) : (q3 pr R) .ret [(2, v2)] w = (
  R (.returned (v2)) w) := by kernel_rfl
theorem R3_s (v2 : Value) (w : World) (R : Ending → World → Prop) : (q3 std R) .ret [(2, v2)] w = (
  R (.returned (v2)) w) := R3_eq std v2 w R
theorem E_eq (pr : Prims) (p_0 : Sl) (w : World) (R : Ending → World → Prop) : E pr p_0 w R = (
  pr.sem1 .sl PP (Instr.makeSlice T_Sbool (vI (w64 ((p_0.n : Int) + 1))) (vI (w64 ((p_0.n : Int) + 1)))) w fun (ρ0 : Sl) ω1 =>
  L3 pr p_0 ρ0 p_0 (p_0.n : Int) 0 ω1 (q3 pr R)) := by kernel_rfl
theorem E_s (p_0 : Sl) (w : World) (R : Ending → World → Prop) : E std p_0 w R = (
  sem1 .sl PP (Instr.makeSlice T_Sbool (vI (w64 ((p_0.n : Int) + 1))) (vI (w64 ((p_0.n : Int) + 1)))) w fun (ρ0 : Sl) ω1 =>
  L3 std p_0 ρ0 p_0 (p_0.n : Int) 0 ω1 (q3 std R)) := E_eq std p_0 w R
theorem drawsOk : drawsOk PP cfg okD (codeOf Try.f68) = true := by kernel_rfl
theorem calls (p_0 : Sl) {w : World} {R : Ending → World → Prop} (h : E std p_0 w R) : Calls PP F.impl_isPerm #[Sl.v p_0] w R :=
  calls_of noCount mixed drawOk Try.func68 rfl (c := cfg) (args := [Sl.v p_0]) rfl (Nat.le_of_ble_eq_true (by kernel_rfl)) drawsOk h
end impl_isPerm

namespace impl_IsPerm
@[reducible] def cfg : Cfg := ⟨10, [], [], [], [2], [], [17, 24, 21, 26, 65, 27, 91, 60, 78], [86, 52]⟩
def E (pr : Prims) (p_0 : Sl) (w : World) (R : Ending → World → Prop) : Prop :=
  wpC pr PP cfg (DD pr) (codeOf Try.f62) (retQ Try.f62.results.toList R) (argE 0 [Sl.v p_0]) w
theorem E_eq (pr : Prims) (p_0 : Sl) (w : World) (R : Ending → World → Prop) : E pr p_0 w R = (
  bif decide ((p_0.n : Int) ≤ 8) then (
  pr.call1 .bool PP F.impl_isPerm #[Sl.v p_0] w fun (ρ0 : Bool) ω1 =>
  R (.returned (.bool ρ0)) ω1)
  else (
  R (.returned (.bool false)) w)) := by kernel_rfl
theorem E_s (p_0 : Sl) (w : World) (R : Ending → World → Prop) : E std p_0 w R = (
  bif decide ((p_0.n : Int) ≤ 8) then (
  call1 .bool PP F.impl_isPerm #[Sl.v p_0] w fun (ρ0 : Bool) ω1 =>
  R (.returned (.bool ρ0)) ω1)
  else (
  R (.returned (.bool false)) w)) := E_eq std p_0 w R
theorem drawsOk : drawsOk PP cfg okD (codeOf Try.f62) = true := by kernel_rfl
theorem calls (p_0 : Sl) {w : World} {R : Ending → World → Prop} (h : E std p_0 w R) : Calls PP F.impl_IsPerm #[Sl.v p_0] w R :=
  calls_of noCount mixed drawOk Try.func62 rfl (c := cfg) (args := [Sl.v p_0]) rfl (Nat.le_of_ble_eq_true (by kernel_rfl)) drawsOk h
end impl_IsPerm

namespace spec_IsPerm
@[reducible] def cfg : Cfg := ⟨36, [(2, [0, 3])], [(1, [0, 3]), (0, [0])], [], [2], [4], [17, 24, 21, 26, 65, 27, 91, 60, 78], [86, 52]⟩
def q0 (pr : Prims) (R : Ending → World → Prop) : Exit → Env → World → Prop := fun ex e w => normQ ex (fun e w => contE pr cfg (sub (codeOf Try.f60) [1, 1]) (fun e w => wpC pr PP cfg (DD pr) (sub (codeOf Try.f60) [1, 1]) (retQ Try.f60.results.toList R) e w) e w) (retQ Try.f60.results.toList R) e w
def q1 (pr : Prims) (R : Ending → World → Prop) : Exit → Env → World → Prop := fun ex e w => blockQ ex 0 (q0 pr R) e w
def emb2 (p_0 : Sl) (k_3 : Int) : Env := [(0, Sl.v p_0), (3, vI k_3)]
def x0 (p_0 : Sl) : Env := [(0, Sl.v p_0)]
def S2 (pr : Prims) (Q : Exit → Env → World → Prop) : (Env → World → Prop) → Env → World → Prop := fun k e w => wpC pr PP cfg (DD pr) (sub (codeOf Try.f60) [1, 0, 1, 0, 0]) (fun ex e w => normQ ex (fun e' w' => k (Env.restr e' (lookN cfg.loops (keyOf (sub (codeOf Try.f60) [1, 0, 1, 0, 0])))) w') Q e w) e w
def B2 (pr : Prims) (p_0 : Sl) (k_3 : Int) (w : World) (k : Env → World → Prop) (Q : Exit → Env → World → Prop) : Prop :=
  S2 pr Q k (emb2 p_0 k_3) w
def L2 (pr : Prims) (p_0 : Sl) (k_3 : Int) (w : World) (Q : Exit → Env → World → Prop) : Prop :=
  pr.loop (S2 pr Q) (emb2 p_0 k_3) w
def E (pr : Prims) (p_0 : Sl) (w : World) (R : Ending → World → Prop) : Prop :=
  wpC pr PP cfg (DD pr) (codeOf Try.f60) (retQ Try.f60.results.toList R) (argE 0 [Sl.v p_0]) w
theorem B2_eq (pr : Prims) (p_0 : Sl) (k_3 : Int) (w : World) (k : Env → World → Prop) (Q : Exit → Env → World → Prop) : B2 pr p_0 k_3 w k Q = (
  bif decide (k_3 < (p_0.n : Int)) then (
  bif decide ((p_0.n : Int) ≤ 8) then (
  pr.idxK 1 p_0 k_3 fun (a2 : Addr) =>
  pr.load1 (.int .i64) a2 w fun (ξ3 : Int) =>
  pr.pcall1 .bool PP F.spec_l1In #[vI ξ3, vI 1, vI (p_0.n : Int)] fun (ρ4 : Bool) =>
  bif !ρ4 then (
  pr.drewAll w fun ω5 =>
  Q .ret [(2, .bool false)] ω5)
  else (
  pr.cutK 1 p_0 none (some k_3) fun (s6 : Sl) =>
  pr.idxK 1 p_0 k_3 fun (a7 : Addr) =>
  pr.load1 (.int .i64) a7 w fun (ξ8 : Int) =>
  pr.qcall1 .bool PP F.spec_l2Has #[Sl.v s6, vI ξ8] w fun (ρ9 : Bool) =>
  pr.drewAll w fun ω10 =>
  bif ρ9 then (
  Q .ret [(2, .bool false)] ω10)
  else (
  k (emb2 p_0 (w64 (k_3 + 1))) ω10)))
  else (
  Q (.exit 0) (x0 p_0) w))
  else (
  Q (.exit 0) (x0 p_0) w)) := by kernel_rfl
theorem B2_s (p_0 : Sl) (k_3 : Int) (w : World) (k : Env → World → Prop) (Q : Exit → Env → World → Prop) : B2 std p_0 k_3 w k Q = (
  bif decide (k_3 < (p_0.n : Int)) then (
  bif decide ((p_0.n : Int) ≤ 8) then (
  idxK 1 p_0 k_3 fun (a2 : Addr) =>
  load1 (.int .i64) a2 w fun (ξ3 : Int) =>
  pcall1 .bool PP F.spec_l1In #[vI ξ3, vI 1, vI (p_0.n : Int)] fun (ρ4 : Bool) =>
  bif !ρ4 then (
  drewAll w fun ω5 =>
  Q .ret [(2, .bool false)] ω5)
  else (
  cutK 1 p_0 none (some k_3) fun (s6 : Sl) =>
  idxK 1 p_0 k_3 fun (a7 : Addr) =>
  load1 (.int .i64) a7 w fun (ξ8 : Int) =>
  qcall1 .bool PP F.spec_l2Has #[Sl.v s6, vI ξ8] w fun (ρ9 : Bool) =>
  drewAll w fun ω10 =>
  bif ρ9 then (
  Q .ret [(2, .bool false)] ω10)
  else (
  k (emb2 p_0 (w64 (k_3 + 1))) ω10)))
  else (
  Q (.exit 0) (x0 p_0) w))
  else (
  Q (.exit 0) (x0 p_0) w)) := B2_eq std p_0 k_3 w k Q
theorem L2_rule (p_0 : Sl) (k_3 : Int) (w : World) (Q : Exit → Env → World → Prop) (I : Int → World → Prop) (μ : Int → World → Nat) (h0 : I k_3 w)
    (h : ∀ (k_3 : Int) (w' : World), I k_3 w' → B2 std p_0 k_3 w' (fun e2 w2 => ∃ k_3_n, e2 = emb2 p_0 k_3_n ∧ I k_3_n w2 ∧ μ k_3_n w2 < μ k_3 w') Q) :
    L2 std p_0 k_3 w Q := by
  unfold L2
  refine LoopE.intro (σ := Int) (step := S2 std Q) (fun s => emb2 p_0 s) (fun s w => I s w) (fun s w => μ s w) k_3 rfl h0 ?_
  intro s w' hI
  have h1 := h s w' hI
  unfold B2 at h1
  exact h1
theorem A2_0_eq (pr : Prims) (p_0 : Sl) (w : World) (R : Ending → World → Prop) : (q1 pr R) (.exit 0) (x0 p_0) w = (
  R (.returned (.bool (decide ((p_0.n : Int) ≤ 8)))) w) := by kernel_rfl
theorem A2_0_s (p_0 : Sl) (w : World) (R : Ending → World → Prop) : (q1 std R) (.exit 0) (x0 p_0) w = (
  R (.returned (.bool (decide ((p_0.n : Int) ≤ 8)))) w) := A2_0_eq std p_0 w R
theorem R2_eq (pr : Prims) (v2 : Value) (w : World) (R : Ending → World → Prop) : (q1 pr R) .ret [(2, v2)] w = (
  R (.returned (v2)) w) := by kernel_rfl
theorem R2_s (v2 : Value) (w : World) (R : Ending → World → Prop) : (q1 std R) .ret [(2, v2)] w = (
  R (.returned (v2)) w) := R2_eq std v2 w R
theorem E_eq (pr : Prims) (p_0 : Sl) (w : World) (R : Ending → World → Prop) : E pr p_0 w R = (
  L2 pr p_0 0 w (q1 pr R)) := by kernel_rfl
theorem E_s (p_0 : Sl) (w : World) (R : Ending → World → Prop) : E std p_0 w R = (
  L2 std p_0 0 w (q1 std R)) := E_eq std p_0 w R
theorem drawsOk : drawsOk PP cfg okD (codeOf Try.f60) = true := by kernel_rfl
theorem calls (p_0 : Sl) {w : World} {R : Ending → World → Prop} (h : E std p_0 w R) : Calls PP F.spec_IsPerm #[Sl.v p_0] w R :=
  calls_of noCount mixed drawOk Try.func60 rfl (c := cfg) (args := [Sl.v p_0]) rfl (Nat.le_of_ble_eq_true (by kernel_rfl)) drawsOk h
end spec_IsPerm

namespace spec_l2Has
@[reducible] def cfg : Cfg := ⟨18, [(2, [0, 1, 5])], [(1, [0, 1, 5]), (0, [])], [], [4], [], [17, 24, 21, 26, 65, 27, 91, 60, 78], [86, 52]⟩
def q0 (pr : Prims) (R : Ending → World → Prop) : Exit → Env → World → Prop := fun ex e w => normQ ex (fun e w => contE pr cfg (sub (codeOf Try.f91) [1, 1]) (fun e w => wpC pr PP cfg (DD pr) (sub (codeOf Try.f91) [1, 1]) (retQ Try.f91.results.toList R) e w) e w) (retQ Try.f91.results.toList R) e w
def q1 (pr : Prims) (R : Ending → World → Prop) : Exit → Env → World → Prop := fun ex e w => blockQ ex 0 (q0 pr R) e w
def emb2 (list_0 : Sl) (n_1 : Int) (k_5 : Int) : Env := [(0, Sl.v list_0), (1, vI n_1), (5, vI k_5)]
def x0 : Env := []
def S2 (pr : Prims) (Q : Exit → Env → World → Prop) : (Env → World → Prop) → Env → World → Prop := fun k e w => wpC pr PP cfg (DD pr) (sub (codeOf Try.f91) [1, 0, 1, 0, 0]) (fun ex e w => normQ ex (fun e' w' => k (Env.restr e' (lookN cfg.loops (keyOf (sub (codeOf Try.f91) [1, 0, 1, 0, 0])))) w') Q e w) e w
def B2 (pr : Prims) (list_0 : Sl) (n_1 : Int) (k_5 : Int) (w : World) (k : Env → World → Prop) (Q : Exit → Env → World → Prop) : Prop :=
  S2 pr Q k (emb2 list_0 n_1 k_5) w
def L2 (pr : Prims) (list_0 : Sl) (n_1 : Int) (k_5 : Int) (w : World) (Q : Exit → Env → World → Prop) : Prop :=
  pr.loop (S2 pr Q) (emb2 list_0 n_1 k_5) w
def E (pr : Prims) (list_0 : Sl) (n_1 : Int) (w : World) (R : Ending → World → Prop) : Prop :=
  wpC pr PP cfg (DD pr) (codeOf Try.f91) (retQ Try.f91.results.toList R) (argE 0 [Sl.v list_0, vI n_1]) w
theorem B2_eq (pr : Prims) (list_0 : Sl) (n_1 : Int) (k_5 : Int) (w : World) (k : Env → World → Prop) (Q : Exit → Env → World → Prop) : B2 pr list_0 n_1 k_5 w k Q = (
  bif decide (k_5 < (list_0.n : Int)) then (
  pr.idxK 1 list_0 k_5 fun (a2 : Addr) =>
  pr.load1 (.int .i64) a2 w fun (ξ3 : Int) =>
  bif ξ3 == n_1 then (
  Q .ret [(4, .bool true)] w)
  else (
  k (emb2 list_0 n_1 (w64 (k_5 + 1))) w))
  else (
  Q (.exit 0) (x0) w)) := by kernel_rfl
theorem B2_s (list_0 : Sl) (n_1 : Int) (k_5 : Int) (w : World) (k : Env → World → Prop) (Q : Exit → Env → World → Prop) : B2 std list_0 n_1 k_5 w k Q = (
  bif decide (k_5 < (list_0.n : Int)) then (
  idxK 1 list_0 k_5 fun (a2 : Addr) =>
  load1 (.int .i64) a2 w fun (ξ3 : Int) =>
  bif ξ3 == n_1 then (
  Q .ret [(4, .bool true)] w)
  else (
  k (emb2 list_0 n_1 (w64 (k_5 + 1))) w))
  else (
  Q (.exit 0) (x0) w)) := B2_eq std list_0 n_1 k_5 w k Q
theorem L2_rule (list_0 : Sl) (n_1 : Int) (k_5 : Int) (w : World) (Q : Exit → Env → World → Prop) (I : Int → World → Prop) (μ : Int → World → Nat) (h0 : I k_5 w)
    (h : ∀ (k_5 : Int) (w' : World), I k_5 w' → B2 std list_0 n_1 k_5 w' (fun e2 w2 => ∃ k_5_n, e2 = emb2 list_0 n_1 k_5_n ∧ I k_5_n w2 ∧ μ k_5_n w2 < μ k_5 w') Q) :
    L2 std list_0 n_1 k_5 w Q := by
  unfold L2
  refine LoopE.intro (σ := Int) (step := S2 std Q) (fun s => emb2 list_0 n_1 s) (fun s w => I s w) (fun s w => μ s w) k_5 rfl h0 ?_
  intro s w' hI
  have h1 := h s w' hI
  unfold B2 at h1
  exact h1
theorem A2_0_eq (pr : Prims) (w : World) (R : Ending → World → Prop) : (q1 pr R) (.exit 0) (x0) w = (
  R (.returned (.bool false)) w) := by kernel_rfl
theorem A2_0_s (w : World) (R : Ending → World → Prop) : (q1 std R) (.exit 0) (x0) w = (
  R (.returned (.bool false)) w) := A2_0_eq std w R
theorem R2_eq (pr : Prims) (v4 : Value) (w : World) (R : Ending → World → Prop) : (q1 pr R) .ret [(4, v4)] w = (
  R (.returned (v4)) w) := by kernel_rfl
theorem R2_s (v4 : Value) (w : World) (R : Ending → World → Prop) : (q1 std R) .ret [(4, v4)] w = (
  R (.returned (v4)) w) := R2_eq std v4 w R
theorem E_eq (pr : Prims) (list_0 : Sl) (n_1 : Int) (w : World) (R : Ending → World → Prop) : E pr list_0 n_1 w R = (
  L2 pr list_0 n_1 0 w (q1 pr R)) := by kernel_rfl
theorem E_s (list_0 : Sl) (n_1 : Int) (w : World) (R : Ending → World → Prop) : E std list_0 n_1 w R = (
  L2 std list_0 n_1 0 w (q1 std R)) := E_eq std list_0 n_1 w R
theorem drawsOk : drawsOk PP cfg okD (codeOf Try.f91) = true := by kernel_rfl
theorem calls (list_0 : Sl) (n_1 : Int) {w : World} {R : Ending → World → Prop} (h : E std list_0 n_1 w R) : Calls PP F.spec_l2Has #[Sl.v list_0, vI n_1] w R :=
  calls_of noCount mixed drawOk Try.func91 rfl (c := cfg) (args := [Sl.v list_0, vI n_1]) rfl (Nat.le_of_ble_eq_true (by kernel_rfl)) drawsOk h
end spec_l2Has

namespace spec_l1In
@[reducible] def cfg : Cfg := ⟨15, [], [], [], [6], [], [17, 24, 21, 26, 65, 27, 91, 60, 78], [86, 52]⟩
def E (pr : Prims) (x_0 : Int) (lo_1 : Int) (hi_2 : Int) (w : World) (R : Ending → World → Prop) : Prop :=
  wpC pr PP cfg (DD pr) (codeOf Try.f86) (retQ Try.f86.results.toList R) (argE 0 [vI x_0, vI lo_1, vI hi_2]) w
theorem E_eq (pr : Prims) (x_0 : Int) (lo_1 : Int) (hi_2 : Int) (w : World) (R : Ending → World → Prop) : E pr x_0 lo_1 hi_2 w R = (
  bif decide (x_0 ≥ lo_1) then (
  R (.returned (.bool (decide (x_0 ≤ hi_2)))) w)
  else (
  R (.returned (.bool false)) w)) := by kernel_rfl
theorem E_s (x_0 : Int) (lo_1 : Int) (hi_2 : Int) (w : World) (R : Ending → World → Prop) : E std x_0 lo_1 hi_2 w R = (
  bif decide (x_0 ≥ lo_1) then (
  R (.returned (.bool (decide (x_0 ≤ hi_2)))) w)
  else (
  R (.returned (.bool false)) w)) := E_eq std x_0 lo_1 hi_2 w R
theorem drawsOk : drawsOk PP cfg okD (codeOf Try.f86) = true := by kernel_rfl
theorem calls (x_0 : Int) (lo_1 : Int) (hi_2 : Int) {w : World} {R : Ending → World → Prop} (h : E std x_0 lo_1 hi_2 w R) : Calls PP F.spec_l1In #[vI x_0, vI lo_1, vI hi_2] w R :=
  calls_of noCount mixed drawOk Try.func86 rfl (c := cfg) (args := [vI x_0, vI lo_1, vI hi_2]) rfl (Nat.le_of_ble_eq_true (by kernel_rfl)) drawsOk h
end spec_l1In

namespace spec_l1Bit
@[reducible] def cfg : Cfg := ⟨4, [], [], [], [2], [], [17, 24, 21, 26, 65, 27, 91, 60, 78], [86, 52]⟩
def E (pr : Prims) (on_0 : Bool) (w : World) (R : Ending → World → Prop) : Prop :=
  wpC pr PP cfg (DD pr) (codeOf Try.f52) (retQ Try.f52.results.toList R) (argE 0 [.bool on_0]) w
theorem E_eq (pr : Prims) (on_0 : Bool) (w : World) (R : Ending → World → Prop) : E pr on_0 w R = (
  bif on_0 then (
  R (.returned (vI 1)) w)
  else (
  R (.returned (vI 0)) w)) := by kernel_rfl
theorem E_s (on_0 : Bool) (w : World) (R : Ending → World → Prop) : E std on_0 w R = (
  bif on_0 then (
  R (.returned (vI 1)) w)
  else (
  R (.returned (vI 0)) w)) := E_eq std on_0 w R
theorem drawsOk : drawsOk PP cfg okD (codeOf Try.f52) = true := by kernel_rfl
theorem calls (on_0 : Bool) {w : World} {R : Ending → World → Prop} (h : E std on_0 w R) : Calls PP F.spec_l1Bit #[.bool on_0] w R :=
  calls_of noCount mixed drawOk Try.func52 rfl (c := cfg) (args := [.bool on_0]) rfl (Nat.le_of_ble_eq_true (by kernel_rfl)) drawsOk h
end spec_l1Bit

namespace impl_isForm
@[reducible] def cfg : Cfg := ⟨41, [(3, [0, 1, 5, 8, 9, 10])], [(1, [0, 1, 5, 8, 9, 10]), (0, [])], [], [4], [], [17, 24, 21, 26, 65, 27, 91, 60, 78], [86, 52]⟩
def q0 (pr : Prims) (R : Ending → World → Prop) : Exit → Env → World → Prop := fun ex e w => normQ ex (fun e w => contE pr cfg (sub (codeOf Try.f53) [1, 1, 1]) (fun e w => wpC pr PP cfg (DD pr) (sub (codeOf Try.f53) [1, 1, 1]) (retQ Try.f53.results.toList R) e w) e w) (retQ Try.f53.results.toList R) e w
def q1 (pr : Prims) (R : Ending → World → Prop) : Exit → Env → World → Prop := fun ex e w => blockQ ex 0 (q0 pr R) e w
def emb3 (form_0 : Sl) (most_1 : Int) (sum_5 : Int) (t8 : Sl) (t9 : Int) (t10 : Int) : Env := [(0, Sl.v form_0), (1, vI most_1), (5, vI sum_5), (8, Sl.v t8), (9, vI t9), (10, vI t10)]
def x0 : Env := []
def S3 (pr : Prims) (Q : Exit → Env → World → Prop) : (Env → World → Prop) → Env → World → Prop := fun k e w => wpC pr PP cfg (DD pr) (sub (codeOf Try.f53) [1, 1, 0, 1, 0, 0]) (fun ex e w => normQ ex (fun e' w' => k (Env.restr e' (lookN cfg.loops (keyOf (sub (codeOf Try.f53) [1, 1, 0, 1, 0, 0])))) w') Q e w) e w
def B3 (pr : Prims) (form_0 : Sl) (most_1 : Int) (sum_5 : Int) (t8 : Sl) (t9 : Int) (t10 : Int) (w : World) (k : Env → World → Prop) (Q : Exit → Env → World → Prop) : Prop :=
  S3 pr Q k (emb3 form_0 most_1 sum_5 t8 t9 t10) w
def L3 (pr : Prims) (form_0 : Sl) (most_1 : Int) (sum_5 : Int) (t8 : Sl) (t9 : Int) (t10 : Int) (w : World) (Q : Exit → Env → World → Prop) : Prop :=
  pr.loop (S3 pr Q) (emb3 form_0 most_1 sum_5 t8 t9 t10) w
def E (pr : Prims) (form_0 : Sl) (most_1 : Int) (w : World) (R : Ending → World → Prop) : Prop :=
  wpC pr PP cfg (DD pr) (codeOf Try.f53) (retQ Try.f53.results.toList R) (argE 0 [Sl.v form_0, vI most_1]) w
theorem B3_eq (pr : Prims) (form_0 : Sl) (most_1 : Int) (sum_5 : Int) (t8 : Sl) (t9 : Int) (t10 : Int) (w : World) (k : Env → World → Prop) (Q : Exit → Env → World → Prop) : B3 pr form_0 most_1 sum_5 t8 t9 t10 w k Q = (
  bif decide (t10 < t9) then (
  pr.idxK 1 t8 t10 fun (a2 : Addr) =>
  pr.load1 (.int .i64) a2 w fun (ξ3 : Int) =>
  bif decide (ξ3 < 1) then (
  Q .ret [(4, .bool false)] w)
  else (
  bif decide (ξ3 > (w64 (most_1 - sum_5))) then (
  Q .ret [(4, .bool false)] w)
  else (
  bif decide (t10 > 0) then (
  pr.idxK 1 form_0 (w64 (t10 - 1)) fun (a4 : Addr) =>
  pr.load1 (.int .i64) a4 w fun (ξ5 : Int) =>
  bif decide (ξ3 > ξ5) then (
  Q .ret [(4, .bool false)] w)
  else (
  k (emb3 form_0 most_1 (w64 (sum_5 + ξ3)) t8 t9 (w64 (t10 + 1))) w))
  else (
  k (emb3 form_0 most_1 (w64 (sum_5 + ξ3)) t8 t9 (w64 (t10 + 1))) w))))
  else (
  Q (.exit 0) (x0) w)) := by kernel_rfl
theorem B3_s (form_0 : Sl) (most_1 : Int) (sum_5 : Int) (t8 : Sl) (t9 : Int) (t10 : Int) (w : World) (k : Env → World → Prop) (Q : Exit → Env → World → Prop) : B3 std form_0 most_1 sum_5 t8 t9 t10 w k Q = (
  bif decide (t10 < t9) then (
  idxK 1 t8 t10 fun (a2 : Addr) =>
  load1 (.int .i64) a2 w fun (ξ3 : Int) =>
  bif decide (ξ3 < 1) then (
  Q .ret [(4, .bool false)] w)
  else (
  bif decide (ξ3 > (w64 (most_1 - sum_5))) then (
  Q .ret [(4, .bool false)] w)
  else (
  bif decide (t10 > 0) then (
  idxK 1 form_0 (w64 (t10 - 1)) fun (a4 : Addr) =>
  load1 (.int .i64) a4 w fun (ξ5 : Int) =>
  bif decide (ξ3 > ξ5) then (
  Q .ret [(4, .bool false)] w)
  else (
  k (emb3 form_0 most_1 (w64 (sum_5 + ξ3)) t8 t9 (w64 (t10 + 1))) w))
  else (
  k (emb3 form_0 most_1 (w64 (sum_5 + ξ3)) t8 t9 (w64 (t10 + 1))) w))))
  else (
  Q (.exit 0) (x0) w)) := B3_eq std form_0 most_1 sum_5 t8 t9 t10 w k Q
theorem L3_rule (form_0 : Sl) (most_1 : Int) (sum_5 : Int) (t8 : Sl) (t9 : Int) (t10 : Int) (w : World) (Q : Exit → Env → World → Prop) (I : Int → Int → World → Prop) (μ : Int → Int → World → Nat) (h0 : I sum_5 t10 w)
    (h : ∀ (sum_5 : Int) (t10 : Int) (w' : World), I sum_5 t10 w' → B3 std form_0 most_1 sum_5 t8 t9 t10 w' (fun e2 w2 => ∃ sum_5_n t10_n, e2 = emb3 form_0 most_1 sum_5_n t8 t9 t10_n ∧ I sum_5_n t10_n w2 ∧ μ sum_5_n t10_n w2 < μ sum_5 t10 w') Q) :
    L3 std form_0 most_1 sum_5 t8 t9 t10 w Q := by
  unfold L3
  refine LoopE.intro (σ := Int × Int) (step := S3 std Q) (fun s => emb3 form_0 most_1 s.1 t8 t9 s.2) (fun s w => I s.1 s.2 w) (fun s w => μ s.1 s.2 w) (sum_5, t10) rfl h0 ?_
  intro s w' hI
  have h1 := h s.1 s.2 w' hI
  unfold B3 at h1
  simp only [Prod.exists]
  exact h1
theorem A3_0_eq (pr : Prims) (w : World) (R : Ending → World → Prop) : (q1 pr R) (.exit 0) (x0) w = (
  R (.returned (.bool true)) w) := by kernel_rfl
theorem A3_0_s (w : World) (R : Ending → World → Prop) : (q1 std R) (.exit 0) (x0) w = (
  R (.returned (.bool true)) w) := A3_0_eq std w R
theorem R3_eq (pr : Prims) (v4 : Value) (w : World) (R : Ending → World → Prop) : (q1 pr R) .ret [(4, v4)] w = (
  R (.returned (v4)) w) := by kernel_rfl
theorem R3_s (v4 : Value) (w : World) (R : Ending → World → Prop) : (q1 std R) .ret [(4, v4)] w = (
  R (.returned (v4)) w) := R3_eq std v4 w R
theorem E_eq (pr : Prims) (form_0 : Sl) (most_1 : Int) (w : World) (R : Ending → World → Prop) : E pr form_0 most_1 w R = (
  L3 pr form_0 most_1 0 form_0 (form_0.n : Int) 0 w (q1 pr R)) := by kernel_rfl
theorem E_s (form_0 : Sl) (most_1 : Int) (w : World) (R : Ending → World → Prop) : E std form_0 most_1 w R = (
  L3 std form_0 most_1 0 form_0 (form_0.n : Int) 0 w (q1 std R)) := E_eq std form_0 most_1 w R
theorem drawsOk : drawsOk PP cfg okD (codeOf Try.f53) = true := by kernel_rfl
theorem calls (form_0 : Sl) (most_1 : Int) {w : World} {R : Ending → World → Prop} (h : E std form_0 most_1 w R) : Calls PP F.impl_isForm #[Sl.v form_0, vI most_1] w R :=
  calls_of noCount mixed drawOk Try.func53 rfl (c := cfg) (args := [Sl.v form_0, vI most_1]) rfl (Nat.le_of_ble_eq_true (by kernel_rfl)) drawsOk h
end impl_isForm

namespace spec_l19Form
@[reducible] def cfg : Cfg := ⟨56, [(3, [0, 1, 5, 6])], [(1, [0, 1, 5, 6]), (0, [1, 5])], [], [4], [5], [17, 24, 21, 26, 65, 27, 91, 60, 78], [86, 52]⟩
def q0 (pr : Prims) (R : Ending → World → Prop) : Exit → Env → World → Prop := fun ex e w => normQ ex (fun e w => contE pr cfg (sub (codeOf Try.f51) [1, 1, 1]) (fun e w => wpC pr PP cfg (DD pr) (sub (codeOf Try.f51) [1, 1, 1]) (retQ Try.f51.results.toList R) e w) e w) (retQ Try.f51.results.toList R) e w
def q1 (pr : Prims) (R : Ending → World → Prop) : Exit → Env → World → Prop := fun ex e w => blockQ ex 0 (q0 pr R) e w
def emb3 (form_0 : Sl) (most_1 : Int) (sum_5 : Int) (k_6 : Int) : Env := [(0, Sl.v form_0), (1, vI most_1), (5, vI sum_5), (6, vI k_6)]
def x0 (most_1 : Int) (sum_5 : Int) : Env := [(1, vI most_1), (5, vI sum_5)]
def S3 (pr : Prims) (Q : Exit → Env → World → Prop) : (Env → World → Prop) → Env → World → Prop := fun k e w => wpC pr PP cfg (DD pr) (sub (codeOf Try.f51) [1, 1, 0, 1, 0, 0]) (fun ex e w => normQ ex (fun e' w' => k (Env.restr e' (lookN cfg.loops (keyOf (sub (codeOf Try.f51) [1, 1, 0, 1, 0, 0])))) w') Q e w) e w
def B3 (pr : Prims) (form_0 : Sl) (most_1 : Int) (sum_5 : Int) (k_6 : Int) (w : World) (k : Env → World → Prop) (Q : Exit → Env → World → Prop) : Prop :=
  S3 pr Q k (emb3 form_0 most_1 sum_5 k_6) w
def L3 (pr : Prims) (form_0 : Sl) (most_1 : Int) (sum_5 : Int) (k_6 : Int) (w : World) (Q : Exit → Env → World → Prop) : Prop :=
  pr.loop (S3 pr Q) (emb3 form_0 most_1 sum_5 k_6) w
def E (pr : Prims) (form_0 : Sl) (most_1 : Int) (w : World) (R : Ending → World → Prop) : Prop :=
  wpC pr PP cfg (DD pr) (codeOf Try.f51) (retQ Try.f51.results.toList R) (argE 0 [Sl.v form_0, vI most_1]) w
theorem B3_eq (pr : Prims) (form_0 : Sl) (most_1 : Int) (sum_5 : Int) (k_6 : Int) (w : World) (k : Env → World → Prop) (Q : Exit → Env → World → Prop) : B3 pr form_0 most_1 sum_5 k_6 w k Q = (
  bif decide (k_6 < (form_0.n : Int)) then (
  pr.idxK 1 form_0 k_6 fun (a2 : Addr) =>
  pr.load1 (.int .i64) a2 w fun (ξ3 : Int) =>
  bif decide (ξ3 < 1) then (
  pr.drewAll w fun ω4 =>
  Q .ret [(4, .bool false)] ω4)
  else (
  pr.idxK 1 form_0 k_6 fun (a5 : Addr) =>
  pr.load1 (.int .i64) a5 w fun (ξ6 : Int) =>
  bif decide (ξ6 > most_1) then (
  pr.drewAll w fun ω7 =>
  Q .ret [(4, .bool false)] ω7)
  else (
  bif decide (k_6 > 0) then (
  pr.idxK 1 form_0 k_6 fun (a8 : Addr) =>
  pr.load1 (.int .i64) a8 w fun (ξ9 : Int) =>
  pr.idxK 1 form_0 (w64 (k_6 - 1)) fun (a10 : Addr) =>
  pr.load1 (.int .i64) a10 w fun (ξ11 : Int) =>
  bif decide (ξ9 > ξ11) then (
  pr.drewAll w fun ω12 =>
  Q .ret [(4, .bool false)] ω12)
  else (
  pr.drewAll w fun ω13 =>
  bif decide (k_6 ≥ most_1) then (
  Q .ret [(4, .bool false)] ω13)
  else (
  pr.idxK 1 form_0 k_6 fun (a14 : Addr) =>
  pr.load1 (.int .i64) a14 ω13 fun (ξ15 : Int) =>
  k (emb3 form_0 most_1 (w64 (sum_5 + ξ15)) (w64 (k_6 + 1))) ω13)))
  else (
  pr.drewAll w fun ω16 =>
  bif decide (k_6 ≥ most_1) then (
  Q .ret [(4, .bool false)] ω16)
  else (
  pr.idxK 1 form_0 k_6 fun (a17 : Addr) =>
  pr.load1 (.int .i64) a17 ω16 fun (ξ18 : Int) =>
  k (emb3 form_0 most_1 (w64 (sum_5 + ξ18)) (w64 (k_6 + 1))) ω16)))))
  else (
  Q (.exit 0) (x0 most_1 sum_5) w)) := by kernel_rfl
theorem B3_s (form_0 : Sl) (most_1 : Int) (sum_5 : Int) (k_6 : Int) (w : World) (k : Env → World → Prop) (Q : Exit → Env → World → Prop) : B3 std form_0 most_1 sum_5 k_6 w k Q = (
  bif decide (k_6 < (form_0.n : Int)) then (
  idxK 1 form_0 k_6 fun (a2 : Addr) =>
  load1 (.int .i64) a2 w fun (ξ3 : Int) =>
  bif decide (ξ3 < 1) then (
  drewAll w fun ω4 =>
  Q .ret [(4, .bool false)] ω4)
  else (
  idxK 1 form_0 k_6 fun (a5 : Addr) =>
  load1 (.int .i64) a5 w fun (ξ6 : Int) =>
  bif decide (ξ6 > most_1) then (
  drewAll w fun ω7 =>
  Q .ret [(4, .bool false)] ω7)
  else (
  bif decide (k_6 > 0) then (
  idxK 1 form_0 k_6 fun (a8 : Addr) =>
  load1 (.int .i64) a8 w fun (ξ9 : Int) =>
  idxK 1 form_0 (w64 (k_6 - 1)) fun (a10 : Addr) =>
  load1 (.int .i64) a10 w fun (ξ11 : Int) =>
  bif decide (ξ9 > ξ11) then (
  drewAll w fun ω12 =>
  Q .ret [(4, .bool false)] ω12)
  else (
  drewAll w fun ω13 =>
  bif decide (k_6 ≥ most_1) then (
  Q .ret [(4, .bool false)] ω13)
  else (
  idxK 1 form_0 k_6 fun (a14 : Addr) =>
  load1 (.int .i64) a14 ω13 fun (ξ15 : Int) =>
  k (emb3 form_0 most_1 (w64 (sum_5 + ξ15)) (w64 (k_6 + 1))) ω13)))
  else (
  drewAll w fun ω16 =>
  bif decide (k_6 ≥ most_1) then (
  Q .ret [(4, .bool false)] ω16)
  else (
  idxK 1 form_0 k_6 fun (a17 : Addr) =>
  load1 (.int .i64) a17 ω16 fun (ξ18 : Int) =>
  k (emb3 form_0 most_1 (w64 (sum_5 + ξ18)) (w64 (k_6 + 1))) ω16)))))
  else (
  Q (.exit 0) (x0 most_1 sum_5) w)) := B3_eq std form_0 most_1 sum_5 k_6 w k Q
theorem L3_rule (form_0 : Sl) (most_1 : Int) (sum_5 : Int) (k_6 : Int) (w : World) (Q : Exit → Env → World → Prop) (I : Int → Int → World → Prop) (μ : Int → Int → World → Nat) (h0 : I sum_5 k_6 w)
    (h : ∀ (sum_5 : Int) (k_6 : Int) (w' : World), I sum_5 k_6 w' → B3 std form_0 most_1 sum_5 k_6 w' (fun e2 w2 => ∃ sum_5_n k_6_n, e2 = emb3 form_0 most_1 sum_5_n k_6_n ∧ I sum_5_n k_6_n w2 ∧ μ sum_5_n k_6_n w2 < μ sum_5 k_6 w') Q) :
    L3 std form_0 most_1 sum_5 k_6 w Q := by
  unfold L3
  refine LoopE.intro (σ := Int × Int) (step := S3 std Q) (fun s => emb3 form_0 most_1 s.1 s.2) (fun s w => I s.1 s.2 w) (fun s w => μ s.1 s.2 w) (sum_5, k_6) rfl h0 ?_
  intro s w' hI
  have h1 := h s.1 s.2 w' hI
  unfold B3 at h1
  simp only [Prod.exists]
  exact h1
theorem A3_0_eq (pr : Prims) (most_1 : Int) (sum_5 : Int) (w : World) (R : Ending → World → Prop) : (q1 pr R) (.exit 0) (x0 most_1 sum_5) w = (
  R (.returned (.bool (decide (sum_5 ≤ most_1)))) w) := by kernel_rfl
theorem A3_0_s (most_1 : Int) (sum_5 : Int) (w : World) (R : Ending → World → Prop) : (q1 std R) (.exit 0) (x0 most_1 sum_5) w = (
  R (.returned (.bool (decide (sum_5 ≤ most_1)))) w) := A3_0_eq std most_1 sum_5 w R
theorem R3_eq (pr : Prims) (v4 : Value) (w : World) (R : Ending → World → Prop) : (q1 pr R) .ret [(4, v4)] w = (
  R (.returned (v4)) w) := by kernel_rfl
theorem R3_s (v4 : Value) (w : World) (R : Ending → World → Prop) : (q1 std R) .ret [(4, v4)] w = (
  R (.returned (v4)) w) := R3_eq std v4 w R
theorem E_eq (pr : Prims) (form_0 : Sl) (most_1 : Int) (w : World) (R : Ending → World → Prop) : E pr form_0 most_1 w R = (
  L3 pr form_0 most_1 0 0 w (q1 pr R)) := by kernel_rfl
theorem E_s (form_0 : Sl) (most_1 : Int) (w : World) (R : Ending → World → Prop) : E std form_0 most_1 w R = (
  L3 std form_0 most_1 0 0 w (q1 std R)) := E_eq std form_0 most_1 w R
theorem drawsOk : drawsOk PP cfg okD (codeOf Try.f51) = true := by kernel_rfl
theorem calls (form_0 : Sl) (most_1 : Int) {w : World} {R : Ending → World → Prop} (h : E std form_0 most_1 w R) : Calls PP F.spec_l19Form #[Sl.v form_0, vI most_1] w R :=
  calls_of noCount mixed drawOk Try.func51 rfl (c := cfg) (args := [Sl.v form_0, vI most_1]) rfl (Nat.le_of_ble_eq_true (by kernel_rfl)) drawsOk h
end spec_l19Form

namespace impl_CountTableaux
@[reducible] def cfg : Cfg := ⟨62, [(5, [0, 3, 4, 16, 17]), (17, [0, 3, 4, 6, 7, 8, 9, 25, 26, 27, 32, 33, 42, 43, 44]), (13, [0, 3, 4, 6, 7, 25, 26, 27, 32, 33]), (10, [0, 3, 4, 25, 26, 27])], [(1, [0, 3, 4, 16, 17]), (0, [0, 3, 4]), (7, [0, 3, 4, 6, 7, 8, 9, 25, 26, 27, 32, 33, 42, 43, 44]), (6, [0, 3, 4, 6, 7, 9, 25, 26, 27, 32, 33]), (5, [0, 3, 4, 6, 7, 25, 26, 27, 32, 33]), (4, [0, 3, 4, 25, 26, 27]), (3, [0, 3, 4, 25, 26, 27]), (2, [3, 4])], [], [2], [], [17, 24, 21, 26, 65, 27, 91, 60, 78], [86, 52]⟩
def q2 (pr : Prims) (R : Ending → World → Prop) : Exit → Env → World → Prop := fun ex e w => normQ ex (fun e w => contE pr cfg (sub (codeOf Try.f16) [1, 1, 1, 1]) (fun e w => wpC pr PP cfg (DD pr) (sub (codeOf Try.f16) [1, 1, 1, 1]) (retQ Try.f16.results.toList R) e w) e w) (retQ Try.f16.results.toList R) e w
def q5 (pr : Prims) (R : Ending → World → Prop) : Exit → Env → World → Prop := fun ex e w => blockQ ex 0 (q2 pr R) e w
def q6 (pr : Prims) (R : Ending → World → Prop) : Exit → Env → World → Prop := fun ex e w => normQ ex (fun e w => contE pr cfg (sub (codeOf Try.f16) [1, 1, 1, 1, 1]) (fun e w => wpC pr PP cfg (DD pr) (sub (codeOf Try.f16) [1, 1, 1, 1, 1]) (retQ Try.f16.results.toList R) e w) e w) (retQ Try.f16.results.toList R) e w
def q7 (pr : Prims) (R : Ending → World → Prop) : Exit → Env → World → Prop := fun ex e w => blockQ ex 2 (q6 pr R) e w
def q8 (pr : Prims) (k : Env → World → Prop) (Q : Exit → Env → World → Prop) : Exit → Env → World → Prop := fun ex e w => normQ ex (fun e w => contE pr cfg (sub (codeOf Try.f16) [1, 1, 1, 1, 0, 1, 0, 0, 1, 1, 1]) (fun e w => wpC pr PP cfg (DD pr) (sub (codeOf Try.f16) [1, 1, 1, 1, 0, 1, 0, 0, 1, 1, 1]) (fun ex e w => normQ ex (fun e' w' => k (Env.restr e' (lookN cfg.loops (keyOf (sub (codeOf Try.f16) [1, 1, 1, 1, 0, 1, 0, 0])))) w') Q e w) e w) e w) (fun ex e w => normQ ex (fun e' w' => k (Env.restr e' (lookN cfg.loops (keyOf (sub (codeOf Try.f16) [1, 1, 1, 1, 0, 1, 0, 0])))) w') Q e w) e w
def q9 (pr : Prims) (k : Env → World → Prop) (Q : Exit → Env → World → Prop) : Exit → Env → World → Prop := fun ex e w => blockQ ex 3 (q8 pr k Q) e w
def q12 (pr : Prims) (k : Env → World → Prop) (Q : Exit → Env → World → Prop) : Exit → Env → World → Prop := fun ex e w => blockQ ex 4 (q9 pr k Q) e w
def q13 (pr : Prims) (k : Env → World → Prop) (Q : Exit → Env → World → Prop) : Exit → Env → World → Prop := fun ex e w => normQ ex (fun e w => contE pr cfg (sub (codeOf Try.f16) [1, 1, 1, 1, 0, 1, 0, 0, 1, 1, 0, 0, 1, 1, 0, 0, 1, 1, 1]) (fun e w => wpC pr PP cfg (DD pr) (sub (codeOf Try.f16) [1, 1, 1, 1, 0, 1, 0, 0, 1, 1, 0, 0, 1, 1, 0, 0, 1, 1, 1]) (fun ex e w => normQ ex (fun e' w' => k (Env.restr e' (lookN cfg.loops (keyOf (sub (codeOf Try.f16) [1, 1, 1, 1, 0, 1, 0, 0, 1, 1, 0, 0, 1, 1, 0, 0])))) w') Q e w) e w) e w) (fun ex e w => normQ ex (fun e' w' => k (Env.restr e' (lookN cfg.loops (keyOf (sub (codeOf Try.f16) [1, 1, 1, 1, 0, 1, 0, 0, 1, 1, 0, 0, 1, 1, 0, 0])))) w') Q e w) e w
def q14 (pr : Prims) (k : Env → World → Prop) (Q : Exit → Env → World → Prop) : Exit → Env → World → Prop := fun ex e w => blockQ ex 5 (q13 pr k Q) e w
def q15 (pr : Prims) (k : Env → World → Prop) (Q : Exit → Env → World → Prop) : Exit → Env → World → Prop := fun ex e w => normQ ex (fun e w => contE pr cfg (sub (codeOf Try.f16) [1, 1, 1, 1, 0, 1, 0, 0, 1, 1, 0, 0, 1, 1, 0, 0, 1, 1, 0, 0, 1, 1, 1]) (fun e w => wpC pr PP cfg (DD pr) (sub (codeOf Try.f16) [1, 1, 1, 1, 0, 1, 0, 0, 1, 1, 0, 0, 1, 1, 0, 0, 1, 1, 0, 0, 1, 1, 1]) (q14 pr k Q) e w) e w) (q14 pr k Q) e w
def q17 (pr : Prims) (k : Env → World → Prop) (Q : Exit → Env → World → Prop) : Exit → Env → World → Prop := fun ex e w => blockQ ex 6 (q15 pr k Q) e w
def emb5 (form_0 : Sl) (above_3 : Int) (below_4 : Int) (t16 : Int) (t17 : Int) : Env := [(0, Sl.v form_0), (3, vI above_3), (4, vI below_4), (16, vI t16), (17, vI t17)]
def x0 (form_0 : Sl) (above_3 : Int) (below_4 : Int) : Env := [(0, Sl.v form_0), (3, vI above_3), (4, vI below_4)]
def emb10 (form_0 : Sl) (above_3 : Int) (below_4 : Int) (t25 : Sl) (t26 : Int) (t27 : Int) : Env := [(0, Sl.v form_0), (3, vI above_3), (4, vI below_4), (25, Sl.v t25), (26, vI t26), (27, vI t27)]
def emb13 (form_0 : Sl) (above_3 : Int) (below_4 : Int) (i_6 : Int) (length_7 : Int) (t25 : Sl) (t26 : Int) (t27 : Int) (t32 : Int) (t33 : Int) : Env := [(0, Sl.v form_0), (3, vI above_3), (4, vI below_4), (6, vI i_6), (7, vI length_7), (25, Sl.v t25), (26, vI t26), (27, vI t27), (32, vI t32), (33, vI t33)]
def emb17 (form_0 : Sl) (above_3 : Int) (below_4 : Int) (i_6 : Int) (length_7 : Int) (j_8 : Int) (hook_9 : Int) (t25 : Sl) (t26 : Int) (t27 : Int) (t32 : Int) (t33 : Int) (t42 : Sl) (t43 : Int) (t44 : Int) : Env := [(0, Sl.v form_0), (3, vI above_3), (4, vI below_4), (6, vI i_6), (7, vI length_7), (8, vI j_8), (9, vI hook_9), (25, Sl.v t25), (26, vI t26), (27, vI t27), (32, vI t32), (33, vI t33), (42, Sl.v t42), (43, vI t43), (44, vI t44)]
def x6 (form_0 : Sl) (above_3 : Int) (below_4 : Int) (i_6 : Int) (length_7 : Int) (hook_9 : Int) (t25 : Sl) (t26 : Int) (t27 : Int) (t32 : Int) (t33 : Int) : Env := [(0, Sl.v form_0), (3, vI above_3), (4, vI below_4), (6, vI i_6), (7, vI length_7), (9, vI hook_9), (25, Sl.v t25), (26, vI t26), (27, vI t27), (32, vI t32), (33, vI t33)]
def x4 (form_0 : Sl) (above_3 : Int) (below_4 : Int) (t25 : Sl) (t26 : Int) (t27 : Int) : Env := [(0, Sl.v form_0), (3, vI above_3), (4, vI below_4), (25, Sl.v t25), (26, vI t26), (27, vI t27)]
def x2 (above_3 : Int) (below_4 : Int) : Env := [(3, vI above_3), (4, vI below_4)]
def S5 (pr : Prims) (Q : Exit → Env → World → Prop) : (Env → World → Prop) → Env → World → Prop := fun k e w => wpC pr PP cfg (DD pr) (sub (codeOf Try.f16) [1, 1, 1, 0, 1, 0, 0]) (fun ex e w => normQ ex (fun e' w' => k (Env.restr e' (lookN cfg.loops (keyOf (sub (codeOf Try.f16) [1, 1, 1, 0, 1, 0, 0])))) w') Q e w) e w
def S17 (pr : Prims) (Q : Exit → Env → World → Prop) : (Env → World → Prop) → Env → World → Prop := fun k e w => wpC pr PP cfg (DD pr) (sub (codeOf Try.f16) [1, 1, 1, 1, 0, 1, 0, 0, 1, 1, 0, 0, 1, 1, 0, 0, 1, 1, 0, 0, 1, 1, 0, 1, 0, 0]) (fun ex e w => normQ ex (fun e' w' => k (Env.restr e' (lookN cfg.loops (keyOf (sub (codeOf Try.f16) [1, 1, 1, 1, 0, 1, 0, 0, 1, 1, 0, 0, 1, 1, 0, 0, 1, 1, 0, 0, 1, 1, 0, 1, 0, 0])))) w') Q e w) e w
def S13 (pr : Prims) (Q : Exit → Env → World → Prop) : (Env → World → Prop) → Env → World → Prop := fun k e w => wpC pr PP cfg (DD pr) (sub (codeOf Try.f16) [1, 1, 1, 1, 0, 1, 0, 0, 1, 1, 0, 0, 1, 1, 0, 0]) (fun ex e w => normQ ex (fun e' w' => k (Env.restr e' (lookN cfg.loops (keyOf (sub (codeOf Try.f16) [1, 1, 1, 1, 0, 1, 0, 0, 1, 1, 0, 0, 1, 1, 0, 0])))) w') Q e w) e w
def S10 (pr : Prims) (Q : Exit → Env → World → Prop) : (Env → World → Prop) → Env → World → Prop := fun k e w => wpC pr PP cfg (DD pr) (sub (codeOf Try.f16) [1, 1, 1, 1, 0, 1, 0, 0]) (fun ex e w => normQ ex (fun e' w' => k (Env.restr e' (lookN cfg.loops (keyOf (sub (codeOf Try.f16) [1, 1, 1, 1, 0, 1, 0, 0])))) w') Q e w) e w
def B5 (pr : Prims) (form_0 : Sl) (above_3 : Int) (below_4 : Int) (t16 : Int) (t17 : Int) (w : World) (k : Env → World → Prop) (Q : Exit → Env → World → Prop) : Prop :=
  S5 pr Q k (emb5 form_0 above_3 below_4 t16 t17) w
def L5 (pr : Prims) (form_0 : Sl) (above_3 : Int) (below_4 : Int) (t16 : Int) (t17 : Int) (w : World) (Q : Exit → Env → World → Prop) : Prop :=
  pr.loop (S5 pr Q) (emb5 form_0 above_3 below_4 t16 t17) w
def B17 (pr : Prims) (form_0 : Sl) (above_3 : Int) (below_4 : Int) (i_6 : Int) (length_7 : Int) (j_8 : Int) (hook_9 : Int) (t25 : Sl) (t26 : Int) (t27 : Int) (t32 : Int) (t33 : Int) (t42 : Sl) (t43 : Int) (t44 : Int) (w : World) (k : Env → World → Prop) (Q : Exit → Env → World → Prop) : Prop :=
  S17 pr Q k (emb17 form_0 above_3 below_4 i_6 length_7 j_8 hook_9 t25 t26 t27 t32 t33 t42 t43 t44) w
def L17 (pr : Prims) (form_0 : Sl) (above_3 : Int) (below_4 : Int) (i_6 : Int) (length_7 : Int) (j_8 : Int) (hook_9 : Int) (t25 : Sl) (t26 : Int) (t27 : Int) (t32 : Int) (t33 : Int) (t42 : Sl) (t43 : Int) (t44 : Int) (w : World) (Q : Exit → Env → World → Prop) : Prop :=
  pr.loop (S17 pr Q) (emb17 form_0 above_3 below_4 i_6 length_7 j_8 hook_9 t25 t26 t27 t32 t33 t42 t43 t44) w
def B13 (pr : Prims) (form_0 : Sl) (above_3 : Int) (below_4 : Int) (i_6 : Int) (length_7 : Int) (t25 : Sl) (t26 : Int) (t27 : Int) (t32 : Int) (t33 : Int) (w : World) (k : Env → World → Prop) (Q : Exit → Env → World → Prop) : Prop :=
  S13 pr Q k (emb13 form_0 above_3 below_4 i_6 length_7 t25 t26 t27 t32 t33) w
def L13 (pr : Prims) (form_0 : Sl) (above_3 : Int) (below_4 : Int) (i_6 : Int) (length_7 : Int) (t25 : Sl) (t26 : Int) (t27 : Int) (t32 : Int) (t33 : Int) (w : World) (Q : Exit → Env → World → Prop) : Prop :=
  pr.loop (S13 pr Q) (emb13 form_0 above_3 below_4 i_6 length_7 t25 t26 t27 t32 t33) w
def B10 (pr : Prims) (form_0 : Sl) (above_3 : Int) (below_4 : Int) (t25 : Sl) (t26 : Int) (t27 : Int) (w : World) (k : Env → World → Prop) (Q : Exit → Env → World → Prop) : Prop :=
  S10 pr Q k (emb10 form_0 above_3 below_4 t25 t26 t27) w
def L10 (pr : Prims) (form_0 : Sl) (above_3 : Int) (below_4 : Int) (t25 : Sl) (t26 : Int) (t27 : Int) (w : World) (Q : Exit → Env → World → Prop) : Prop :=
  pr.loop (S10 pr Q) (emb10 form_0 above_3 below_4 t25 t26 t27) w
def E (pr : Prims) (form_0 : Sl) (w : World) (R : Ending → World → Prop) : Prop :=
  wpC pr PP cfg (DD pr) (codeOf Try.f16) (retQ Try.f16.results.toList R) (argE 0 [Sl.v form_0]) w
theorem B5_eq (pr : Prims) (form_0 : Sl) (above_3 : Int) (below_4 : Int) (t16 : Int) (t17 : Int) (w : World) (k : Env → World → Prop) (Q : Exit → Env → World → Prop) : B5 pr form_0 above_3 below_4 t16 t17 w k Q = (
  bif decide (t17 < t16) then (
  k (emb5 form_0 (w64 (above_3 * (w64 (t17 + 1)))) below_4 t16 (w64 (t17 + 1))) w)
  else (
  Q (.exit 0) (x0 form_0 above_3 below_4) w)) := by kernel_rfl
theorem B5_s (form_0 : Sl) (above_3 : Int) (below_4 : Int) (t16 : Int) (t17 : Int) (w : World) (k : Env → World → Prop) (Q : Exit → Env → World → Prop) : B5 std form_0 above_3 below_4 t16 t17 w k Q = (
  bif decide (t17 < t16) then (
  k (emb5 form_0 (w64 (above_3 * (w64 (t17 + 1)))) below_4 t16 (w64 (t17 + 1))) w)
  else (
  Q (.exit 0) (x0 form_0 above_3 below_4) w)) := B5_eq std form_0 above_3 below_4 t16 t17 w k Q
theorem L5_rule (form_0 : Sl) (above_3 : Int) (below_4 : Int) (t16 : Int) (t17 : Int) (w : World) (Q : Exit → Env → World → Prop) (I : Int → Int → World → Prop) (μ : Int → Int → World → Nat) (h0 : I above_3 t17 w)
    (h : ∀ (above_3 : Int) (t17 : Int) (w' : World), I above_3 t17 w' → B5 std form_0 above_3 below_4 t16 t17 w' (fun e2 w2 => ∃ above_3_n t17_n, e2 = emb5 form_0 above_3_n below_4 t16 t17_n ∧ I above_3_n t17_n w2 ∧ μ above_3_n t17_n w2 < μ above_3 t17 w') Q) :
    L5 std form_0 above_3 below_4 t16 t17 w Q := by
  unfold L5
  refine LoopE.intro (σ := Int × Int) (step := S5 std Q) (fun s => emb5 form_0 s.1 below_4 t16 s.2) (fun s w => I s.1 s.2 w) (fun s w => μ s.1 s.2 w) (above_3, t17) rfl h0 ?_
  intro s w' hI
  have h1 := h s.1 s.2 w' hI
  unfold B5 at h1
  simp only [Prod.exists]
  exact h1
theorem B17_eq (pr : Prims) (form_0 : Sl) (above_3 : Int) (below_4 : Int) (i_6 : Int) (length_7 : Int) (j_8 : Int) (hook_9 : Int) (t25 : Sl) (t26 : Int) (t27 : Int) (t32 : Int) (t33 : Int) (t42 : Sl) (t43 : Int) (t44 : Int) (w : World) (k : Env → World → Prop) (Q : Exit → Env → World → Prop) : B17 pr form_0 above_3 below_4 i_6 length_7 j_8 hook_9 t25 t26 t27 t32 t33 t42 t43 t44 w k Q = (
  bif decide (t44 < t43) then (
  pr.idxK 1 t42 t44 fun (a18 : Addr) =>
  pr.load1 (.int .i64) a18 w fun (ξ19 : Int) =>
  bif decide (ξ19 > j_8) then (
  k (emb17 form_0 above_3 below_4 i_6 length_7 j_8 (w64 (hook_9 + 1)) t25 t26 t27 t32 t33 t42 t43 (w64 (t44 + 1))) w)
  else (
  k (emb17 form_0 above_3 below_4 i_6 length_7 j_8 hook_9 t25 t26 t27 t32 t33 t42 t43 (w64 (t44 + 1))) w))
  else (
  Q (.exit 6) (x6 form_0 above_3 below_4 i_6 length_7 hook_9 t25 t26 t27 t32 t33) w)) := by kernel_rfl
theorem B17_s (form_0 : Sl) (above_3 : Int) (below_4 : Int) (i_6 : Int) (length_7 : Int) (j_8 : Int) (hook_9 : Int) (t25 : Sl) (t26 : Int) (t27 : Int) (t32 : Int) (t33 : Int) (t42 : Sl) (t43 : Int) (t44 : Int) (w : World) (k : Env → World → Prop) (Q : Exit → Env → World → Prop) : B17 std form_0 above_3 below_4 i_6 length_7 j_8 hook_9 t25 t26 t27 t32 t33 t42 t43 t44 w k Q = (
  bif decide (t44 < t43) then (
  idxK 1 t42 t44 fun (a18 : Addr) =>
  load1 (.int .i64) a18 w fun (ξ19 : Int) =>
  bif decide (ξ19 > j_8) then (
  k (emb17 form_0 above_3 below_4 i_6 length_7 j_8 (w64 (hook_9 + 1)) t25 t26 t27 t32 t33 t42 t43 (w64 (t44 + 1))) w)
  else (
  k (emb17 form_0 above_3 below_4 i_6 length_7 j_8 hook_9 t25 t26 t27 t32 t33 t42 t43 (w64 (t44 + 1))) w))
  else (
  Q (.exit 6) (x6 form_0 above_3 below_4 i_6 length_7 hook_9 t25 t26 t27 t32 t33) w)) := B17_eq std form_0 above_3 below_4 i_6 length_7 j_8 hook_9 t25 t26 t27 t32 t33 t42 t43 t44 w k Q
theorem L17_rule (form_0 : Sl) (above_3 : Int) (below_4 : Int) (i_6 : Int) (length_7 : Int) (j_8 : Int) (hook_9 : Int) (t25 : Sl) (t26 : Int) (t27 : Int) (t32 : Int) (t33 : Int) (t42 : Sl) (t43 : Int) (t44 : Int) (w : World) (Q : Exit → Env → World → Prop) (I : Int → Int → World → Prop) (μ : Int → Int → World → Nat) (h0 : I hook_9 t44 w)
    (h : ∀ (hook_9 : Int) (t44 : Int) (w' : World), I hook_9 t44 w' → B17 std form_0 above_3 below_4 i_6 length_7 j_8 hook_9 t25 t26 t27 t32 t33 t42 t43 t44 w' (fun e2 w2 => ∃ hook_9_n t44_n, e2 = emb17 form_0 above_3 below_4 i_6 length_7 j_8 hook_9_n t25 t26 t27 t32 t33 t42 t43 t44_n ∧ I hook_9_n t44_n w2 ∧ μ hook_9_n t44_n w2 < μ hook_9 t44 w') Q) :
    L17 std form_0 above_3 below_4 i_6 length_7 j_8 hook_9 t25 t26 t27 t32 t33 t42 t43 t44 w Q := by
  unfold L17
  refine LoopE.intro (σ := Int × Int) (step := S17 std Q) (fun s => emb17 form_0 above_3 below_4 i_6 length_7 j_8 s.1 t25 t26 t27 t32 t33 t42 t43 s.2) (fun s w => I s.1 s.2 w) (fun s w => μ s.1 s.2 w) (hook_9, t44) rfl h0 ?_
  intro s w' hI
  have h1 := h s.1 s.2 w' hI
  unfold B17 at h1
  simp only [Prod.exists]
  exact h1
theorem A17_6_eq (pr : Prims) (form_0 : Sl) (above_3 : Int) (below_4 : Int) (i_6 : Int) (length_7 : Int) (hook_9 : Int) (t25 : Sl) (t26 : Int) (t27 : Int) (t32 : Int) (t33 : Int) (w : World) (k : Env → World → Prop) (Q : Exit → Env → World → Prop) : (q17 pr k Q) (.exit 6) (x6 form_0 above_3 below_4 i_6 length_7 hook_9 t25 t26 t27 t32 t33) w = (
  k (emb13 form_0 above_3 (w64 (below_4 * hook_9)) i_6 length_7 t25 t26 t27 t32 (w64 (t33 + 1))) w) := by kernel_rfl
theorem A17_6_s (form_0 : Sl) (above_3 : Int) (below_4 : Int) (i_6 : Int) (length_7 : Int) (hook_9 : Int) (t25 : Sl) (t26 : Int) (t27 : Int) (t32 : Int) (t33 : Int) (w : World) (k : Env → World → Prop) (Q : Exit → Env → World → Prop) : (q17 std k Q) (.exit 6) (x6 form_0 above_3 below_4 i_6 length_7 hook_9 t25 t26 t27 t32 t33) w = (
  k (emb13 form_0 above_3 (w64 (below_4 * hook_9)) i_6 length_7 t25 t26 t27 t32 (w64 (t33 + 1))) w) := A17_6_eq std form_0 above_3 below_4 i_6 length_7 hook_9 t25 t26 t27 t32 t33 w k Q
theorem B13_eq (pr : Prims) (form_0 : Sl) (above_3 : Int) (below_4 : Int) (i_6 : Int) (length_7 : Int) (t25 : Sl) (t26 : Int) (t27 : Int) (t32 : Int) (t33 : Int) (w : World) (k : Env → World → Prop) (Q : Exit → Env → World → Prop) : B13 pr form_0 above_3 below_4 i_6 length_7 t25 t26 t27 t32 t33 w k Q = (
  bif decide (t33 < t32) then (
  pr.cutK 1 form_0 (some (w64 (i_6 + 1))) none fun (s16 : Sl) =>
  L17 pr form_0 above_3 below_4 i_6 length_7 t33 (w64 (length_7 - t33)) t25 t26 t27 t32 t33 s16 (s16.n : Int) 0 w (q17 pr k Q))
  else (
  Q (.exit 4) (x4 form_0 above_3 below_4 t25 t26 t27) w)) := by kernel_rfl
theorem B13_s (form_0 : Sl) (above_3 : Int) (below_4 : Int) (i_6 : Int) (length_7 : Int) (t25 : Sl) (t26 : Int) (t27 : Int) (t32 : Int) (t33 : Int) (w : World) (k : Env → World → Prop) (Q : Exit → Env → World → Prop) : B13 std form_0 above_3 below_4 i_6 length_7 t25 t26 t27 t32 t33 w k Q = (
  bif decide (t33 < t32) then (
  cutK 1 form_0 (some (w64 (i_6 + 1))) none fun (s16 : Sl) =>
  L17 std form_0 above_3 below_4 i_6 length_7 t33 (w64 (length_7 - t33)) t25 t26 t27 t32 t33 s16 (s16.n : Int) 0 w (q17 std k Q))
  else (
  Q (.exit 4) (x4 form_0 above_3 below_4 t25 t26 t27) w)) := B13_eq std form_0 above_3 below_4 i_6 length_7 t25 t26 t27 t32 t33 w k Q
theorem L13_rule (form_0 : Sl) (above_3 : Int) (below_4 : Int) (i_6 : Int) (length_7 : Int) (t25 : Sl) (t26 : Int) (t27 : Int) (t32 : Int) (t33 : Int) (w : World) (Q : Exit → Env → World → Prop) (I : Int → Int → World → Prop) (μ : Int → Int → World → Nat) (h0 : I below_4 t33 w)
    (h : ∀ (below_4 : Int) (t33 : Int) (w' : World), I below_4 t33 w' → B13 std form_0 above_3 below_4 i_6 length_7 t25 t26 t27 t32 t33 w' (fun e2 w2 => ∃ below_4_n t33_n, e2 = emb13 form_0 above_3 below_4_n i_6 length_7 t25 t26 t27 t32 t33_n ∧ I below_4_n t33_n w2 ∧ μ below_4_n t33_n w2 < μ below_4 t33 w') Q) :
    L13 std form_0 above_3 below_4 i_6 length_7 t25 t26 t27 t32 t33 w Q := by
  unfold L13
  refine LoopE.intro (σ := Int × Int) (step := S13 std Q) (fun s => emb13 form_0 above_3 s.1 i_6 length_7 t25 t26 t27 t32 s.2) (fun s w => I s.1 s.2 w) (fun s w => μ s.1 s.2 w) (below_4, t33) rfl h0 ?_
  intro s w' hI
  have h1 := h s.1 s.2 w' hI
  unfold B13 at h1
  simp only [Prod.exists]
  exact h1
theorem A13_4_eq (pr : Prims) (form_0 : Sl) (above_3 : Int) (below_4 : Int) (t25 : Sl) (t26 : Int) (t27 : Int) (w : World) (k : Env → World → Prop) (Q : Exit → Env → World → Prop) : (q12 pr k Q) (.exit 4) (x4 form_0 above_3 below_4 t25 t26 t27) w = (
  k (emb10 form_0 above_3 below_4 t25 t26 (w64 (t27 + 1))) w) := by kernel_rfl
theorem A13_4_s (form_0 : Sl) (above_3 : Int) (below_4 : Int) (t25 : Sl) (t26 : Int) (t27 : Int) (w : World) (k : Env → World → Prop) (Q : Exit → Env → World → Prop) : (q12 std k Q) (.exit 4) (x4 form_0 above_3 below_4 t25 t26 t27) w = (
  k (emb10 form_0 above_3 below_4 t25 t26 (w64 (t27 + 1))) w) := A13_4_eq std form_0 above_3 below_4 t25 t26 t27 w k Q
theorem A13_6_eq (pr : Prims) (form_0 : Sl) (above_3 : Int) (below_4 : Int) (i_6 : Int) (length_7 : Int) (hook_9 : Int) (t25 : Sl) (t26 : Int) (t27 : Int) (t32 : Int) (t33 : Int) (w : World) (k : Env → World → Prop) (Q : Exit → Env → World → Prop) : (q12 pr k Q) (.exit 6) (x6 form_0 above_3 below_4 i_6 length_7 hook_9 t25 t26 t27 t32 t33) w = (
  Q (.exit 6) (x6 form_0 above_3 below_4 i_6 length_7 hook_9 t25 t26 t27 t32 t33) w) := by kernel_rfl
theorem A13_6_s (form_0 : Sl) (above_3 : Int) (below_4 : Int) (i_6 : Int) (length_7 : Int) (hook_9 : Int) (t25 : Sl) (t26 : Int) (t27 : Int) (t32 : Int) (t33 : Int) (w : World) (k : Env → World → Prop) (Q : Exit → Env → World → Prop) : (q12 std k Q) (.exit 6) (x6 form_0 above_3 below_4 i_6 length_7 hook_9 t25 t26 t27 t32 t33) w = (
  Q (.exit 6) (x6 form_0 above_3 below_4 i_6 length_7 hook_9 t25 t26 t27 t32 t33) w) := A13_6_eq std form_0 above_3 below_4 i_6 length_7 hook_9 t25 t26 t27 t32 t33 w k Q
theorem B10_eq (pr : Prims) (form_0 : Sl) (above_3 : Int) (below_4 : Int) (t25 : Sl) (t26 : Int) (t27 : Int) (w : World) (k : Env → World → Prop) (Q : Exit → Env → World → Prop) : B10 pr form_0 above_3 below_4 t25 t26 t27 w k Q = (
  bif decide (t27 < t26) then (
  pr.idxK 1 t25 t27 fun (a10 : Addr) =>
  pr.load1 (.int .i64) a10 w fun (ξ11 : Int) =>
  L13 pr form_0 above_3 below_4 t27 ξ11 t25 t26 t27 ξ11 0 w (q12 pr k Q))
  else (
  Q (.exit 2) (x2 above_3 below_4) w)) := by kernel_rfl
theorem B10_s (form_0 : Sl) (above_3 : Int) (below_4 : Int) (t25 : Sl) (t26 : Int) (t27 : Int) (w : World) (k : Env → World → Prop) (Q : Exit → Env → World → Prop) : B10 std form_0 above_3 below_4 t25 t26 t27 w k Q = (
  bif decide (t27 < t26) then (
  idxK 1 t25 t27 fun (a10 : Addr) =>
  load1 (.int .i64) a10 w fun (ξ11 : Int) =>
  L13 std form_0 above_3 below_4 t27 ξ11 t25 t26 t27 ξ11 0 w (q12 std k Q))
  else (
  Q (.exit 2) (x2 above_3 below_4) w)) := B10_eq std form_0 above_3 below_4 t25 t26 t27 w k Q
theorem L10_rule (form_0 : Sl) (above_3 : Int) (below_4 : Int) (t25 : Sl) (t26 : Int) (t27 : Int) (w : World) (Q : Exit → Env → World → Prop) (I : Int → Int → World → Prop) (μ : Int → Int → World → Nat) (h0 : I below_4 t27 w)
    (h : ∀ (below_4 : Int) (t27 : Int) (w' : World), I below_4 t27 w' → B10 std form_0 above_3 below_4 t25 t26 t27 w' (fun e2 w2 => ∃ below_4_n t27_n, e2 = emb10 form_0 above_3 below_4_n t25 t26 t27_n ∧ I below_4_n t27_n w2 ∧ μ below_4_n t27_n w2 < μ below_4 t27 w') Q) :
    L10 std form_0 above_3 below_4 t25 t26 t27 w Q := by
  unfold L10
  refine LoopE.intro (σ := Int × Int) (step := S10 std Q) (fun s => emb10 form_0 above_3 s.1 t25 t26 s.2) (fun s w => I s.1 s.2 w) (fun s w => μ s.1 s.2 w) (below_4, t27) rfl h0 ?_
  intro s w' hI
  have h1 := h s.1 s.2 w' hI
  unfold B10 at h1
  simp only [Prod.exists]
  exact h1
theorem A10_2_eq (pr : Prims) (above_3 : Int) (below_4 : Int) (w : World) (R : Ending → World → Prop) : (q7 pr R) (.exit 2) (x2 above_3 below_4) w = (
  below_4 ≠ (0 : Int) ∧
  R (.returned (vI (w64 (above_3.tdiv below_4)))) w) := by kernel_rfl
theorem A10_2_s (above_3 : Int) (below_4 : Int) (w : World) (R : Ending → World → Prop) : (q7 std R) (.exit 2) (x2 above_3 below_4) w = (
  below_4 ≠ (0 : Int) ∧
  R (.returned (vI (w64 (above_3.tdiv below_4)))) w) := A10_2_eq std above_3 below_4 w R
theorem A5_0_eq (pr : Prims) (form_0 : Sl) (above_3 : Int) (below_4 : Int) (w : World) (R : Ending → World → Prop) : (q5 pr R) (.exit 0) (x0 form_0 above_3 below_4) w = (
  L10 pr form_0 above_3 below_4 form_0 (form_0.n : Int) 0 w (q7 pr R)) := by kernel_rfl
theorem A5_0_s (form_0 : Sl) (above_3 : Int) (below_4 : Int) (w : World) (R : Ending → World → Prop) : (q5 std R) (.exit 0) (x0 form_0 above_3 below_4) w = (
  L10 std form_0 above_3 below_4 form_0 (form_0.n : Int) 0 w (q7 std R)) := A5_0_eq std form_0 above_3 below_4 w R
theorem E_eq (pr : Prims) (form_0 : Sl) (w : World) (R : Ending → World → Prop) : E pr form_0 w R = (
  pr.call1 .bool PP F.impl_isForm #[Sl.v form_0, vI 12] w fun (ρ0 : Bool) ω1 =>
  bif !ρ0 then (
  R (.returned (vI 0)) ω1)
  else (
  pr.call1 (.int .i64) PP F.impl_total #[Sl.v form_0] ω1 fun (ρ3 : Int) ω4 =>
  L5 pr form_0 1 1 ρ3 0 ω4 (q5 pr R))) := by kernel_rfl
theorem E_s (form_0 : Sl) (w : World) (R : Ending → World → Prop) : E std form_0 w R = (
  call1 .bool PP F.impl_isForm #[Sl.v form_0, vI 12] w fun (ρ0 : Bool) ω1 =>
  bif !ρ0 then (
  R (.returned (vI 0)) ω1)
  else (
  call1 (.int .i64) PP F.impl_total #[Sl.v form_0] ω1 fun (ρ3 : Int) ω4 =>
  L5 std form_0 1 1 ρ3 0 ω4 (q5 std R))) := E_eq std form_0 w R
theorem drawsOk : drawsOk PP cfg okD (codeOf Try.f16) = true := by kernel_rfl
theorem calls (form_0 : Sl) {w : World} {R : Ending → World → Prop} (h : E std form_0 w R) : Calls PP F.impl_CountTableaux #[Sl.v form_0] w R :=
  calls_of noCount mixed drawOk Try.func16 rfl (c := cfg) (args := [Sl.v form_0]) rfl (Nat.le_of_ble_eq_true (by kernel_rfl)) drawsOk h
end impl_CountTableaux

namespace spec_CountTableaux
@[reducible] def cfg : Cfg := ⟨61, [(16, [0, 3, 4, 5, 6, 7, 8, 9]), (10, [0, 3, 4, 5, 6, 7]), (7, [0, 3, 4, 5, 6])], [(5, [0, 3, 4, 5, 6, 7, 8, 9]), (4, [0, 3, 4, 5, 6, 7, 8]), (3, [0, 3, 4, 5, 6, 7]), (2, [0, 3, 4, 5, 6]), (1, [0, 3, 4, 5, 6]), (0, [3, 4])], [], [2], [], [17, 24, 21, 26, 65, 27, 91, 60, 78], [86, 52]⟩
def q2 (pr : Prims) (R : Ending → World → Prop) : Exit → Env → World → Prop := fun ex e w => normQ ex (fun e w => contE pr cfg (sub (codeOf Try.f14) [1, 1, 1, 1, 1, 1]) (fun e w => wpC pr PP cfg (DD pr) (sub (codeOf Try.f14) [1, 1, 1, 1, 1, 1]) (retQ Try.f14.results.toList R) e w) e w) (retQ Try.f14.results.toList R) e w
def q3 (pr : Prims) (R : Ending → World → Prop) : Exit → Env → World → Prop := fun ex e w => blockQ ex 0 (q2 pr R) e w
def q4 (pr : Prims) (k : Env → World → Prop) (Q : Exit → Env → World → Prop) : Exit → Env → World → Prop := fun ex e w => normQ ex (fun e w => contE pr cfg (sub (codeOf Try.f14) [1, 1, 1, 1, 1, 0, 1, 0, 0, 1, 1]) (fun e w => wpC pr PP cfg (DD pr) (sub (codeOf Try.f14) [1, 1, 1, 1, 1, 0, 1, 0, 0, 1, 1]) (fun ex e w => normQ ex (fun e' w' => k (Env.restr e' (lookN cfg.loops (keyOf (sub (codeOf Try.f14) [1, 1, 1, 1, 1, 0, 1, 0, 0])))) w') Q e w) e w) e w) (fun ex e w => normQ ex (fun e' w' => k (Env.restr e' (lookN cfg.loops (keyOf (sub (codeOf Try.f14) [1, 1, 1, 1, 1, 0, 1, 0, 0])))) w') Q e w) e w
def q5 (pr : Prims) (k : Env → World → Prop) (Q : Exit → Env → World → Prop) : Exit → Env → World → Prop := fun ex e w => blockQ ex 1 (q4 pr k Q) e w
def q6 (pr : Prims) (k : Env → World → Prop) (Q : Exit → Env → World → Prop) : Exit → Env → World → Prop := fun ex e w => blockQ ex 2 (q5 pr k Q) e w
def q9 (pr : Prims) (k : Env → World → Prop) (Q : Exit → Env → World → Prop) : Exit → Env → World → Prop := fun ex e w => normQ ex (fun e w => contE pr cfg (sub (codeOf Try.f14) [1, 1, 1, 1, 1, 0, 1, 0, 0, 1, 0, 0, 1, 0, 0, 1, 1]) (fun e w => wpC pr PP cfg (DD pr) (sub (codeOf Try.f14) [1, 1, 1, 1, 1, 0, 1, 0, 0, 1, 0, 0, 1, 0, 0, 1, 1]) (fun ex e w => normQ ex (fun e' w' => k (Env.restr e' (lookN cfg.loops (keyOf (sub (codeOf Try.f14) [1, 1, 1, 1, 1, 0, 1, 0, 0, 1, 0, 0, 1, 0, 0])))) w') Q e w) e w) e w) (fun ex e w => normQ ex (fun e' w' => k (Env.restr e' (lookN cfg.loops (keyOf (sub (codeOf Try.f14) [1, 1, 1, 1, 1, 0, 1, 0, 0, 1, 0, 0, 1, 0, 0])))) w') Q e w) e w
def q10 (pr : Prims) (k : Env → World → Prop) (Q : Exit → Env → World → Prop) : Exit → Env → World → Prop := fun ex e w => blockQ ex 3 (q9 pr k Q) e w
def q13 (pr : Prims) (k : Env → World → Prop) (Q : Exit → Env → World → Prop) : Exit → Env → World → Prop := fun ex e w => normQ ex (fun e w => contE pr cfg (sub (codeOf Try.f14) [1, 1, 1, 1, 1, 0, 1, 0, 0, 1, 0, 0, 1, 0, 0, 1, 0, 0, 1, 1, 1, 1]) (fun e w => wpC pr PP cfg (DD pr) (sub (codeOf Try.f14) [1, 1, 1, 1, 1, 0, 1, 0, 0, 1, 0, 0, 1, 0, 0, 1, 0, 0, 1, 1, 1, 1]) (q10 pr k Q) e w) e w) (q10 pr k Q) e w
def q14 (pr : Prims) (k : Env → World → Prop) (Q : Exit → Env → World → Prop) : Exit → Env → World → Prop := fun ex e w => blockQ ex 4 (q13 pr k Q) e w
def emb7 (form_0 : Sl) (top_3 : Int) (bottom_4 : Int) (n_5 : Int) (r_6 : Int) : Env := [(0, Sl.v form_0), (3, vI top_3), (4, vI bottom_4), (5, vI n_5), (6, vI r_6)]
def emb10 (form_0 : Sl) (top_3 : Int) (bottom_4 : Int) (n_5 : Int) (r_6 : Int) (c_7 : Int) : Env := [(0, Sl.v form_0), (3, vI top_3), (4, vI bottom_4), (5, vI n_5), (6, vI r_6), (7, vI c_7)]
def emb16 (form_0 : Sl) (top_3 : Int) (bottom_4 : Int) (n_5 : Int) (r_6 : Int) (c_7 : Int) (hook_8 : Int) (i_9 : Int) : Env := [(0, Sl.v form_0), (3, vI top_3), (4, vI bottom_4), (5, vI n_5), (6, vI r_6), (7, vI c_7), (8, vI hook_8), (9, vI i_9)]
def x4 (form_0 : Sl) (top_3 : Int) (bottom_4 : Int) (n_5 : Int) (r_6 : Int) (c_7 : Int) (hook_8 : Int) : Env := [(0, Sl.v form_0), (3, vI top_3), (4, vI bottom_4), (5, vI n_5), (6, vI r_6), (7, vI c_7), (8, vI hook_8)]
def x2 (form_0 : Sl) (top_3 : Int) (bottom_4 : Int) (n_5 : Int) (r_6 : Int) : Env := [(0, Sl.v form_0), (3, vI top_3), (4, vI bottom_4), (5, vI n_5), (6, vI r_6)]
def x0 (top_3 : Int) (bottom_4 : Int) : Env := [(3, vI top_3), (4, vI bottom_4)]
def S16 (pr : Prims) (Q : Exit → Env → World → Prop) : (Env → World → Prop) → Env → World → Prop := fun k e w => wpC pr PP cfg (DD pr) (sub (codeOf Try.f14) [1, 1, 1, 1, 1, 0, 1, 0, 0, 1, 0, 0, 1, 0, 0, 1, 0, 0, 1, 1, 1, 0, 1, 0, 0]) (fun ex e w => normQ ex (fun e' w' => k (Env.restr e' (lookN cfg.loops (keyOf (sub (codeOf Try.f14) [1, 1, 1, 1, 1, 0, 1, 0, 0, 1, 0, 0, 1, 0, 0, 1, 0, 0, 1, 1, 1, 0, 1, 0, 0])))) w') Q e w) e w
def S10 (pr : Prims) (Q : Exit → Env → World → Prop) : (Env → World → Prop) → Env → World → Prop := fun k e w => wpC pr PP cfg (DD pr) (sub (codeOf Try.f14) [1, 1, 1, 1, 1, 0, 1, 0, 0, 1, 0, 0, 1, 0, 0]) (fun ex e w => normQ ex (fun e' w' => k (Env.restr e' (lookN cfg.loops (keyOf (sub (codeOf Try.f14) [1, 1, 1, 1, 1, 0, 1, 0, 0, 1, 0, 0, 1, 0, 0])))) w') Q e w) e w
def S7 (pr : Prims) (Q : Exit → Env → World → Prop) : (Env → World → Prop) → Env → World → Prop := fun k e w => wpC pr PP cfg (DD pr) (sub (codeOf Try.f14) [1, 1, 1, 1, 1, 0, 1, 0, 0]) (fun ex e w => normQ ex (fun e' w' => k (Env.restr e' (lookN cfg.loops (keyOf (sub (codeOf Try.f14) [1, 1, 1, 1, 1, 0, 1, 0, 0])))) w') Q e w) e w
def B16 (pr : Prims) (form_0 : Sl) (top_3 : Int) (bottom_4 : Int) (n_5 : Int) (r_6 : Int) (c_7 : Int) (hook_8 : Int) (i_9 : Int) (w : World) (k : Env → World → Prop) (Q : Exit → Env → World → Prop) : Prop :=
  S16 pr Q k (emb16 form_0 top_3 bottom_4 n_5 r_6 c_7 hook_8 i_9) w
def L16 (pr : Prims) (form_0 : Sl) (top_3 : Int) (bottom_4 : Int) (n_5 : Int) (r_6 : Int) (c_7 : Int) (hook_8 : Int) (i_9 : Int) (w : World) (Q : Exit → Env → World → Prop) : Prop :=
  pr.loop (S16 pr Q) (emb16 form_0 top_3 bottom_4 n_5 r_6 c_7 hook_8 i_9) w
def B10 (pr : Prims) (form_0 : Sl) (top_3 : Int) (bottom_4 : Int) (n_5 : Int) (r_6 : Int) (c_7 : Int) (w : World) (k : Env → World → Prop) (Q : Exit → Env → World → Prop) : Prop :=
  S10 pr Q k (emb10 form_0 top_3 bottom_4 n_5 r_6 c_7) w
def L10 (pr : Prims) (form_0 : Sl) (top_3 : Int) (bottom_4 : Int) (n_5 : Int) (r_6 : Int) (c_7 : Int) (w : World) (Q : Exit → Env → World → Prop) : Prop :=
  pr.loop (S10 pr Q) (emb10 form_0 top_3 bottom_4 n_5 r_6 c_7) w
def B7 (pr : Prims) (form_0 : Sl) (top_3 : Int) (bottom_4 : Int) (n_5 : Int) (r_6 : Int) (w : World) (k : Env → World → Prop) (Q : Exit → Env → World → Prop) : Prop :=
  S7 pr Q k (emb7 form_0 top_3 bottom_4 n_5 r_6) w
def L7 (pr : Prims) (form_0 : Sl) (top_3 : Int) (bottom_4 : Int) (n_5 : Int) (r_6 : Int) (w : World) (Q : Exit → Env → World → Prop) : Prop :=
  pr.loop (S7 pr Q) (emb7 form_0 top_3 bottom_4 n_5 r_6) w
def E (pr : Prims) (form_0 : Sl) (w : World) (R : Ending → World → Prop) : Prop :=
  wpC pr PP cfg (DD pr) (codeOf Try.f14) (retQ Try.f14.results.toList R) (argE 0 [Sl.v form_0]) w
theorem B16_eq (pr : Prims) (form_0 : Sl) (top_3 : Int) (bottom_4 : Int) (n_5 : Int) (r_6 : Int) (c_7 : Int) (hook_8 : Int) (i_9 : Int) (w : World) (k : Env → World → Prop) (Q : Exit → Env → World → Prop) : B16 pr form_0 top_3 bottom_4 n_5 r_6 c_7 hook_8 i_9 w k Q = (
  bif decide (i_9 < (form_0.n : Int)) then (
  pr.idxK 1 form_0 i_9 fun (a15 : Addr) =>
  pr.load1 (.int .i64) a15 w fun (ξ16 : Int) =>
  pr.pcall1 (.int .i64) PP F.spec_l1Bit #[.bool (decide (ξ16 > c_7))] fun (ρ17 : Int) =>
  k (emb16 form_0 top_3 bottom_4 n_5 r_6 c_7 (w64 (hook_8 + ρ17)) (w64 (i_9 + 1))) w)
  else (
  Q (.exit 4) (x4 form_0 top_3 bottom_4 n_5 r_6 c_7 hook_8) w)) := by kernel_rfl
theorem B16_s (form_0 : Sl) (top_3 : Int) (bottom_4 : Int) (n_5 : Int) (r_6 : Int) (c_7 : Int) (hook_8 : Int) (i_9 : Int) (w : World) (k : Env → World → Prop) (Q : Exit → Env → World → Prop) : B16 std form_0 top_3 bottom_4 n_5 r_6 c_7 hook_8 i_9 w k Q = (
  bif decide (i_9 < (form_0.n : Int)) then (
  idxK 1 form_0 i_9 fun (a15 : Addr) =>
  load1 (.int .i64) a15 w fun (ξ16 : Int) =>
  pcall1 (.int .i64) PP F.spec_l1Bit #[.bool (decide (ξ16 > c_7))] fun (ρ17 : Int) =>
  k (emb16 form_0 top_3 bottom_4 n_5 r_6 c_7 (w64 (hook_8 + ρ17)) (w64 (i_9 + 1))) w)
  else (
  Q (.exit 4) (x4 form_0 top_3 bottom_4 n_5 r_6 c_7 hook_8) w)) := B16_eq std form_0 top_3 bottom_4 n_5 r_6 c_7 hook_8 i_9 w k Q
theorem L16_rule (form_0 : Sl) (top_3 : Int) (bottom_4 : Int) (n_5 : Int) (r_6 : Int) (c_7 : Int) (hook_8 : Int) (i_9 : Int) (w : World) (Q : Exit → Env → World → Prop) (I : Int → Int → World → Prop) (μ : Int → Int → World → Nat) (h0 : I hook_8 i_9 w)
    (h : ∀ (hook_8 : Int) (i_9 : Int) (w' : World), I hook_8 i_9 w' → B16 std form_0 top_3 bottom_4 n_5 r_6 c_7 hook_8 i_9 w' (fun e2 w2 => ∃ hook_8_n i_9_n, e2 = emb16 form_0 top_3 bottom_4 n_5 r_6 c_7 hook_8_n i_9_n ∧ I hook_8_n i_9_n w2 ∧ μ hook_8_n i_9_n w2 < μ hook_8 i_9 w') Q) :
    L16 std form_0 top_3 bottom_4 n_5 r_6 c_7 hook_8 i_9 w Q := by
  unfold L16
  refine LoopE.intro (σ := Int × Int) (step := S16 std Q) (fun s => emb16 form_0 top_3 bottom_4 n_5 r_6 c_7 s.1 s.2) (fun s w => I s.1 s.2 w) (fun s w => μ s.1 s.2 w) (hook_8, i_9) rfl h0 ?_
  intro s w' hI
  have h1 := h s.1 s.2 w' hI
  unfold B16 at h1
  simp only [Prod.exists]
  exact h1
theorem A16_4_eq (pr : Prims) (form_0 : Sl) (top_3 : Int) (bottom_4 : Int) (n_5 : Int) (r_6 : Int) (c_7 : Int) (hook_8 : Int) (w : World) (k : Env → World → Prop) (Q : Exit → Env → World → Prop) : (q14 pr k Q) (.exit 4) (x4 form_0 top_3 bottom_4 n_5 r_6 c_7 hook_8) w = (
  k (emb10 form_0 top_3 (w64 (bottom_4 * hook_8)) n_5 r_6 (w64 (c_7 + 1))) w) := by kernel_rfl
theorem A16_4_s (form_0 : Sl) (top_3 : Int) (bottom_4 : Int) (n_5 : Int) (r_6 : Int) (c_7 : Int) (hook_8 : Int) (w : World) (k : Env → World → Prop) (Q : Exit → Env → World → Prop) : (q14 std k Q) (.exit 4) (x4 form_0 top_3 bottom_4 n_5 r_6 c_7 hook_8) w = (
  k (emb10 form_0 top_3 (w64 (bottom_4 * hook_8)) n_5 r_6 (w64 (c_7 + 1))) w) := A16_4_eq std form_0 top_3 bottom_4 n_5 r_6 c_7 hook_8 w k Q
theorem B10_eq (pr : Prims) (form_0 : Sl) (top_3 : Int) (bottom_4 : Int) (n_5 : Int) (r_6 : Int) (c_7 : Int) (w : World) (k : Env → World → Prop) (Q : Exit → Env → World → Prop) : B10 pr form_0 top_3 bottom_4 n_5 r_6 c_7 w k Q = (
  pr.idxK 1 form_0 r_6 fun (a7 : Addr) =>
  pr.load1 (.int .i64) a7 w fun (ξ8 : Int) =>
  bif decide (c_7 < ξ8) then (
  pr.idxK 1 form_0 r_6 fun (a11 : Addr) =>
  pr.load1 (.int .i64) a11 w fun (ξ12 : Int) =>
  L16 pr form_0 (w64 (top_3 * (w64 (n_5 + 1)))) bottom_4 (w64 (n_5 + 1)) r_6 c_7 (w64 (ξ12 - c_7)) (w64 (r_6 + 1)) w (q14 pr k Q))
  else (
  Q (.exit 2) (x2 form_0 top_3 bottom_4 n_5 r_6) w)) := by kernel_rfl
theorem B10_s (form_0 : Sl) (top_3 : Int) (bottom_4 : Int) (n_5 : Int) (r_6 : Int) (c_7 : Int) (w : World) (k : Env → World → Prop) (Q : Exit → Env → World → Prop) : B10 std form_0 top_3 bottom_4 n_5 r_6 c_7 w k Q = (
  idxK 1 form_0 r_6 fun (a7 : Addr) =>
  load1 (.int .i64) a7 w fun (ξ8 : Int) =>
  bif decide (c_7 < ξ8) then (
  idxK 1 form_0 r_6 fun (a11 : Addr) =>
  load1 (.int .i64) a11 w fun (ξ12 : Int) =>
  L16 std form_0 (w64 (top_3 * (w64 (n_5 + 1)))) bottom_4 (w64 (n_5 + 1)) r_6 c_7 (w64 (ξ12 - c_7)) (w64 (r_6 + 1)) w (q14 std k Q))
  else (
  Q (.exit 2) (x2 form_0 top_3 bottom_4 n_5 r_6) w)) := B10_eq std form_0 top_3 bottom_4 n_5 r_6 c_7 w k Q
theorem L10_rule (form_0 : Sl) (top_3 : Int) (bottom_4 : Int) (n_5 : Int) (r_6 : Int) (c_7 : Int) (w : World) (Q : Exit → Env → World → Prop) (I : Int → Int → Int → Int → World → Prop) (μ : Int → Int → Int → Int → World → Nat) (h0 : I top_3 bottom_4 n_5 c_7 w)
    (h : ∀ (top_3 : Int) (bottom_4 : Int) (n_5 : Int) (c_7 : Int) (w' : World), I top_3 bottom_4 n_5 c_7 w' → B10 std form_0 top_3 bottom_4 n_5 r_6 c_7 w' (fun e2 w2 => ∃ top_3_n bottom_4_n n_5_n c_7_n, e2 = emb10 form_0 top_3_n bottom_4_n n_5_n r_6 c_7_n ∧ I top_3_n bottom_4_n n_5_n c_7_n w2 ∧ μ top_3_n bottom_4_n n_5_n c_7_n w2 < μ top_3 bottom_4 n_5 c_7 w') Q) :
    L10 std form_0 top_3 bottom_4 n_5 r_6 c_7 w Q := by
  unfold L10
  refine LoopE.intro (σ := Int × Int × Int × Int) (step := S10 std Q) (fun s => emb10 form_0 s.1 s.2.1 s.2.2.1 r_6 s.2.2.2) (fun s w => I s.1 s.2.1 s.2.2.1 s.2.2.2 w) (fun s w => μ s.1 s.2.1 s.2.2.1 s.2.2.2 w) (top_3, bottom_4, n_5, c_7) rfl h0 ?_
  intro s w' hI
  have h1 := h s.1 s.2.1 s.2.2.1 s.2.2.2 w' hI
  unfold B10 at h1
  simp only [Prod.exists]
  exact h1
theorem A10_2_eq (pr : Prims) (form_0 : Sl) (top_3 : Int) (bottom_4 : Int) (n_5 : Int) (r_6 : Int) (w : World) (k : Env → World → Prop) (Q : Exit → Env → World → Prop) : (q6 pr k Q) (.exit 2) (x2 form_0 top_3 bottom_4 n_5 r_6) w = (
  k (emb7 form_0 top_3 bottom_4 n_5 (w64 (r_6 + 1))) w) := by kernel_rfl
theorem A10_2_s (form_0 : Sl) (top_3 : Int) (bottom_4 : Int) (n_5 : Int) (r_6 : Int) (w : World) (k : Env → World → Prop) (Q : Exit → Env → World → Prop) : (q6 std k Q) (.exit 2) (x2 form_0 top_3 bottom_4 n_5 r_6) w = (
  k (emb7 form_0 top_3 bottom_4 n_5 (w64 (r_6 + 1))) w) := A10_2_eq std form_0 top_3 bottom_4 n_5 r_6 w k Q
theorem A10_4_eq (pr : Prims) (form_0 : Sl) (top_3 : Int) (bottom_4 : Int) (n_5 : Int) (r_6 : Int) (c_7 : Int) (hook_8 : Int) (w : World) (k : Env → World → Prop) (Q : Exit → Env → World → Prop) : (q6 pr k Q) (.exit 4) (x4 form_0 top_3 bottom_4 n_5 r_6 c_7 hook_8) w = (
  Q (.exit 4) (x4 form_0 top_3 bottom_4 n_5 r_6 c_7 hook_8) w) := by kernel_rfl
theorem A10_4_s (form_0 : Sl) (top_3 : Int) (bottom_4 : Int) (n_5 : Int) (r_6 : Int) (c_7 : Int) (hook_8 : Int) (w : World) (k : Env → World → Prop) (Q : Exit → Env → World → Prop) : (q6 std k Q) (.exit 4) (x4 form_0 top_3 bottom_4 n_5 r_6 c_7 hook_8) w = (
  Q (.exit 4) (x4 form_0 top_3 bottom_4 n_5 r_6 c_7 hook_8) w) := A10_4_eq std form_0 top_3 bottom_4 n_5 r_6 c_7 hook_8 w k Q
theorem B7_eq (pr : Prims) (form_0 : Sl) (top_3 : Int) (bottom_4 : Int) (n_5 : Int) (r_6 : Int) (w : World) (k : Env → World → Prop) (Q : Exit → Env → World → Prop) : B7 pr form_0 top_3 bottom_4 n_5 r_6 w k Q = (
  bif decide (r_6 < (form_0.n : Int)) then (
  L10 pr form_0 top_3 bottom_4 n_5 r_6 0 w (q6 pr k Q))
  else (
  Q (.exit 0) (x0 top_3 bottom_4) w)) := by kernel_rfl
theorem B7_s (form_0 : Sl) (top_3 : Int) (bottom_4 : Int) (n_5 : Int) (r_6 : Int) (w : World) (k : Env → World → Prop) (Q : Exit → Env → World → Prop) : B7 std form_0 top_3 bottom_4 n_5 r_6 w k Q = (
  bif decide (r_6 < (form_0.n : Int)) then (
  L10 std form_0 top_3 bottom_4 n_5 r_6 0 w (q6 std k Q))
  else (
  Q (.exit 0) (x0 top_3 bottom_4) w)) := B7_eq std form_0 top_3 bottom_4 n_5 r_6 w k Q
theorem L7_rule (form_0 : Sl) (top_3 : Int) (bottom_4 : Int) (n_5 : Int) (r_6 : Int) (w : World) (Q : Exit → Env → World → Prop) (I : Int → Int → Int → Int → World → Prop) (μ : Int → Int → Int → Int → World → Nat) (h0 : I top_3 bottom_4 n_5 r_6 w)
    (h : ∀ (top_3 : Int) (bottom_4 : Int) (n_5 : Int) (r_6 : Int) (w' : World), I top_3 bottom_4 n_5 r_6 w' → B7 std form_0 top_3 bottom_4 n_5 r_6 w' (fun e2 w2 => ∃ top_3_n bottom_4_n n_5_n r_6_n, e2 = emb7 form_0 top_3_n bottom_4_n n_5_n r_6_n ∧ I top_3_n bottom_4_n n_5_n r_6_n w2 ∧ μ top_3_n bottom_4_n n_5_n r_6_n w2 < μ top_3 bottom_4 n_5 r_6 w') Q) :
    L7 std form_0 top_3 bottom_4 n_5 r_6 w Q := by
  unfold L7
  refine LoopE.intro (σ := Int × Int × Int × Int) (step := S7 std Q) (fun s => emb7 form_0 s.1 s.2.1 s.2.2.1 s.2.2.2) (fun s w => I s.1 s.2.1 s.2.2.1 s.2.2.2 w) (fun s w => μ s.1 s.2.1 s.2.2.1 s.2.2.2 w) (top_3, bottom_4, n_5, r_6) rfl h0 ?_
  intro s w' hI
  have h1 := h s.1 s.2.1 s.2.2.1 s.2.2.2 w' hI
  unfold B7 at h1
  simp only [Prod.exists]
  exact h1
theorem A7_0_eq (pr : Prims) (top_3 : Int) (bottom_4 : Int) (w : World) (R : Ending → World → Prop) : (q3 pr R) (.exit 0) (x0 top_3 bottom_4) w = (
  bottom_4 ≠ (0 : Int) ∧
  R (.returned (vI (w64 (top_3.tdiv bottom_4)))) w) := by kernel_rfl
theorem A7_0_s (top_3 : Int) (bottom_4 : Int) (w : World) (R : Ending → World → Prop) : (q3 std R) (.exit 0) (x0 top_3 bottom_4) w = (
  bottom_4 ≠ (0 : Int) ∧
  R (.returned (vI (w64 (top_3.tdiv bottom_4)))) w) := A7_0_eq std top_3 bottom_4 w R
theorem E_eq (pr : Prims) (form_0 : Sl) (w : World) (R : Ending → World → Prop) : E pr form_0 w R = (
  pr.call1 .bool PP F.spec_l19Form #[Sl.v form_0, vI 12] w fun (ρ0 : Bool) ω1 =>
  bif !ρ0 then (
  R (.returned (vI 0)) ω1)
  else (
  L7 pr form_0 1 1 0 0 ω1 (q3 pr R))) := by kernel_rfl
theorem E_s (form_0 : Sl) (w : World) (R : Ending → World → Prop) : E std form_0 w R = (
  call1 .bool PP F.spec_l19Form #[Sl.v form_0, vI 12] w fun (ρ0 : Bool) ω1 =>
  bif !ρ0 then (
  R (.returned (vI 0)) ω1)
  else (
  L7 std form_0 1 1 0 0 ω1 (q3 std R))) := E_eq std form_0 w R
theorem drawsOk : drawsOk PP cfg okD (codeOf Try.f14) = true := by kernel_rfl
theorem calls (form_0 : Sl) {w : World} {R : Ending → World → Prop} (h : E std form_0 w R) : Calls PP F.spec_CountTableaux #[Sl.v form_0] w R :=
  calls_of noCount mixed drawOk Try.func14 rfl (c := cfg) (args := [Sl.v form_0]) rfl (Nat.le_of_ble_eq_true (by kernel_rfl)) drawsOk h
end spec_CountTableaux

namespace impl_total
@[reducible] def cfg : Cfg := ⟨17, [(3, [3, 6, 7, 8])], [(1, [3, 6, 7, 8]), (0, [3])], [], [2], [], [17, 24, 21, 26, 65, 27, 91, 60, 78], [86, 52]⟩
def q0 (pr : Prims) (R : Ending → World → Prop) : Exit → Env → World → Prop := fun ex e w => normQ ex (fun e w => contE pr cfg (sub (codeOf Try.f54) [1, 1, 1]) (fun e w => wpC pr PP cfg (DD pr) (sub (codeOf Try.f54) [1, 1, 1]) (retQ Try.f54.results.toList R) e w) e w) (retQ Try.f54.results.toList R) e w
def q1 (pr : Prims) (R : Ending → World → Prop) : Exit → Env → World → Prop := fun ex e w => blockQ ex 0 (q0 pr R) e w
def emb3 (sum_3 : Int) (t6 : Sl) (t7 : Int) (t8 : Int) : Env := [(3, vI sum_3), (6, Sl.v t6), (7, vI t7), (8, vI t8)]
def x0 (sum_3 : Int) : Env := [(3, vI sum_3)]
def S3 (pr : Prims) (Q : Exit → Env → World → Prop) : (Env → World → Prop) → Env → World → Prop := fun k e w => wpC pr PP cfg (DD pr) (sub (codeOf Try.f54) [1, 1, 0, 1, 0, 0]) (fun ex e w => normQ ex (fun e' w' => k (Env.restr e' (lookN cfg.loops (keyOf (sub (codeOf Try.f54) [1, 1, 0, 1, 0, 0])))) w') Q e w) e w
def B3 (pr : Prims) (sum_3 : Int) (t6 : Sl) (t7 : Int) (t8 : Int) (w : World) (k : Env → World → Prop) (Q : Exit → Env → World → Prop) : Prop :=
  S3 pr Q k (emb3 sum_3 t6 t7 t8) w
def L3 (pr : Prims) (sum_3 : Int) (t6 : Sl) (t7 : Int) (t8 : Int) (w : World) (Q : Exit → Env → World → Prop) : Prop :=
  pr.loop (S3 pr Q) (emb3 sum_3 t6 t7 t8) w
def E (pr : Prims) (list_0 : Sl) (w : World) (R : Ending → World → Prop) : Prop :=
  wpC pr PP cfg (DD pr) (codeOf Try.f54) (retQ Try.f54.results.toList R) (argE 0 [Sl.v list_0]) w
theorem B3_eq (pr : Prims) (sum_3 : Int) (t6 : Sl) (t7 : Int) (t8 : Int) (w : World) (k : Env → World → Prop) (Q : Exit → Env → World → Prop) : B3 pr sum_3 t6 t7 t8 w k Q = (
  bif decide (t8 < t7) then (
  pr.idxK 1 t6 t8 fun (a2 : Addr) =>
  pr.load1 (.int .i64) a2 w fun (ξ3 : Int) =>
  k (emb3 (w64 (sum_3 + ξ3)) t6 t7 (w64 (t8 + 1))) w)
  else (
  Q (.exit 0) (x0 sum_3) w)) := by kernel_rfl
theorem B3_s (sum_3 : Int) (t6 : Sl) (t7 : Int) (t8 : Int) (w : World) (k : Env → World → Prop) (Q : Exit → Env → World → Prop) : B3 std sum_3 t6 t7 t8 w k Q = (
  bif decide (t8 < t7) then (
  idxK 1 t6 t8 fun (a2 : Addr) =>
  load1 (.int .i64) a2 w fun (ξ3 : Int) =>
  k (emb3 (w64 (sum_3 + ξ3)) t6 t7 (w64 (t8 + 1))) w)
  else (
  Q (.exit 0) (x0 sum_3) w)) := B3_eq std sum_3 t6 t7 t8 w k Q
theorem L3_rule (sum_3 : Int) (t6 : Sl) (t7 : Int) (t8 : Int) (w : World) (Q : Exit → Env → World → Prop) (I : Int → Int → World → Prop) (μ : Int → Int → World → Nat) (h0 : I sum_3 t8 w)
    (h : ∀ (sum_3 : Int) (t8 : Int) (w' : World), I sum_3 t8 w' → B3 std sum_3 t6 t7 t8 w' (fun e2 w2 => ∃ sum_3_n t8_n, e2 = emb3 sum_3_n t6 t7 t8_n ∧ I sum_3_n t8_n w2 ∧ μ sum_3_n t8_n w2 < μ sum_3 t8 w') Q) :
    L3 std sum_3 t6 t7 t8 w Q := by
  unfold L3
  refine LoopE.intro (σ := Int × Int) (step := S3 std Q) (fun s => emb3 s.1 t6 t7 s.2) (fun s w => I s.1 s.2 w) (fun s w => μ s.1 s.2 w) (sum_3, t8) rfl h0 ?_
  intro s w' hI
  have h1 := h s.1 s.2 w' hI
  unfold B3 at h1
  simp only [Prod.exists]
  exact h1
theorem A3_0_eq (pr : Prims) (sum_3 : Int) (w : World) (R : Ending → World → Prop) : (q1 pr R) (.exit 0) (x0 sum_3) w = (
  R (.returned (vI sum_3)) w) := by kernel_rfl
theorem A3_0_s (sum_3 : Int) (w : World) (R : Ending → World → Prop) : (q1 std R) (.exit 0) (x0 sum_3) w = (
  R (.returned (vI sum_3)) w) := A3_0_eq std sum_3 w R
theorem E_eq (pr : Prims) (list_0 : Sl) (w : World) (R : Ending → World → Prop) : E pr list_0 w R = (
  L3 pr 0 list_0 (list_0.n : Int) 0 w (q1 pr R)) := by kernel_rfl
theorem E_s (list_0 : Sl) (w : World) (R : Ending → World → Prop) : E std list_0 w R = (
  L3 std 0 list_0 (list_0.n : Int) 0 w (q1 std R)) := E_eq std list_0 w R
theorem drawsOk : drawsOk PP cfg okD (codeOf Try.f54) = true := by kernel_rfl
theorem calls (list_0 : Sl) {w : World} {R : Ending → World → Prop} (h : E std list_0 w R) : Calls PP F.impl_total #[Sl.v list_0] w R :=
  calls_of noCount mixed drawOk Try.func54 rfl (c := cfg) (args := [Sl.v list_0]) rfl (Nat.le_of_ble_eq_true (by kernel_rfl)) drawsOk h
end impl_total

namespace laws_FnExactCountTableaux
@[reducible] def cfg : Cfg := ⟨24, [], [], [], [2], [], [17, 24, 21, 26, 65, 27, 91, 60, 78], [86, 52]⟩
def E (pr : Prims) (aForm_0 : Sl) (w : World) (R : Ending → World → Prop) : Prop :=
  wpC pr PP cfg (DD pr) (codeOf Try.f3) (retQ Try.f3.results.toList R) (argE 0 [Sl.v aForm_0]) w
theorem E_eq (pr : Prims) (aForm_0 : Sl) (w : World) (R : Ending → World → Prop) : E pr aForm_0 w R = (
  bif decide ((aForm_0.n : Int) > 1048576) then (
  R (.returned (.bool true)) w)
  else (
  pr.call1 .sl PP F.laws_toIntS #[Sl.v aForm_0] w fun (ρ0 : Sl) ω1 =>
  pr.call1 (.int .i64) PP F.spec_CountTableaux #[Sl.v ρ0] ω1 fun (ρ2 : Int) ω3 =>
  pr.call1 .sl PP F.laws_toIntS #[Sl.v aForm_0] ω3 fun (ρ4 : Sl) ω5 =>
  pr.call1 (.int .i64) PP F.impl_CountTableaux #[Sl.v ρ4] ω5 fun (ρ6 : Int) ω7 =>
  bif ρ6 != ρ2 then (
  R (.returned (.bool false)) ω7)
  else (
  pr.call1 .sl PP F.laws_toIntS #[Sl.v aForm_0] ω7 fun (ρ8 : Sl) ω9 =>
  pr.call1 .bool PP F.laws_eqIntS #[Sl.v ρ4, Sl.v ρ8] ω9 fun (ρ10 : Bool) ω11 =>
  bif !ρ10 then (
  R (.returned (.bool false)) ω11)
  else (
  R (.returned (.bool true)) ω11)))) := by kernel_rfl
theorem E_s (aForm_0 : Sl) (w : World) (R : Ending → World → Prop) : E std aForm_0 w R = (
  bif decide ((aForm_0.n : Int) > 1048576) then (
  R (.returned (.bool true)) w)
  else (
  call1 .sl PP F.laws_toIntS #[Sl.v aForm_0] w fun (ρ0 : Sl) ω1 =>
  call1 (.int .i64) PP F.spec_CountTableaux #[Sl.v ρ0] ω1 fun (ρ2 : Int) ω3 =>
  call1 .sl PP F.laws_toIntS #[Sl.v aForm_0] ω3 fun (ρ4 : Sl) ω5 =>
  call1 (.int .i64) PP F.impl_CountTableaux #[Sl.v ρ4] ω5 fun (ρ6 : Int) ω7 =>
  bif ρ6 != ρ2 then (
  R (.returned (.bool false)) ω7)
  else (
  call1 .sl PP F.laws_toIntS #[Sl.v aForm_0] ω7 fun (ρ8 : Sl) ω9 =>
  call1 .bool PP F.laws_eqIntS #[Sl.v ρ4, Sl.v ρ8] ω9 fun (ρ10 : Bool) ω11 =>
  bif !ρ10 then (
  R (.returned (.bool false)) ω11)
  else (
  R (.returned (.bool true)) ω11)))) := E_eq std aForm_0 w R
theorem drawsOk : drawsOk PP cfg okD (codeOf Try.f3) = true := by kernel_rfl
theorem calls (aForm_0 : Sl) {w : World} {R : Ending → World → Prop} (h : E std aForm_0 w R) : Calls PP F.laws_FnExactCountTableaux #[Sl.v aForm_0] w R :=
  calls_of noCount mixed drawOk Try.func3 rfl (c := cfg) (args := [Sl.v aForm_0]) rfl (Nat.le_of_ble_eq_true (by kernel_rfl)) drawsOk h
end laws_FnExactCountTableaux

namespace laws_toIntS
@[reducible] def cfg : Cfg := ⟨22, [(3, [0, 3, 4])], [(1, [0, 3, 4]), (0, [3])], [], [2], [], [17, 24, 21, 26, 65, 27, 91, 60, 78], [86, 52]⟩
def q2 (pr : Prims) (R : Ending → World → Prop) : Exit → Env → World → Prop := fun ex e w => normQ ex (fun e w => contE pr cfg (sub (codeOf Try.f15) [1, 1, 1]) (fun e w => wpC pr PP cfg (DD pr) (sub (codeOf Try.f15) [1, 1, 1]) (retQ Try.f15.results.toList R) e w) e w) (retQ Try.f15.results.toList R) e w
def q3 (pr : Prims) (R : Ending → World → Prop) : Exit → Env → World → Prop := fun ex e w => blockQ ex 0 (q2 pr R) e w
def emb3 (a_0 : Sl) (out_3 : Sl) (i_4 : Int) : Env := [(0, Sl.v a_0), (3, Sl.v out_3), (4, vI i_4)]
def x0 (out_3 : Sl) : Env := [(3, Sl.v out_3)]
def S3 (pr : Prims) (Q : Exit → Env → World → Prop) : (Env → World → Prop) → Env → World → Prop := fun k e w => wpC pr PP cfg (DD pr) (sub (codeOf Try.f15) [1, 1, 0, 1, 0, 0]) (fun ex e w => normQ ex (fun e' w' => k (Env.restr e' (lookN cfg.loops (keyOf (sub (codeOf Try.f15) [1, 1, 0, 1, 0, 0])))) w') Q e w) e w
def B3 (pr : Prims) (a_0 : Sl) (out_3 : Sl) (i_4 : Int) (w : World) (k : Env → World → Prop) (Q : Exit → Env → World → Prop) : Prop :=
  S3 pr Q k (emb3 a_0 out_3 i_4) w
def L3 (pr : Prims) (a_0 : Sl) (out_3 : Sl) (i_4 : Int) (w : World) (Q : Exit → Env → World → Prop) : Prop :=
  pr.loop (S3 pr Q) (emb3 a_0 out_3 i_4) w
def E (pr : Prims) (a_0 : Sl) (w : World) (R : Ending → World → Prop) : Prop :=
  wpC pr PP cfg (DD pr) (codeOf Try.f15) (retQ Try.f15.results.toList R) (argE 0 [Sl.v a_0]) w
theorem B3_eq (pr : Prims) (a_0 : Sl) (out_3 : Sl) (i_4 : Int) (w : World) (k : Env → World → Prop) (Q : Exit → Env → World → Prop) : B3 pr a_0 out_3 i_4 w k Q = (
  bif decide (i_4 < (a_0.n : Int)) then (
  pr.idxK 1 a_0 i_4 fun (a4 : Addr) =>
  pr.load1 (.int .i64) a4 w fun (ξ5 : Int) =>
  pr.idxK 1 out_3 i_4 fun (a6 : Addr) =>
  pr.storeC a6 (vI ξ5) w fun ω7 =>
  k (emb3 a_0 out_3 (w64 (i_4 + 1))) ω7)
  else (
  Q (.exit 0) (x0 out_3) w)) := by kernel_rfl
theorem B3_s (a_0 : Sl) (out_3 : Sl) (i_4 : Int) (w : World) (k : Env → World → Prop) (Q : Exit → Env → World → Prop) : B3 std a_0 out_3 i_4 w k Q = (
  bif decide (i_4 < (a_0.n : Int)) then (
  idxK 1 a_0 i_4 fun (a4 : Addr) =>
  load1 (.int .i64) a4 w fun (ξ5 : Int) =>
  idxK 1 out_3 i_4 fun (a6 : Addr) =>
  storeC a6 (vI ξ5) w fun ω7 =>
  k (emb3 a_0 out_3 (w64 (i_4 + 1))) ω7)
  else (
  Q (.exit 0) (x0 out_3) w)) := B3_eq std a_0 out_3 i_4 w k Q
theorem L3_rule (a_0 : Sl) (out_3 : Sl) (i_4 : Int) (w : World) (Q : Exit → Env → World → Prop) (I : Int → World → Prop) (μ : Int → World → Nat) (h0 : I i_4 w)
    (h : ∀ (i_4 : Int) (w' : World), I i_4 w' → B3 std a_0 out_3 i_4 w' (fun e2 w2 => ∃ i_4_n, e2 = emb3 a_0 out_3 i_4_n ∧ I i_4_n w2 ∧ μ i_4_n w2 < μ i_4 w') Q) :
    L3 std a_0 out_3 i_4 w Q := by
  unfold L3
  refine LoopE.intro (σ := Int) (step := S3 std Q) (fun s => emb3 a_0 out_3 s) (fun s w => I s w) (fun s w => μ s w) i_4 rfl h0 ?_
  intro s w' hI
  have h1 := h s w' hI
  unfold B3 at h1
  exact h1
theorem A3_0_eq (pr : Prims) (out_3 : Sl) (w : World) (R : Ending → World → Prop) : (q3 pr R) (.exit 0) (x0 out_3) w = (
  R (.returned (Sl.v out_3)) w) := by kernel_rfl
theorem A3_0_s (out_3 : Sl) (w : World) (R : Ending → World → Prop) : (q3 std R) (.exit 0) (x0 out_3) w = (
  R (.returned (Sl.v out_3)) w) := A3_0_eq std out_3 w R
theorem E_eq (pr : Prims) (a_0 : Sl) (w : World) (R : Ending → World → Prop) : E pr a_0 w R = (
  pr.sem1 .sl PP (Instr.makeSlice T_Sint (vI (a_0.n : Int)) (vI (a_0.n : Int))) w fun (ρ0 : Sl) ω1 =>
  L3 pr a_0 ρ0 0 ω1 (q3 pr R)) := by kernel_rfl
theorem E_s (a_0 : Sl) (w : World) (R : Ending → World → Prop) : E std a_0 w R = (
  sem1 .sl PP (Instr.makeSlice T_Sint (vI (a_0.n : Int)) (vI (a_0.n : Int))) w fun (ρ0 : Sl) ω1 =>
  L3 std a_0 ρ0 0 ω1 (q3 std R)) := E_eq std a_0 w R
theorem drawsOk : drawsOk PP cfg okD (codeOf Try.f15) = true := by kernel_rfl
theorem calls (a_0 : Sl) {w : World} {R : Ending → World → Prop} (h : E std a_0 w R) : Calls PP F.laws_toIntS #[Sl.v a_0] w R :=
  calls_of noCount mixed drawOk Try.func15 rfl (c := cfg) (args := [Sl.v a_0]) rfl (Nat.le_of_ble_eq_true (by kernel_rfl)) drawsOk h
end laws_toIntS

namespace laws_eqIntS
@[reducible] def cfg : Cfg := ⟨26, [(4, [0, 1, 5])], [(1, [0, 1, 5]), (0, [])], [], [4], [6], [17, 24, 21, 26, 65, 27, 91, 60, 78], [86, 52]⟩
def q0 (pr : Prims) (R : Ending → World → Prop) : Exit → Env → World → Prop := fun ex e w => normQ ex (fun e w => contE pr cfg (sub (codeOf Try.f17) [1, 1, 1]) (fun e w => wpC pr PP cfg (DD pr) (sub (codeOf Try.f17) [1, 1, 1]) (retQ Try.f17.results.toList R) e w) e w) (retQ Try.f17.results.toList R) e w
def q1 (pr : Prims) (R : Ending → World → Prop) : Exit → Env → World → Prop := fun ex e w => blockQ ex 0 (q0 pr R) e w
def emb4 (a_0 : Sl) (b_1 : Sl) (i_5 : Int) : Env := [(0, Sl.v a_0), (1, Sl.v b_1), (5, vI i_5)]
def x0 : Env := []
def S4 (pr : Prims) (Q : Exit → Env → World → Prop) : (Env → World → Prop) → Env → World → Prop := fun k e w => wpC pr PP cfg (DD pr) (sub (codeOf Try.f17) [1, 1, 0, 1, 0, 0]) (fun ex e w => normQ ex (fun e' w' => k (Env.restr e' (lookN cfg.loops (keyOf (sub (codeOf Try.f17) [1, 1, 0, 1, 0, 0])))) w') Q e w) e w
def B4 (pr : Prims) (a_0 : Sl) (b_1 : Sl) (i_5 : Int) (w : World) (k : Env → World → Prop) (Q : Exit → Env → World → Prop) : Prop :=
  S4 pr Q k (emb4 a_0 b_1 i_5) w
def L4 (pr : Prims) (a_0 : Sl) (b_1 : Sl) (i_5 : Int) (w : World) (Q : Exit → Env → World → Prop) : Prop :=
  pr.loop (S4 pr Q) (emb4 a_0 b_1 i_5) w
def E (pr : Prims) (a_0 : Sl) (b_1 : Sl) (w : World) (R : Ending → World → Prop) : Prop :=
  wpC pr PP cfg (DD pr) (codeOf Try.f17) (retQ Try.f17.results.toList R) (argE 0 [Sl.v a_0, Sl.v b_1]) w
theorem B4_eq (pr : Prims) (a_0 : Sl) (b_1 : Sl) (i_5 : Int) (w : World) (k : Env → World → Prop) (Q : Exit → Env → World → Prop) : B4 pr a_0 b_1 i_5 w k Q = (
  bif decide (i_5 < (a_0.n : Int)) then (
  pr.idxK 1 a_0 i_5 fun (a2 : Addr) =>
  pr.load1 (.int .i64) a2 w fun (ξ3 : Int) =>
  pr.idxK 1 b_1 i_5 fun (a4 : Addr) =>
  pr.load1 (.int .i64) a4 w fun (ξ5 : Int) =>
  pr.drewAll w fun ω6 =>
  bif ξ3 != ξ5 then (
  Q .ret [(4, .bool false)] ω6)
  else (
  k (emb4 a_0 b_1 (w64 (i_5 + 1))) ω6))
  else (
  Q (.exit 0) (x0) w)) := by kernel_rfl
theorem B4_s (a_0 : Sl) (b_1 : Sl) (i_5 : Int) (w : World) (k : Env → World → Prop) (Q : Exit → Env → World → Prop) : B4 std a_0 b_1 i_5 w k Q = (
  bif decide (i_5 < (a_0.n : Int)) then (
  idxK 1 a_0 i_5 fun (a2 : Addr) =>
  load1 (.int .i64) a2 w fun (ξ3 : Int) =>
  idxK 1 b_1 i_5 fun (a4 : Addr) =>
  load1 (.int .i64) a4 w fun (ξ5 : Int) =>
  drewAll w fun ω6 =>
  bif ξ3 != ξ5 then (
  Q .ret [(4, .bool false)] ω6)
  else (
  k (emb4 a_0 b_1 (w64 (i_5 + 1))) ω6))
  else (
  Q (.exit 0) (x0) w)) := B4_eq std a_0 b_1 i_5 w k Q
theorem L4_rule (a_0 : Sl) (b_1 : Sl) (i_5 : Int) (w : World) (Q : Exit → Env → World → Prop) (I : Int → World → Prop) (μ : Int → World → Nat) (h0 : I i_5 w)
    (h : ∀ (i_5 : Int) (w' : World), I i_5 w' → B4 std a_0 b_1 i_5 w' (fun e2 w2 => ∃ i_5_n, e2 = emb4 a_0 b_1 i_5_n ∧ I i_5_n w2 ∧ μ i_5_n w2 < μ i_5 w') Q) :
    L4 std a_0 b_1 i_5 w Q := by
  unfold L4
  refine LoopE.intro (σ := Int) (step := S4 std Q) (fun s => emb4 a_0 b_1 s) (fun s w => I s w) (fun s w => μ s w) i_5 rfl h0 ?_
  intro s w' hI
  have h1 := h s w' hI
  unfold B4 at h1
  exact h1
theorem A4_0_eq (pr : Prims) (w : World) (R : Ending → World → Prop) : (q1 pr R) (.exit 0) (x0) w = (
  R (.returned (.bool true)) w) := by kernel_rfl
theorem A4_0_s (w : World) (R : Ending → World → Prop) : (q1 std R) (.exit 0) (x0) w = (
  R (.returned (.bool true)) w) := A4_0_eq std w R
theorem R4_eq (pr : Prims) (v4 : Value) (w : World) (R : Ending → World → Prop) : (q1 pr R) .ret [(4, v4)] w = (
  R (.returned (v4)) w) := by kernel_rfl
theorem R4_s (v4 : Value) (w : World) (R : Ending → World → Prop) : (q1 std R) .ret [(4, v4)] w = (
  R (.returned (v4)) w) := R4_eq std v4 w R
theorem E_eq (pr : Prims) (a_0 : Sl) (b_1 : Sl) (w : World) (R : Ending → World → Prop) : E pr a_0 b_1 w R = (
  bif (a_0.n : Int) != (b_1.n : Int) then (
  R (.returned (.bool false)) w)
  else (
  L4 pr a_0 b_1 0 w (q1 pr R))) := by kernel_rfl
theorem E_s (a_0 : Sl) (b_1 : Sl) (w : World) (R : Ending → World → Prop) : E std a_0 b_1 w R = (
  bif (a_0.n : Int) != (b_1.n : Int) then (
  R (.returned (.bool false)) w)
  else (
  L4 std a_0 b_1 0 w (q1 std R))) := E_eq std a_0 b_1 w R
theorem drawsOk : drawsOk PP cfg okD (codeOf Try.f17) = true := by kernel_rfl
theorem calls (a_0 : Sl) (b_1 : Sl) {w : World} {R : Ending → World → Prop} (h : E std a_0 b_1 w R) : Calls PP F.laws_eqIntS #[Sl.v a_0, Sl.v b_1] w R :=
  calls_of noCount mixed drawOk Try.func17 rfl (c := cfg) (args := [Sl.v a_0, Sl.v b_1]) rfl (Nat.le_of_ble_eq_true (by kernel_rfl)) drawsOk h
end laws_eqIntS

namespace laws_markIntS
@[reducible] def cfg : Cfg := ⟨19, [(2, [0, 1, 5])], [(1, [0, 1, 5]), (0, [1])], [], [4], [], [17, 24, 21, 26, 65, 27, 91, 60, 78], [86, 52]⟩
def q0 (pr : Prims) (R : Ending → World → Prop) : Exit → Env → World → Prop := fun ex e w => normQ ex (fun e w => contE pr cfg (sub (codeOf Try.f20) [1, 1]) (fun e w => wpC pr PP cfg (DD pr) (sub (codeOf Try.f20) [1, 1]) (retQ Try.f20.results.toList R) e w) e w) (retQ Try.f20.results.toList R) e w
def q1 (pr : Prims) (R : Ending → World → Prop) : Exit → Env → World → Prop := fun ex e w => blockQ ex 0 (q0 pr R) e w
def emb2 (a_0 : Sl) (k_1 : Int) (i_5 : Int) : Env := [(0, Sl.v a_0), (1, vI k_1), (5, vI i_5)]
def x0 (k_1 : Int) : Env := [(1, vI k_1)]
def S2 (pr : Prims) (Q : Exit → Env → World → Prop) : (Env → World → Prop) → Env → World → Prop := fun k e w => wpC pr PP cfg (DD pr) (sub (codeOf Try.f20) [1, 0, 1, 0, 0]) (fun ex e w => normQ ex (fun e' w' => k (Env.restr e' (lookN cfg.loops (keyOf (sub (codeOf Try.f20) [1, 0, 1, 0, 0])))) w') Q e w) e w
def B2 (pr : Prims) (a_0 : Sl) (k_1 : Int) (i_5 : Int) (w : World) (k : Env → World → Prop) (Q : Exit → Env → World → Prop) : Prop :=
  S2 pr Q k (emb2 a_0 k_1 i_5) w
def L2 (pr : Prims) (a_0 : Sl) (k_1 : Int) (i_5 : Int) (w : World) (Q : Exit → Env → World → Prop) : Prop :=
  pr.loop (S2 pr Q) (emb2 a_0 k_1 i_5) w
def E (pr : Prims) (a_0 : Sl) (k_1 : Int) (w : World) (R : Ending → World → Prop) : Prop :=
  wpC pr PP cfg (DD pr) (codeOf Try.f20) (retQ Try.f20.results.toList R) (argE 0 [Sl.v a_0, vI k_1]) w
theorem B2_eq (pr : Prims) (a_0 : Sl) (k_1 : Int) (i_5 : Int) (w : World) (k : Env → World → Prop) (Q : Exit → Env → World → Prop) : B2 pr a_0 k_1 i_5 w k Q = (
  bif decide (i_5 < (a_0.n : Int)) then (
  pr.idxK 1 a_0 i_5 fun (a2 : Addr) =>
  pr.storeC a2 (vI k_1) w fun ω3 =>
  k (emb2 a_0 (w64 (k_1 + 1)) (w64 (i_5 + 1))) ω3)
  else (
  Q (.exit 0) (x0 k_1) w)) := by kernel_rfl
theorem B2_s (a_0 : Sl) (k_1 : Int) (i_5 : Int) (w : World) (k : Env → World → Prop) (Q : Exit → Env → World → Prop) : B2 std a_0 k_1 i_5 w k Q = (
  bif decide (i_5 < (a_0.n : Int)) then (
  idxK 1 a_0 i_5 fun (a2 : Addr) =>
  storeC a2 (vI k_1) w fun ω3 =>
  k (emb2 a_0 (w64 (k_1 + 1)) (w64 (i_5 + 1))) ω3)
  else (
  Q (.exit 0) (x0 k_1) w)) := B2_eq std a_0 k_1 i_5 w k Q
theorem L2_rule (a_0 : Sl) (k_1 : Int) (i_5 : Int) (w : World) (Q : Exit → Env → World → Prop) (I : Int → Int → World → Prop) (μ : Int → Int → World → Nat) (h0 : I k_1 i_5 w)
    (h : ∀ (k_1 : Int) (i_5 : Int) (w' : World), I k_1 i_5 w' → B2 std a_0 k_1 i_5 w' (fun e2 w2 => ∃ k_1_n i_5_n, e2 = emb2 a_0 k_1_n i_5_n ∧ I k_1_n i_5_n w2 ∧ μ k_1_n i_5_n w2 < μ k_1 i_5 w') Q) :
    L2 std a_0 k_1 i_5 w Q := by
  unfold L2
  refine LoopE.intro (σ := Int × Int) (step := S2 std Q) (fun s => emb2 a_0 s.1 s.2) (fun s w => I s.1 s.2 w) (fun s w => μ s.1 s.2 w) (k_1, i_5) rfl h0 ?_
  intro s w' hI
  have h1 := h s.1 s.2 w' hI
  unfold B2 at h1
  simp only [Prod.exists]
  exact h1
theorem A2_0_eq (pr : Prims) (k_1 : Int) (w : World) (R : Ending → World → Prop) : (q1 pr R) (.exit 0) (x0 k_1) w = (
  R (.returned (vI k_1)) w) := by kernel_rfl
theorem A2_0_s (k_1 : Int) (w : World) (R : Ending → World → Prop) : (q1 std R) (.exit 0) (x0 k_1) w = (
  R (.returned (vI k_1)) w) := A2_0_eq std k_1 w R
theorem E_eq (pr : Prims) (a_0 : Sl) (k_1 : Int) (w : World) (R : Ending → World → Prop) : E pr a_0 k_1 w R = (
  L2 pr a_0 k_1 0 w (q1 pr R)) := by kernel_rfl
theorem E_s (a_0 : Sl) (k_1 : Int) (w : World) (R : Ending → World → Prop) : E std a_0 k_1 w R = (
  L2 std a_0 k_1 0 w (q1 std R)) := E_eq std a_0 k_1 w R
theorem drawsOk : drawsOk PP cfg okD (codeOf Try.f20) = true := by kernel_rfl
theorem calls (a_0 : Sl) (k_1 : Int) {w : World} {R : Ending → World → Prop} (h : E std a_0 k_1 w R) : Calls PP F.laws_markIntS #[Sl.v a_0, vI k_1] w R :=
  calls_of noCount mixed drawOk Try.func20 rfl (c := cfg) (args := [Sl.v a_0, vI k_1]) rfl (Nat.le_of_ble_eq_true (by kernel_rfl)) drawsOk h
end laws_markIntS

namespace laws_heldIntS
@[reducible] def cfg : Cfg := ⟨21, [(2, [0, 1, 5])], [(1, [0, 1, 5]), (0, [1])], [], [4], [], [17, 24, 21, 26, 65, 27, 91, 60, 78], [86, 52]⟩
def q0 (pr : Prims) (R : Ending → World → Prop) : Exit → Env → World → Prop := fun ex e w => normQ ex (fun e w => contE pr cfg (sub (codeOf Try.f21) [1, 1]) (fun e w => wpC pr PP cfg (DD pr) (sub (codeOf Try.f21) [1, 1]) (retQ Try.f21.results.toList R) e w) e w) (retQ Try.f21.results.toList R) e w
def q1 (pr : Prims) (R : Ending → World → Prop) : Exit → Env → World → Prop := fun ex e w => blockQ ex 0 (q0 pr R) e w
def emb2 (a_0 : Sl) (k_1 : Int) (i_5 : Int) : Env := [(0, Sl.v a_0), (1, vI k_1), (5, vI i_5)]
def x0 (k_1 : Int) : Env := [(1, vI k_1)]
def S2 (pr : Prims) (Q : Exit → Env → World → Prop) : (Env → World → Prop) → Env → World → Prop := fun k e w => wpC pr PP cfg (DD pr) (sub (codeOf Try.f21) [1, 0, 1, 0, 0]) (fun ex e w => normQ ex (fun e' w' => k (Env.restr e' (lookN cfg.loops (keyOf (sub (codeOf Try.f21) [1, 0, 1, 0, 0])))) w') Q e w) e w
def B2 (pr : Prims) (a_0 : Sl) (k_1 : Int) (i_5 : Int) (w : World) (k : Env → World → Prop) (Q : Exit → Env → World → Prop) : Prop :=
  S2 pr Q k (emb2 a_0 k_1 i_5) w
def L2 (pr : Prims) (a_0 : Sl) (k_1 : Int) (i_5 : Int) (w : World) (Q : Exit → Env → World → Prop) : Prop :=
  pr.loop (S2 pr Q) (emb2 a_0 k_1 i_5) w
def E (pr : Prims) (a_0 : Sl) (k_1 : Int) (w : World) (R : Ending → World → Prop) : Prop :=
  wpC pr PP cfg (DD pr) (codeOf Try.f21) (retQ Try.f21.results.toList R) (argE 0 [Sl.v a_0, vI k_1]) w
theorem B2_eq (pr : Prims) (a_0 : Sl) (k_1 : Int) (i_5 : Int) (w : World) (k : Env → World → Prop) (Q : Exit → Env → World → Prop) : B2 pr a_0 k_1 i_5 w k Q = (
  bif decide (i_5 < (a_0.n : Int)) then (
  pr.idxK 1 a_0 i_5 fun (a2 : Addr) =>
  pr.load1 (.int .i64) a2 w fun (ξ3 : Int) =>
  bif ξ3 != k_1 then (
  Q .ret [(4, vI (-1))] w)
  else (
  k (emb2 a_0 (w64 (k_1 + 1)) (w64 (i_5 + 1))) w))
  else (
  Q (.exit 0) (x0 k_1) w)) := by kernel_rfl
theorem B2_s (a_0 : Sl) (k_1 : Int) (i_5 : Int) (w : World) (k : Env → World → Prop) (Q : Exit → Env → World → Prop) : B2 std a_0 k_1 i_5 w k Q = (
  bif decide (i_5 < (a_0.n : Int)) then (
  idxK 1 a_0 i_5 fun (a2 : Addr) =>
  load1 (.int .i64) a2 w fun (ξ3 : Int) =>
  bif ξ3 != k_1 then (
  Q .ret [(4, vI (-1))] w)
  else (
  k (emb2 a_0 (w64 (k_1 + 1)) (w64 (i_5 + 1))) w))
  else (
  Q (.exit 0) (x0 k_1) w)) := B2_eq std a_0 k_1 i_5 w k Q
theorem L2_rule (a_0 : Sl) (k_1 : Int) (i_5 : Int) (w : World) (Q : Exit → Env → World → Prop) (I : Int → Int → World → Prop) (μ : Int → Int → World → Nat) (h0 : I k_1 i_5 w)
    (h : ∀ (k_1 : Int) (i_5 : Int) (w' : World), I k_1 i_5 w' → B2 std a_0 k_1 i_5 w' (fun e2 w2 => ∃ k_1_n i_5_n, e2 = emb2 a_0 k_1_n i_5_n ∧ I k_1_n i_5_n w2 ∧ μ k_1_n i_5_n w2 < μ k_1 i_5 w') Q) :
    L2 std a_0 k_1 i_5 w Q := by
  unfold L2
  refine LoopE.intro (σ := Int × Int) (step := S2 std Q) (fun s => emb2 a_0 s.1 s.2) (fun s w => I s.1 s.2 w) (fun s w => μ s.1 s.2 w) (k_1, i_5) rfl h0 ?_
  intro s w' hI
  have h1 := h s.1 s.2 w' hI
  unfold B2 at h1
  simp only [Prod.exists]
  exact h1
theorem A2_0_eq (pr : Prims) (k_1 : Int) (w : World) (R : Ending → World → Prop) : (q1 pr R) (.exit 0) (x0 k_1) w = (
  R (.returned (vI k_1)) w) := by kernel_rfl
theorem A2_0_s (k_1 : Int) (w : World) (R : Ending → World → Prop) : (q1 std R) (.exit 0) (x0 k_1) w = (
  R (.returned (vI k_1)) w) := A2_0_eq std k_1 w R
theorem R2_eq (pr : Prims) (v4 : Value) (w : World) (R : Ending → World → Prop) : (q1 pr R) .ret [(4, v4)] w = (
  R (.returned (v4)) w) := by kernel_rfl
theorem R2_s (v4 : Value) (w : World) (R : Ending → World → Prop) : (q1 std R) .ret [(4, v4)] w = (
  R (.returned (v4)) w) := R2_eq std v4 w R
theorem E_eq (pr : Prims) (a_0 : Sl) (k_1 : Int) (w : World) (R : Ending → World → Prop) : E pr a_0 k_1 w R = (
  L2 pr a_0 k_1 0 w (q1 pr R)) := by kernel_rfl
theorem E_s (a_0 : Sl) (k_1 : Int) (w : World) (R : Ending → World → Prop) : E std a_0 k_1 w R = (
  L2 std a_0 k_1 0 w (q1 std R)) := E_eq std a_0 k_1 w R
theorem drawsOk : drawsOk PP cfg okD (codeOf Try.f21) = true := by kernel_rfl
theorem calls (a_0 : Sl) (k_1 : Int) {w : World} {R : Ending → World → Prop} (h : E std a_0 k_1 w R) : Calls PP F.laws_heldIntS #[Sl.v a_0, vI k_1] w R :=
  calls_of noCount mixed drawOk Try.func21 rfl (c := cfg) (args := [Sl.v a_0, vI k_1]) rfl (Nat.le_of_ble_eq_true (by kernel_rfl)) drawsOk h
end laws_heldIntS

namespace laws_szIntS
@[reducible] def cfg : Cfg := ⟨12, [], [], [], [4], [], [17, 24, 21, 26, 65, 27, 91, 60, 78], [86, 52]⟩
def E (pr : Prims) (a_0 : Sl) (left_1 : Int) (w : World) (R : Ending → World → Prop) : Prop :=
  wpC pr PP cfg (DD pr) (codeOf Try.f65) (retQ Try.f65.results.toList R) (argE 0 [Sl.v a_0, vI left_1]) w
theorem E_eq (pr : Prims) (a_0 : Sl) (left_1 : Int) (w : World) (R : Ending → World → Prop) : E pr a_0 left_1 w R = (
  bif decide ((w64 (left_1 - (a_0.n : Int))) < 0) then (
  R (.returned (vI (-1))) w)
  else (
  R (.returned (vI (w64 (left_1 - (a_0.n : Int))))) w)) := by kernel_rfl
theorem E_s (a_0 : Sl) (left_1 : Int) (w : World) (R : Ending → World → Prop) : E std a_0 left_1 w R = (
  bif decide ((w64 (left_1 - (a_0.n : Int))) < 0) then (
  R (.returned (vI (-1))) w)
  else (
  R (.returned (vI (w64 (left_1 - (a_0.n : Int))))) w)) := E_eq std a_0 left_1 w R
theorem drawsOk : drawsOk PP cfg okD (codeOf Try.f65) = true := by kernel_rfl
theorem calls (a_0 : Sl) (left_1 : Int) {w : World} {R : Ending → World → Prop} (h : E std a_0 left_1 w R) : Calls PP F.laws_szIntS #[Sl.v a_0, vI left_1] w R :=
  calls_of noCount mixed drawOk Try.func65 rfl (c := cfg) (args := [Sl.v a_0, vI left_1]) rfl (Nat.le_of_ble_eq_true (by kernel_rfl)) drawsOk h
end laws_szIntS

namespace laws_szIntSS
@[reducible] def cfg : Cfg := ⟨27, [(5, [0, 1, 5])], [(1, [0, 1, 5]), (0, [1])], [], [4], [], [17, 24, 21, 26, 65, 27, 91, 60, 78], [86, 52]⟩
def q0 (pr : Prims) (R : Ending → World → Prop) : Exit → Env → World → Prop := fun ex e w => normQ ex (fun e w => contE pr cfg (sub (codeOf Try.f27) [1, 1, 1, 1]) (fun e w => wpC pr PP cfg (DD pr) (sub (codeOf Try.f27) [1, 1, 1, 1]) (retQ Try.f27.results.toList R) e w) e w) (retQ Try.f27.results.toList R) e w
def q1 (pr : Prims) (R : Ending → World → Prop) : Exit → Env → World → Prop := fun ex e w => blockQ ex 0 (q0 pr R) e w
def emb5 (a_0 : Sl) (left_1 : Int) (i_5 : Int) : Env := [(0, Sl.v a_0), (1, vI left_1), (5, vI i_5)]
def x0 (left_1 : Int) : Env := [(1, vI left_1)]
def S5 (pr : Prims) (Q : Exit → Env → World → Prop) : (Env → World → Prop) → Env → World → Prop := fun k e w => wpC pr PP cfg (DD pr) (sub (codeOf Try.f27) [1, 1, 1, 0, 1, 0, 0]) (fun ex e w => normQ ex (fun e' w' => k (Env.restr e' (lookN cfg.loops (keyOf (sub (codeOf Try.f27) [1, 1, 1, 0, 1, 0, 0])))) w') Q e w) e w
def B5 (pr : Prims) (a_0 : Sl) (left_1 : Int) (i_5 : Int) (w : World) (k : Env → World → Prop) (Q : Exit → Env → World → Prop) : Prop :=
  S5 pr Q k (emb5 a_0 left_1 i_5) w
def L5 (pr : Prims) (a_0 : Sl) (left_1 : Int) (i_5 : Int) (w : World) (Q : Exit → Env → World → Prop) : Prop :=
  pr.loop (S5 pr Q) (emb5 a_0 left_1 i_5) w
def E (pr : Prims) (a_0 : Sl) (left_1 : Int) (w : World) (R : Ending → World → Prop) : Prop :=
  wpC pr PP cfg (DD pr) (codeOf Try.f27) (retQ Try.f27.results.toList R) (argE 0 [Sl.v a_0, vI left_1]) w
theorem B5_eq (pr : Prims) (a_0 : Sl) (left_1 : Int) (i_5 : Int) (w : World) (k : Env → World → Prop) (Q : Exit → Env → World → Prop) : B5 pr a_0 left_1 i_5 w k Q = (
  bif decide (i_5 < (a_0.n : Int)) then (
  pr.idxK 1 a_0 i_5 fun (a2 : Addr) =>
  pr.load1 .sl a2 w fun (ξ3 : Sl) =>
  pr.call1 (.int .i64) PP F.laws_szIntS #[Sl.v ξ3, vI left_1] w fun (ρ4 : Int) ω5 =>
  bif decide (ρ4 < 0) then (
  Q .ret [(4, vI (-1))] ω5)
  else (
  k (emb5 a_0 ρ4 (w64 (i_5 + 1))) ω5))
  else (
  Q (.exit 0) (x0 left_1) w)) := by kernel_rfl
theorem B5_s (a_0 : Sl) (left_1 : Int) (i_5 : Int) (w : World) (k : Env → World → Prop) (Q : Exit → Env → World → Prop) : B5 std a_0 left_1 i_5 w k Q = (
  bif decide (i_5 < (a_0.n : Int)) then (
  idxK 1 a_0 i_5 fun (a2 : Addr) =>
  load1 .sl a2 w fun (ξ3 : Sl) =>
  call1 (.int .i64) PP F.laws_szIntS #[Sl.v ξ3, vI left_1] w fun (ρ4 : Int) ω5 =>
  bif decide (ρ4 < 0) then (
  Q .ret [(4, vI (-1))] ω5)
  else (
  k (emb5 a_0 ρ4 (w64 (i_5 + 1))) ω5))
  else (
  Q (.exit 0) (x0 left_1) w)) := B5_eq std a_0 left_1 i_5 w k Q
theorem L5_rule (a_0 : Sl) (left_1 : Int) (i_5 : Int) (w : World) (Q : Exit → Env → World → Prop) (I : Int → Int → World → Prop) (μ : Int → Int → World → Nat) (h0 : I left_1 i_5 w)
    (h : ∀ (left_1 : Int) (i_5 : Int) (w' : World), I left_1 i_5 w' → B5 std a_0 left_1 i_5 w' (fun e2 w2 => ∃ left_1_n i_5_n, e2 = emb5 a_0 left_1_n i_5_n ∧ I left_1_n i_5_n w2 ∧ μ left_1_n i_5_n w2 < μ left_1 i_5 w') Q) :
    L5 std a_0 left_1 i_5 w Q := by
  unfold L5
  refine LoopE.intro (σ := Int × Int) (step := S5 std Q) (fun s => emb5 a_0 s.1 s.2) (fun s w => I s.1 s.2 w) (fun s w => μ s.1 s.2 w) (left_1, i_5) rfl h0 ?_
  intro s w' hI
  have h1 := h s.1 s.2 w' hI
  unfold B5 at h1
  simp only [Prod.exists]
  exact h1
theorem A5_0_eq (pr : Prims) (left_1 : Int) (w : World) (R : Ending → World → Prop) : (q1 pr R) (.exit 0) (x0 left_1) w = (
  R (.returned (vI left_1)) w) := by kernel_rfl
theorem A5_0_s (left_1 : Int) (w : World) (R : Ending → World → Prop) : (q1 std R) (.exit 0) (x0 left_1) w = (
  R (.returned (vI left_1)) w) := A5_0_eq std left_1 w R
theorem R5_eq (pr : Prims) (v4 : Value) (w : World) (R : Ending → World → Prop) : (q1 pr R) .ret [(4, v4)] w = (
  R (.returned (v4)) w) := by kernel_rfl
theorem R5_s (v4 : Value) (w : World) (R : Ending → World → Prop) : (q1 std R) .ret [(4, v4)] w = (
  R (.returned (v4)) w) := R5_eq std v4 w R
theorem E_eq (pr : Prims) (a_0 : Sl) (left_1 : Int) (w : World) (R : Ending → World → Prop) : E pr a_0 left_1 w R = (
  bif decide ((w64 (left_1 - (a_0.n : Int))) < 0) then (
  R (.returned (vI (-1))) w)
  else (
  L5 pr a_0 (w64 (left_1 - (a_0.n : Int))) 0 w (q1 pr R))) := by kernel_rfl
theorem E_s (a_0 : Sl) (left_1 : Int) (w : World) (R : Ending → World → Prop) : E std a_0 left_1 w R = (
  bif decide ((w64 (left_1 - (a_0.n : Int))) < 0) then (
  R (.returned (vI (-1))) w)
  else (
  L5 std a_0 (w64 (left_1 - (a_0.n : Int))) 0 w (q1 std R))) := E_eq std a_0 left_1 w R
theorem drawsOk : drawsOk PP cfg okD (codeOf Try.f27) = true := by kernel_rfl
theorem calls (a_0 : Sl) (left_1 : Int) {w : World} {R : Ending → World → Prop} (h : E std a_0 left_1 w R) : Calls PP F.laws_szIntSS #[Sl.v a_0, vI left_1] w R :=
  calls_of noCount mixed drawOk Try.func27 rfl (c := cfg) (args := [Sl.v a_0, vI left_1]) rfl (Nat.le_of_ble_eq_true (by kernel_rfl)) drawsOk h
end laws_szIntSS

namespace laws_toIntSS
@[reducible] def cfg : Cfg := ⟨23, [(3, [0, 3, 4])], [(1, [0, 3, 4]), (0, [3])], [], [2], [], [17, 24, 21, 26, 65, 27, 91, 60, 78], [86, 52]⟩
def q2 (pr : Prims) (R : Ending → World → Prop) : Exit → Env → World → Prop := fun ex e w => normQ ex (fun e w => contE pr cfg (sub (codeOf Try.f29) [1, 1, 1]) (fun e w => wpC pr PP cfg (DD pr) (sub (codeOf Try.f29) [1, 1, 1]) (retQ Try.f29.results.toList R) e w) e w) (retQ Try.f29.results.toList R) e w
def q3 (pr : Prims) (R : Ending → World → Prop) : Exit → Env → World → Prop := fun ex e w => blockQ ex 0 (q2 pr R) e w
def emb3 (a_0 : Sl) (out_3 : Sl) (i_4 : Int) : Env := [(0, Sl.v a_0), (3, Sl.v out_3), (4, vI i_4)]
def x0 (out_3 : Sl) : Env := [(3, Sl.v out_3)]
def S3 (pr : Prims) (Q : Exit → Env → World → Prop) : (Env → World → Prop) → Env → World → Prop := fun k e w => wpC pr PP cfg (DD pr) (sub (codeOf Try.f29) [1, 1, 0, 1, 0, 0]) (fun ex e w => normQ ex (fun e' w' => k (Env.restr e' (lookN cfg.loops (keyOf (sub (codeOf Try.f29) [1, 1, 0, 1, 0, 0])))) w') Q e w) e w
def B3 (pr : Prims) (a_0 : Sl) (out_3 : Sl) (i_4 : Int) (w : World) (k : Env → World → Prop) (Q : Exit → Env → World → Prop) : Prop :=
  S3 pr Q k (emb3 a_0 out_3 i_4) w
def L3 (pr : Prims) (a_0 : Sl) (out_3 : Sl) (i_4 : Int) (w : World) (Q : Exit → Env → World → Prop) : Prop :=
  pr.loop (S3 pr Q) (emb3 a_0 out_3 i_4) w
def E (pr : Prims) (a_0 : Sl) (w : World) (R : Ending → World → Prop) : Prop :=
  wpC pr PP cfg (DD pr) (codeOf Try.f29) (retQ Try.f29.results.toList R) (argE 0 [Sl.v a_0]) w
theorem B3_eq (pr : Prims) (a_0 : Sl) (out_3 : Sl) (i_4 : Int) (w : World) (k : Env → World → Prop) (Q : Exit → Env → World → Prop) : B3 pr a_0 out_3 i_4 w k Q = (
  bif decide (i_4 < (a_0.n : Int)) then (
  pr.idxK 1 a_0 i_4 fun (a4 : Addr) =>
  pr.load1 .sl a4 w fun (ξ5 : Sl) =>
  pr.call1 .sl PP F.laws_toIntS #[Sl.v ξ5] w fun (ρ6 : Sl) ω7 =>
  pr.idxK 1 out_3 i_4 fun (a8 : Addr) =>
  pr.storeC a8 (Sl.v ρ6) ω7 fun ω9 =>
  k (emb3 a_0 out_3 (w64 (i_4 + 1))) ω9)
  else (
  Q (.exit 0) (x0 out_3) w)) := by kernel_rfl
theorem B3_s (a_0 : Sl) (out_3 : Sl) (i_4 : Int) (w : World) (k : Env → World → Prop) (Q : Exit → Env → World → Prop) : B3 std a_0 out_3 i_4 w k Q = (
  bif decide (i_4 < (a_0.n : Int)) then (
  idxK 1 a_0 i_4 fun (a4 : Addr) =>
  load1 .sl a4 w fun (ξ5 : Sl) =>
  call1 .sl PP F.laws_toIntS #[Sl.v ξ5] w fun (ρ6 : Sl) ω7 =>
  idxK 1 out_3 i_4 fun (a8 : Addr) =>
  storeC a8 (Sl.v ρ6) ω7 fun ω9 =>
  k (emb3 a_0 out_3 (w64 (i_4 + 1))) ω9)
  else (
  Q (.exit 0) (x0 out_3) w)) := B3_eq std a_0 out_3 i_4 w k Q
theorem L3_rule (a_0 : Sl) (out_3 : Sl) (i_4 : Int) (w : World) (Q : Exit → Env → World → Prop) (I : Int → World → Prop) (μ : Int → World → Nat) (h0 : I i_4 w)
    (h : ∀ (i_4 : Int) (w' : World), I i_4 w' → B3 std a_0 out_3 i_4 w' (fun e2 w2 => ∃ i_4_n, e2 = emb3 a_0 out_3 i_4_n ∧ I i_4_n w2 ∧ μ i_4_n w2 < μ i_4 w') Q) :
    L3 std a_0 out_3 i_4 w Q := by
  unfold L3
  refine LoopE.intro (σ := Int) (step := S3 std Q) (fun s => emb3 a_0 out_3 s) (fun s w => I s w) (fun s w => μ s w) i_4 rfl h0 ?_
  intro s w' hI
  have h1 := h s w' hI
  unfold B3 at h1
  exact h1
theorem A3_0_eq (pr : Prims) (out_3 : Sl) (w : World) (R : Ending → World → Prop) : (q3 pr R) (.exit 0) (x0 out_3) w = (
  R (.returned (Sl.v out_3)) w) := by kernel_rfl
theorem A3_0_s (out_3 : Sl) (w : World) (R : Ending → World → Prop) : (q3 std R) (.exit 0) (x0 out_3) w = (
  R (.returned (Sl.v out_3)) w) := A3_0_eq std out_3 w R
theorem E_eq (pr : Prims) (a_0 : Sl) (w : World) (R : Ending → World → Prop) : E pr a_0 w R = (
  pr.sem1 .sl PP (Instr.makeSlice T_SSint (vI (a_0.n : Int)) (vI (a_0.n : Int))) w fun (ρ0 : Sl) ω1 =>
  L3 pr a_0 ρ0 0 ω1 (q3 pr R)) := by kernel_rfl
theorem E_s (a_0 : Sl) (w : World) (R : Ending → World → Prop) : E std a_0 w R = (
  sem1 .sl PP (Instr.makeSlice T_SSint (vI (a_0.n : Int)) (vI (a_0.n : Int))) w fun (ρ0 : Sl) ω1 =>
  L3 std a_0 ρ0 0 ω1 (q3 std R)) := E_eq std a_0 w R
theorem drawsOk : drawsOk PP cfg okD (codeOf Try.f29) = true := by kernel_rfl
theorem calls (a_0 : Sl) {w : World} {R : Ending → World → Prop} (h : E std a_0 w R) : Calls PP F.laws_toIntSS #[Sl.v a_0] w R :=
  calls_of noCount mixed drawOk Try.func29 rfl (c := cfg) (args := [Sl.v a_0]) rfl (Nat.le_of_ble_eq_true (by kernel_rfl)) drawsOk h
end laws_toIntSS

namespace laws_eqIntSS
@[reducible] def cfg : Cfg := ⟨27, [(4, [0, 1, 5])], [(1, [0, 1, 5]), (0, [])], [], [4], [6], [17, 24, 21, 26, 65, 27, 91, 60, 78], [86, 52]⟩
def q0 (pr : Prims) (R : Ending → World → Prop) : Exit → Env → World → Prop := fun ex e w => normQ ex (fun e w => contE pr cfg (sub (codeOf Try.f24) [1, 1, 1]) (fun e w => wpC pr PP cfg (DD pr) (sub (codeOf Try.f24) [1, 1, 1]) (retQ Try.f24.results.toList R) e w) e w) (retQ Try.f24.results.toList R) e w
def q1 (pr : Prims) (R : Ending → World → Prop) : Exit → Env → World → Prop := fun ex e w => blockQ ex 0 (q0 pr R) e w
def emb4 (a_0 : Sl) (b_1 : Sl) (i_5 : Int) : Env := [(0, Sl.v a_0), (1, Sl.v b_1), (5, vI i_5)]
def x0 : Env := []
def S4 (pr : Prims) (Q : Exit → Env → World → Prop) : (Env → World → Prop) → Env → World → Prop := fun k e w => wpC pr PP cfg (DD pr) (sub (codeOf Try.f24) [1, 1, 0, 1, 0, 0]) (fun ex e w => normQ ex (fun e' w' => k (Env.restr e' (lookN cfg.loops (keyOf (sub (codeOf Try.f24) [1, 1, 0, 1, 0, 0])))) w') Q e w) e w
def B4 (pr : Prims) (a_0 : Sl) (b_1 : Sl) (i_5 : Int) (w : World) (k : Env → World → Prop) (Q : Exit → Env → World → Prop) : Prop :=
  S4 pr Q k (emb4 a_0 b_1 i_5) w
def L4 (pr : Prims) (a_0 : Sl) (b_1 : Sl) (i_5 : Int) (w : World) (Q : Exit → Env → World → Prop) : Prop :=
  pr.loop (S4 pr Q) (emb4 a_0 b_1 i_5) w
def E (pr : Prims) (a_0 : Sl) (b_1 : Sl) (w : World) (R : Ending → World → Prop) : Prop :=
  wpC pr PP cfg (DD pr) (codeOf Try.f24) (retQ Try.f24.results.toList R) (argE 0 [Sl.v a_0, Sl.v b_1]) w
theorem B4_eq (pr : Prims) (a_0 : Sl) (b_1 : Sl) (i_5 : Int) (w : World) (k : Env → World → Prop) (Q : Exit → Env → World → Prop) : B4 pr a_0 b_1 i_5 w k Q = (
  bif decide (i_5 < (a_0.n : Int)) then (
  pr.idxK 1 a_0 i_5 fun (a2 : Addr) =>
  pr.load1 .sl a2 w fun (ξ3 : Sl) =>
  pr.idxK 1 b_1 i_5 fun (a4 : Addr) =>
  pr.load1 .sl a4 w fun (ξ5 : Sl) =>
  pr.qcall1 .bool PP F.laws_eqIntS #[Sl.v ξ3, Sl.v ξ5] w fun (ρ6 : Bool) =>
  pr.drewAll w fun ω7 =>
  bif !ρ6 then (
  Q .ret [(4, .bool false)] ω7)
  else (
  k (emb4 a_0 b_1 (w64 (i_5 + 1))) ω7))
  else (
  Q (.exit 0) (x0) w)) := by kernel_rfl
theorem B4_s (a_0 : Sl) (b_1 : Sl) (i_5 : Int) (w : World) (k : Env → World → Prop) (Q : Exit → Env → World → Prop) : B4 std a_0 b_1 i_5 w k Q = (
  bif decide (i_5 < (a_0.n : Int)) then (
  idxK 1 a_0 i_5 fun (a2 : Addr) =>
  load1 .sl a2 w fun (ξ3 : Sl) =>
  idxK 1 b_1 i_5 fun (a4 : Addr) =>
  load1 .sl a4 w fun (ξ5 : Sl) =>
  qcall1 .bool PP F.laws_eqIntS #[Sl.v ξ3, Sl.v ξ5] w fun (ρ6 : Bool) =>
  drewAll w fun ω7 =>
  bif !ρ6 then (
  Q .ret [(4, .bool false)] ω7)
  else (
  k (emb4 a_0 b_1 (w64 (i_5 + 1))) ω7))
  else (
  Q (.exit 0) (x0) w)) := B4_eq std a_0 b_1 i_5 w k Q
theorem L4_rule (a_0 : Sl) (b_1 : Sl) (i_5 : Int) (w : World) (Q : Exit → Env → World → Prop) (I : Int → World → Prop) (μ : Int → World → Nat) (h0 : I i_5 w)
    (h : ∀ (i_5 : Int) (w' : World), I i_5 w' → B4 std a_0 b_1 i_5 w' (fun e2 w2 => ∃ i_5_n, e2 = emb4 a_0 b_1 i_5_n ∧ I i_5_n w2 ∧ μ i_5_n w2 < μ i_5 w') Q) :
    L4 std a_0 b_1 i_5 w Q := by
  unfold L4
  refine LoopE.intro (σ := Int) (step := S4 std Q) (fun s => emb4 a_0 b_1 s) (fun s w => I s w) (fun s w => μ s w) i_5 rfl h0 ?_
  intro s w' hI
  have h1 := h s w' hI
  unfold B4 at h1
  exact h1
theorem A4_0_eq (pr : Prims) (w : World) (R : Ending → World → Prop) : (q1 pr R) (.exit 0) (x0) w = (
  R (.returned (.bool true)) w) := by kernel_rfl
theorem A4_0_s (w : World) (R : Ending → World → Prop) : (q1 std R) (.exit 0) (x0) w = (
  R (.returned (.bool true)) w) := A4_0_eq std w R
theorem R4_eq (pr : Prims) (v4 : Value) (w : World) (R : Ending → World → Prop) : (q1 pr R) .ret [(4, v4)] w = (
  R (.returned (v4)) w) := by kernel_rfl
theorem R4_s (v4 : Value) (w : World) (R : Ending → World → Prop) : (q1 std R) .ret [(4, v4)] w = (
  R (.returned (v4)) w) := R4_eq std v4 w R
theorem E_eq (pr : Prims) (a_0 : Sl) (b_1 : Sl) (w : World) (R : Ending → World → Prop) : E pr a_0 b_1 w R = (
  bif (a_0.n : Int) != (b_1.n : Int) then (
  R (.returned (.bool false)) w)
  else (
  L4 pr a_0 b_1 0 w (q1 pr R))) := by kernel_rfl
theorem E_s (a_0 : Sl) (b_1 : Sl) (w : World) (R : Ending → World → Prop) : E std a_0 b_1 w R = (
  bif (a_0.n : Int) != (b_1.n : Int) then (
  R (.returned (.bool false)) w)
  else (
  L4 std a_0 b_1 0 w (q1 std R))) := E_eq std a_0 b_1 w R
theorem drawsOk : drawsOk PP cfg okD (codeOf Try.f24) = true := by kernel_rfl
theorem calls (a_0 : Sl) (b_1 : Sl) {w : World} {R : Ending → World → Prop} (h : E std a_0 b_1 w R) : Calls PP F.laws_eqIntSS #[Sl.v a_0, Sl.v b_1] w R :=
  calls_of noCount mixed drawOk Try.func24 rfl (c := cfg) (args := [Sl.v a_0, Sl.v b_1]) rfl (Nat.le_of_ble_eq_true (by kernel_rfl)) drawsOk h
end laws_eqIntSS

namespace laws_markIntSS
@[reducible] def cfg : Cfg := ⟨19, [(2, [0, 1, 5])], [(1, [0, 1, 5]), (0, [1])], [], [4], [], [17, 24, 21, 26, 65, 27, 91, 60, 78], [86, 52]⟩
def q0 (pr : Prims) (R : Ending → World → Prop) : Exit → Env → World → Prop := fun ex e w => normQ ex (fun e w => contE pr cfg (sub (codeOf Try.f25) [1, 1]) (fun e w => wpC pr PP cfg (DD pr) (sub (codeOf Try.f25) [1, 1]) (retQ Try.f25.results.toList R) e w) e w) (retQ Try.f25.results.toList R) e w
def q1 (pr : Prims) (R : Ending → World → Prop) : Exit → Env → World → Prop := fun ex e w => blockQ ex 0 (q0 pr R) e w
def emb2 (a_0 : Sl) (k_1 : Int) (i_5 : Int) : Env := [(0, Sl.v a_0), (1, vI k_1), (5, vI i_5)]
def x0 (k_1 : Int) : Env := [(1, vI k_1)]
def S2 (pr : Prims) (Q : Exit → Env → World → Prop) : (Env → World → Prop) → Env → World → Prop := fun k e w => wpC pr PP cfg (DD pr) (sub (codeOf Try.f25) [1, 0, 1, 0, 0]) (fun ex e w => normQ ex (fun e' w' => k (Env.restr e' (lookN cfg.loops (keyOf (sub (codeOf Try.f25) [1, 0, 1, 0, 0])))) w') Q e w) e w
def B2 (pr : Prims) (a_0 : Sl) (k_1 : Int) (i_5 : Int) (w : World) (k : Env → World → Prop) (Q : Exit → Env → World → Prop) : Prop :=
  S2 pr Q k (emb2 a_0 k_1 i_5) w
def L2 (pr : Prims) (a_0 : Sl) (k_1 : Int) (i_5 : Int) (w : World) (Q : Exit → Env → World → Prop) : Prop :=
  pr.loop (S2 pr Q) (emb2 a_0 k_1 i_5) w
def E (pr : Prims) (a_0 : Sl) (k_1 : Int) (w : World) (R : Ending → World → Prop) : Prop :=
  wpC pr PP cfg (DD pr) (codeOf Try.f25) (retQ Try.f25.results.toList R) (argE 0 [Sl.v a_0, vI k_1]) w
theorem B2_eq (pr : Prims) (a_0 : Sl) (k_1 : Int) (i_5 : Int) (w : World) (k : Env → World → Prop) (Q : Exit → Env → World → Prop) : B2 pr a_0 k_1 i_5 w k Q = (
  bif decide (i_5 < (a_0.n : Int)) then (
  pr.idxK 1 a_0 i_5 fun (a2 : Addr) =>
  pr.load1 .sl a2 w fun (ξ3 : Sl) =>
  pr.call1 (.int .i64) PP F.laws_markIntS #[Sl.v ξ3, vI k_1] w fun (ρ4 : Int) ω5 =>
  k (emb2 a_0 ρ4 (w64 (i_5 + 1))) ω5)
  else (
  Q (.exit 0) (x0 k_1) w)) := by kernel_rfl
theorem B2_s (a_0 : Sl) (k_1 : Int) (i_5 : Int) (w : World) (k : Env → World → Prop) (Q : Exit → Env → World → Prop) : B2 std a_0 k_1 i_5 w k Q = (
  bif decide (i_5 < (a_0.n : Int)) then (
  idxK 1 a_0 i_5 fun (a2 : Addr) =>
  load1 .sl a2 w fun (ξ3 : Sl) =>
  call1 (.int .i64) PP F.laws_markIntS #[Sl.v ξ3, vI k_1] w fun (ρ4 : Int) ω5 =>
  k (emb2 a_0 ρ4 (w64 (i_5 + 1))) ω5)
  else (
  Q (.exit 0) (x0 k_1) w)) := B2_eq std a_0 k_1 i_5 w k Q
theorem L2_rule (a_0 : Sl) (k_1 : Int) (i_5 : Int) (w : World) (Q : Exit → Env → World → Prop) (I : Int → Int → World → Prop) (μ : Int → Int → World → Nat) (h0 : I k_1 i_5 w)
    (h : ∀ (k_1 : Int) (i_5 : Int) (w' : World), I k_1 i_5 w' → B2 std a_0 k_1 i_5 w' (fun e2 w2 => ∃ k_1_n i_5_n, e2 = emb2 a_0 k_1_n i_5_n ∧ I k_1_n i_5_n w2 ∧ μ k_1_n i_5_n w2 < μ k_1 i_5 w') Q) :
    L2 std a_0 k_1 i_5 w Q := by
  unfold L2
  refine LoopE.intro (σ := Int × Int) (step := S2 std Q) (fun s => emb2 a_0 s.1 s.2) (fun s w => I s.1 s.2 w) (fun s w => μ s.1 s.2 w) (k_1, i_5) rfl h0 ?_
  intro s w' hI
  have h1 := h s.1 s.2 w' hI
  unfold B2 at h1
  simp only [Prod.exists]
  exact h1
theorem A2_0_eq (pr : Prims) (k_1 : Int) (w : World) (R : Ending → World → Prop) : (q1 pr R) (.exit 0) (x0 k_1) w = (
  R (.returned (vI k_1)) w) := by kernel_rfl
theorem A2_0_s (k_1 : Int) (w : World) (R : Ending → World → Prop) : (q1 std R) (.exit 0) (x0 k_1) w = (
  R (.returned (vI k_1)) w) := A2_0_eq std k_1 w R
theorem E_eq (pr : Prims) (a_0 : Sl) (k_1 : Int) (w : World) (R : Ending → World → Prop) : E pr a_0 k_1 w R = (
  L2 pr a_0 k_1 0 w (q1 pr R)) := by kernel_rfl
theorem E_s (a_0 : Sl) (k_1 : Int) (w : World) (R : Ending → World → Prop) : E std a_0 k_1 w R = (
  L2 std a_0 k_1 0 w (q1 std R)) := E_eq std a_0 k_1 w R
theorem drawsOk : drawsOk PP cfg okD (codeOf Try.f25) = true := by kernel_rfl
theorem calls (a_0 : Sl) (k_1 : Int) {w : World} {R : Ending → World → Prop} (h : E std a_0 k_1 w R) : Calls PP F.laws_markIntSS #[Sl.v a_0, vI k_1] w R :=
  calls_of noCount mixed drawOk Try.func25 rfl (c := cfg) (args := [Sl.v a_0, vI k_1]) rfl (Nat.le_of_ble_eq_true (by kernel_rfl)) drawsOk h
end laws_markIntSS

namespace laws_heldIntSS
@[reducible] def cfg : Cfg := ⟨21, [(2, [0, 1, 5])], [(1, [0, 1, 5]), (0, [1])], [], [4], [], [17, 24, 21, 26, 65, 27, 91, 60, 78], [86, 52]⟩
def q0 (pr : Prims) (R : Ending → World → Prop) : Exit → Env → World → Prop := fun ex e w => normQ ex (fun e w => contE pr cfg (sub (codeOf Try.f26) [1, 1]) (fun e w => wpC pr PP cfg (DD pr) (sub (codeOf Try.f26) [1, 1]) (retQ Try.f26.results.toList R) e w) e w) (retQ Try.f26.results.toList R) e w
def q1 (pr : Prims) (R : Ending → World → Prop) : Exit → Env → World → Prop := fun ex e w => blockQ ex 0 (q0 pr R) e w
def emb2 (a_0 : Sl) (k_1 : Int) (i_5 : Int) : Env := [(0, Sl.v a_0), (1, vI k_1), (5, vI i_5)]
def x0 (k_1 : Int) : Env := [(1, vI k_1)]
def S2 (pr : Prims) (Q : Exit → Env → World → Prop) : (Env → World → Prop) → Env → World → Prop := fun k e w => wpC pr PP cfg (DD pr) (sub (codeOf Try.f26) [1, 0, 1, 0, 0]) (fun ex e w => normQ ex (fun e' w' => k (Env.restr e' (lookN cfg.loops (keyOf (sub (codeOf Try.f26) [1, 0, 1, 0, 0])))) w') Q e w) e w
def B2 (pr : Prims) (a_0 : Sl) (k_1 : Int) (i_5 : Int) (w : World) (k : Env → World → Prop) (Q : Exit → Env → World → Prop) : Prop :=
  S2 pr Q k (emb2 a_0 k_1 i_5) w
def L2 (pr : Prims) (a_0 : Sl) (k_1 : Int) (i_5 : Int) (w : World) (Q : Exit → Env → World → Prop) : Prop :=
  pr.loop (S2 pr Q) (emb2 a_0 k_1 i_5) w
def E (pr : Prims) (a_0 : Sl) (k_1 : Int) (w : World) (R : Ending → World → Prop) : Prop :=
  wpC pr PP cfg (DD pr) (codeOf Try.f26) (retQ Try.f26.results.toList R) (argE 0 [Sl.v a_0, vI k_1]) w
theorem B2_eq (pr : Prims) (a_0 : Sl) (k_1 : Int) (i_5 : Int) (w : World) (k : Env → World → Prop) (Q : Exit → Env → World → Prop) : B2 pr a_0 k_1 i_5 w k Q = (
  bif decide (i_5 < (a_0.n : Int)) then (
  pr.idxK 1 a_0 i_5 fun (a2 : Addr) =>
  pr.load1 .sl a2 w fun (ξ3 : Sl) =>
  pr.call1 (.int .i64) PP F.laws_heldIntS #[Sl.v ξ3, vI k_1] w fun (ρ4 : Int) ω5 =>
  bif decide (ρ4 < 0) then (
  Q .ret [(4, vI (-1))] ω5)
  else (
  k (emb2 a_0 ρ4 (w64 (i_5 + 1))) ω5))
  else (
  Q (.exit 0) (x0 k_1) w)) := by kernel_rfl
theorem B2_s (a_0 : Sl) (k_1 : Int) (i_5 : Int) (w : World) (k : Env → World → Prop) (Q : Exit → Env → World → Prop) : B2 std a_0 k_1 i_5 w k Q = (
  bif decide (i_5 < (a_0.n : Int)) then (
  idxK 1 a_0 i_5 fun (a2 : Addr) =>
  load1 .sl a2 w fun (ξ3 : Sl) =>
  call1 (.int .i64) PP F.laws_heldIntS #[Sl.v ξ3, vI k_1] w fun (ρ4 : Int) ω5 =>
  bif decide (ρ4 < 0) then (
  Q .ret [(4, vI (-1))] ω5)
  else (
  k (emb2 a_0 ρ4 (w64 (i_5 + 1))) ω5))
  else (
  Q (.exit 0) (x0 k_1) w)) := B2_eq std a_0 k_1 i_5 w k Q
theorem L2_rule (a_0 : Sl) (k_1 : Int) (i_5 : Int) (w : World) (Q : Exit → Env → World → Prop) (I : Int → Int → World → Prop) (μ : Int → Int → World → Nat) (h0 : I k_1 i_5 w)
    (h : ∀ (k_1 : Int) (i_5 : Int) (w' : World), I k_1 i_5 w' → B2 std a_0 k_1 i_5 w' (fun e2 w2 => ∃ k_1_n i_5_n, e2 = emb2 a_0 k_1_n i_5_n ∧ I k_1_n i_5_n w2 ∧ μ k_1_n i_5_n w2 < μ k_1 i_5 w') Q) :
    L2 std a_0 k_1 i_5 w Q := by
  unfold L2
  refine LoopE.intro (σ := Int × Int) (step := S2 std Q) (fun s => emb2 a_0 s.1 s.2) (fun s w => I s.1 s.2 w) (fun s w => μ s.1 s.2 w) (k_1, i_5) rfl h0 ?_
  intro s w' hI
  have h1 := h s.1 s.2 w' hI
  unfold B2 at h1
  simp only [Prod.exists]
  exact h1
theorem A2_0_eq (pr : Prims) (k_1 : Int) (w : World) (R : Ending → World → Prop) : (q1 pr R) (.exit 0) (x0 k_1) w = (
  R (.returned (vI k_1)) w) := by kernel_rfl
theorem A2_0_s (k_1 : Int) (w : World) (R : Ending → World → Prop) : (q1 std R) (.exit 0) (x0 k_1) w = (
  R (.returned (vI k_1)) w) := A2_0_eq std k_1 w R
theorem R2_eq (pr : Prims) (v4 : Value) (w : World) (R : Ending → World → Prop) : (q1 pr R) .ret [(4, v4)] w = (
  R (.returned (v4)) w) := by kernel_rfl
theorem R2_s (v4 : Value) (w : World) (R : Ending → World → Prop) : (q1 std R) .ret [(4, v4)] w = (
  R (.returned (v4)) w) := R2_eq std v4 w R
theorem E_eq (pr : Prims) (a_0 : Sl) (k_1 : Int) (w : World) (R : Ending → World → Prop) : E pr a_0 k_1 w R = (
  L2 pr a_0 k_1 0 w (q1 pr R)) := by kernel_rfl
theorem E_s (a_0 : Sl) (k_1 : Int) (w : World) (R : Ending → World → Prop) : E std a_0 k_1 w R = (
  L2 std a_0 k_1 0 w (q1 std R)) := E_eq std a_0 k_1 w R
theorem drawsOk : drawsOk PP cfg okD (codeOf Try.f26) = true := by kernel_rfl
theorem calls (a_0 : Sl) (k_1 : Int) {w : World} {R : Ending → World → Prop} (h : E std a_0 k_1 w R) : Calls PP F.laws_heldIntSS #[Sl.v a_0, vI k_1] w R :=
  calls_of noCount mixed drawOk Try.func26 rfl (c := cfg) (args := [Sl.v a_0, vI k_1]) rfl (Nat.le_of_ble_eq_true (by kernel_rfl)) drawsOk h
end laws_heldIntSS

namespace laws_FnExactFormOf
@[reducible] def cfg : Cfg := ⟨69, [], [], [], [2], [], [17, 24, 21, 26, 65, 27, 91, 60, 78], [86, 52]⟩
def E (pr : Prims) (aT_0 : Sl) (w : World) (R : Ending → World → Prop) : Prop :=
  wpC pr PP cfg (DD pr) (codeOf Try.f9) (retQ Try.f9.results.toList R) (argE 0 [Sl.v aT_0]) w
theorem E_eq (pr : Prims) (aT_0 : Sl) (w : World) (R : Ending → World → Prop) : E pr aT_0 w R = (
  pr.call1 (.int .i64) PP F.laws_szIntSS #[Sl.v aT_0, vI 1048576] w fun (ρ0 : Int) ω1 =>
  bif decide (ρ0 < 0) then (
  R (.returned (.bool true)) ω1)
  else (
  pr.call1 .sl PP F.laws_toIntSS #[Sl.v aT_0] ω1 fun (ρ2 : Sl) ω3 =>
  pr.call1 .sl PP F.spec_FormOf #[Sl.v ρ2] ω3 fun (ρ4 : Sl) ω5 =>
  pr.call1 .sl PP F.laws_toIntSS #[Sl.v aT_0] ω5 fun (ρ6 : Sl) ω7 =>
  pr.call1 .sl PP F.impl_FormOf #[Sl.v ρ6] ω7 fun (ρ8 : Sl) ω9 =>
  pr.call1 .bool PP F.laws_eqIntS #[Sl.v ρ8, Sl.v ρ4] ω9 fun (ρ10 : Bool) ω11 =>
  bif !ρ10 then (
  R (.returned (.bool false)) ω11)
  else (
  pr.call1 .sl PP F.laws_toIntSS #[Sl.v aT_0] ω11 fun (ρ12 : Sl) ω13 =>
  pr.call1 .bool PP F.laws_eqIntSS #[Sl.v ρ6, Sl.v ρ12] ω13 fun (ρ14 : Bool) ω15 =>
  bif !ρ14 then (
  R (.returned (.bool false)) ω15)
  else (
  pr.call1 (.int .i64) PP F.laws_markIntSS #[Sl.v ρ6, vI 1] ω15 fun (ρ16 : Int) ω17 =>
  bif decide (ρ16 < 0) then (
  R (.returned (.bool false)) ω17)
  else (
  pr.call1 .bool PP F.laws_eqIntS #[Sl.v ρ8, Sl.v ρ4] ω17 fun (ρ18 : Bool) ω19 =>
  bif !ρ18 then (
  R (.returned (.bool false)) ω19)
  else (
  pr.call1 (.int .i64) PP F.laws_markIntS #[Sl.v ρ8, vI 1] ω19 fun (ρ20 : Int) ω21 =>
  pr.call1 (.int .i64) PP F.laws_heldIntS #[Sl.v ρ8, vI 1] ω21 fun (ρ22 : Int) ω23 =>
  bif decide (ρ22 < 0) then (
  R (.returned (.bool false)) ω23)
  else (
  bif ρ22 != ρ20 then (
  R (.returned (.bool false)) ω23)
  else (
  pr.call1 .sl PP F.laws_toIntSS #[Sl.v aT_0] ω23 fun (ρ24 : Sl) ω25 =>
  pr.call1 .sl PP F.impl_FormOf #[Sl.v ρ24] ω25 fun (ρ26 : Sl) ω27 =>
  pr.call1 .bool PP F.laws_eqIntS #[Sl.v ρ26, Sl.v ρ4] ω27 fun (ρ28 : Bool) ω29 =>
  bif !ρ28 then (
  R (.returned (.bool false)) ω29)
  else (
  pr.call1 (.int .i64) PP F.laws_heldIntS #[Sl.v ρ8, vI 1] ω29 fun (ρ30 : Int) ω31 =>
  bif decide (ρ30 < 0) then (
  R (.returned (.bool false)) ω31)
  else (
  bif ρ30 != ρ20 then (
  R (.returned (.bool false)) ω31)
  else (
  R (.returned (.bool true)) ω31))))))))))) := by kernel_rfl
theorem E_s (aT_0 : Sl) (w : World) (R : Ending → World → Prop) : E std aT_0 w R = (
  call1 (.int .i64) PP F.laws_szIntSS #[Sl.v aT_0, vI 1048576] w fun (ρ0 : Int) ω1 =>
  bif decide (ρ0 < 0) then (
  R (.returned (.bool true)) ω1)
  else (
  call1 .sl PP F.laws_toIntSS #[Sl.v aT_0] ω1 fun (ρ2 : Sl) ω3 =>
  call1 .sl PP F.spec_FormOf #[Sl.v ρ2] ω3 fun (ρ4 : Sl) ω5 =>
  call1 .sl PP F.laws_toIntSS #[Sl.v aT_0] ω5 fun (ρ6 : Sl) ω7 =>
  call1 .sl PP F.impl_FormOf #[Sl.v ρ6] ω7 fun (ρ8 : Sl) ω9 =>
  call1 .bool PP F.laws_eqIntS #[Sl.v ρ8, Sl.v ρ4] ω9 fun (ρ10 : Bool) ω11 =>
  bif !ρ10 then (
  R (.returned (.bool false)) ω11)
  else (
  call1 .sl PP F.laws_toIntSS #[Sl.v aT_0] ω11 fun (ρ12 : Sl) ω13 =>
  call1 .bool PP F.laws_eqIntSS #[Sl.v ρ6, Sl.v ρ12] ω13 fun (ρ14 : Bool) ω15 =>
  bif !ρ14 then (
  R (.returned (.bool false)) ω15)
  else (
  call1 (.int .i64) PP F.laws_markIntSS #[Sl.v ρ6, vI 1] ω15 fun (ρ16 : Int) ω17 =>
  bif decide (ρ16 < 0) then (
  R (.returned (.bool false)) ω17)
  else (
  call1 .bool PP F.laws_eqIntS #[Sl.v ρ8, Sl.v ρ4] ω17 fun (ρ18 : Bool) ω19 =>
  bif !ρ18 then (
  R (.returned (.bool false)) ω19)
  else (
  call1 (.int .i64) PP F.laws_markIntS #[Sl.v ρ8, vI 1] ω19 fun (ρ20 : Int) ω21 =>
  call1 (.int .i64) PP F.laws_heldIntS #[Sl.v ρ8, vI 1] ω21 fun (ρ22 : Int) ω23 =>
  bif decide (ρ22 < 0) then (
  R (.returned (.bool false)) ω23)
  else (
  bif ρ22 != ρ20 then (
  R (.returned (.bool false)) ω23)
  else (
  call1 .sl PP F.laws_toIntSS #[Sl.v aT_0] ω23 fun (ρ24 : Sl) ω25 =>
  call1 .sl PP F.impl_FormOf #[Sl.v ρ24] ω25 fun (ρ26 : Sl) ω27 =>
  call1 .bool PP F.laws_eqIntS #[Sl.v ρ26, Sl.v ρ4] ω27 fun (ρ28 : Bool) ω29 =>
  bif !ρ28 then (
  R (.returned (.bool false)) ω29)
  else (
  call1 (.int .i64) PP F.laws_heldIntS #[Sl.v ρ8, vI 1] ω29 fun (ρ30 : Int) ω31 =>
  bif decide (ρ30 < 0) then (
  R (.returned (.bool false)) ω31)
  else (
  bif ρ30 != ρ20 then (
  R (.returned (.bool false)) ω31)
  else (
  R (.returned (.bool true)) ω31))))))))))) := E_eq std aT_0 w R
theorem drawsOk : drawsOk PP cfg okD (codeOf Try.f9) = true := by kernel_rfl
theorem calls (aT_0 : Sl) {w : World} {R : Ending → World → Prop} (h : E std aT_0 w R) : Calls PP F.laws_FnExactFormOf #[Sl.v aT_0] w R :=
  calls_of noCount mixed drawOk Try.func9 rfl (c := cfg) (args := [Sl.v aT_0]) rfl (Nat.le_of_ble_eq_true (by kernel_rfl)) drawsOk h
end laws_FnExactFormOf

namespace impl_FormOf
@[reducible] def cfg : Cfg := ⟨8, [], [], [], [2], [], [17, 24, 21, 26, 65, 27, 91, 60, 78], [86, 52]⟩
def E (pr : Prims) (t_0 : Sl) (w : World) (R : Ending → World → Prop) : Prop :=
  wpC pr PP cfg (DD pr) (codeOf Try.f39) (retQ Try.f39.results.toList R) (argE 0 [Sl.v t_0]) w
theorem E_eq (pr : Prims) (t_0 : Sl) (w : World) (R : Ending → World → Prop) : E pr t_0 w R = (
  pr.call1 .bool PP F.impl_IsTableau #[Sl.v t_0] w fun (ρ0 : Bool) ω1 =>
  bif !ρ0 then (
  R (.returned (Sl.v Sl.nil)) ω1)
  else (
  pr.call1 .sl PP F.impl_form #[Sl.v t_0] ω1 fun (ρ2 : Sl) ω3 =>
  R (.returned (Sl.v ρ2)) ω3)) := by kernel_rfl
theorem E_s (t_0 : Sl) (w : World) (R : Ending → World → Prop) : E std t_0 w R = (
  call1 .bool PP F.impl_IsTableau #[Sl.v t_0] w fun (ρ0 : Bool) ω1 =>
  bif !ρ0 then (
  R (.returned (Sl.v Sl.nil)) ω1)
  else (
  call1 .sl PP F.impl_form #[Sl.v t_0] ω1 fun (ρ2 : Sl) ω3 =>
  R (.returned (Sl.v ρ2)) ω3)) := E_eq std t_0 w R
theorem drawsOk : drawsOk PP cfg okD (codeOf Try.f39) = true := by kernel_rfl
theorem calls (t_0 : Sl) {w : World} {R : Ending → World → Prop} (h : E std t_0 w R) : Calls PP F.impl_FormOf #[Sl.v t_0] w R :=
  calls_of noCount mixed drawOk Try.func39 rfl (c := cfg) (args := [Sl.v t_0]) rfl (Nat.le_of_ble_eq_true (by kernel_rfl)) drawsOk h
end impl_FormOf

namespace spec_FormOf
@[reducible] def cfg : Cfg := ⟨9, [], [], [], [2], [], [17, 24, 21, 26, 65, 27, 91, 60, 78], [86, 52]⟩
def E (pr : Prims) (t_0 : Sl) (w : World) (R : Ending → World → Prop) : Prop :=
  wpC pr PP cfg (DD pr) (codeOf Try.f38) (retQ Try.f38.results.toList R) (argE 0 [Sl.v t_0]) w
theorem E_eq (pr : Prims) (t_0 : Sl) (w : World) (R : Ending → World → Prop) : E pr t_0 w R = (
  pr.call1 .bool PP F.spec_IsTableau #[Sl.v t_0] w fun (ρ0 : Bool) ω1 =>
  bif !ρ0 then (
  pr.sem1 .sl PP (Instr.buildSlice T_Sint 0 #[]) ω1 fun (ρ2 : Sl) ω3 =>
  R (.returned (Sl.v ρ2)) ω3)
  else (
  pr.call1 .sl PP F.spec_l19Lengths #[Sl.v t_0] ω1 fun (ρ4 : Sl) ω5 =>
  R (.returned (Sl.v ρ4)) ω5)) := by kernel_rfl
theorem E_s (t_0 : Sl) (w : World) (R : Ending → World → Prop) : E std t_0 w R = (
  call1 .bool PP F.spec_IsTableau #[Sl.v t_0] w fun (ρ0 : Bool) ω1 =>
  bif !ρ0 then (
  sem1 .sl PP (Instr.buildSlice T_Sint 0 #[]) ω1 fun (ρ2 : Sl) ω3 =>
  R (.returned (Sl.v ρ2)) ω3)
  else (
  call1 .sl PP F.spec_l19Lengths #[Sl.v t_0] ω1 fun (ρ4 : Sl) ω5 =>
  R (.returned (Sl.v ρ4)) ω5)) := E_eq std t_0 w R
theorem drawsOk : drawsOk PP cfg okD (codeOf Try.f38) = true := by kernel_rfl
theorem calls (t_0 : Sl) {w : World} {R : Ending → World → Prop} (h : E std t_0 w R) : Calls PP F.spec_FormOf #[Sl.v t_0] w R :=
  calls_of noCount mixed drawOk Try.func38 rfl (c := cfg) (args := [Sl.v t_0]) rfl (Nat.le_of_ble_eq_true (by kernel_rfl)) drawsOk h
end spec_FormOf

namespace impl_form
@[reducible] def cfg : Cfg := ⟨20, [(3, [3, 7, 8, 9])], [(1, [3, 7, 8, 9]), (0, [3])], [], [2], [], [17, 24, 21, 26, 65, 27, 91, 60, 78], [86, 52]⟩
def q2 (pr : Prims) (R : Ending → World → Prop) : Exit → Env → World → Prop := fun ex e w => normQ ex (fun e w => contE pr cfg (sub (codeOf Try.f67) [1, 1, 1]) (fun e w => wpC pr PP cfg (DD pr) (sub (codeOf Try.f67) [1, 1, 1]) (retQ Try.f67.results.toList R) e w) e w) (retQ Try.f67.results.toList R) e w
def q3 (pr : Prims) (R : Ending → World → Prop) : Exit → Env → World → Prop := fun ex e w => blockQ ex 0 (q2 pr R) e w
def emb3 (out_3 : Sl) (t7 : Sl) (t8 : Int) (t9 : Int) : Env := [(3, Sl.v out_3), (7, Sl.v t7), (8, vI t8), (9, vI t9)]
def x0 (out_3 : Sl) : Env := [(3, Sl.v out_3)]
def S3 (pr : Prims) (Q : Exit → Env → World → Prop) : (Env → World → Prop) → Env → World → Prop := fun k e w => wpC pr PP cfg (DD pr) (sub (codeOf Try.f67) [1, 1, 0, 1, 0, 0]) (fun ex e w => normQ ex (fun e' w' => k (Env.restr e' (lookN cfg.loops (keyOf (sub (codeOf Try.f67) [1, 1, 0, 1, 0, 0])))) w') Q e w) e w
def B3 (pr : Prims) (out_3 : Sl) (t7 : Sl) (t8 : Int) (t9 : Int) (w : World) (k : Env → World → Prop) (Q : Exit → Env → World → Prop) : Prop :=
  S3 pr Q k (emb3 out_3 t7 t8 t9) w
def L3 (pr : Prims) (out_3 : Sl) (t7 : Sl) (t8 : Int) (t9 : Int) (w : World) (Q : Exit → Env → World → Prop) : Prop :=
  pr.loop (S3 pr Q) (emb3 out_3 t7 t8 t9) w
def E (pr : Prims) (t_0 : Sl) (w : World) (R : Ending → World → Prop) : Prop :=
  wpC pr PP cfg (DD pr) (codeOf Try.f67) (retQ Try.f67.results.toList R) (argE 0 [Sl.v t_0]) w
theorem B3_eq (pr : Prims) (out_3 : Sl) (t7 : Sl) (t8 : Int) (t9 : Int) (w : World) (k : Env → World → Prop) (Q : Exit → Env → World → Prop) : B3 pr out_3 t7 t8 t9 w k Q = (
  bif decide (t9 < t8) then (
  pr.idxK 1 t7 t9 fun (a4 : Addr) =>
  pr.load1 .sl a4 w fun (ξ5 : Sl) =>
  pr.sem1 .sl PP (Instr.buildSlice T_Sint 1 #[(0, vI (ξ5.n : Int))]) w fun (ρ6 : Sl) ω7 =>
  pr.sem1 .sl PP (Builtin.append_ #[T_Sint, T_Sint] T_Sint #[Sl.v out_3, Sl.v ρ6]) ω7 fun (ρ8 : Sl) ω9 =>
  k (emb3 ρ8 t7 t8 (w64 (t9 + 1))) ω9)
  else (
  Q (.exit 0) (x0 out_3) w)) := by kernel_rfl
theorem B3_s (out_3 : Sl) (t7 : Sl) (t8 : Int) (t9 : Int) (w : World) (k : Env → World → Prop) (Q : Exit → Env → World → Prop) : B3 std out_3 t7 t8 t9 w k Q = (
  bif decide (t9 < t8) then (
  idxK 1 t7 t9 fun (a4 : Addr) =>
  load1 .sl a4 w fun (ξ5 : Sl) =>
  sem1 .sl PP (Instr.buildSlice T_Sint 1 #[(0, vI (ξ5.n : Int))]) w fun (ρ6 : Sl) ω7 =>
  sem1 .sl PP (Builtin.append_ #[T_Sint, T_Sint] T_Sint #[Sl.v out_3, Sl.v ρ6]) ω7 fun (ρ8 : Sl) ω9 =>
  k (emb3 ρ8 t7 t8 (w64 (t9 + 1))) ω9)
  else (
  Q (.exit 0) (x0 out_3) w)) := B3_eq std out_3 t7 t8 t9 w k Q
theorem L3_rule (out_3 : Sl) (t7 : Sl) (t8 : Int) (t9 : Int) (w : World) (Q : Exit → Env → World → Prop) (I : Sl → Int → World → Prop) (μ : Sl → Int → World → Nat) (h0 : I out_3 t9 w)
    (h : ∀ (out_3 : Sl) (t9 : Int) (w' : World), I out_3 t9 w' → B3 std out_3 t7 t8 t9 w' (fun e2 w2 => ∃ out_3_n t9_n, e2 = emb3 out_3_n t7 t8 t9_n ∧ I out_3_n t9_n w2 ∧ μ out_3_n t9_n w2 < μ out_3 t9 w') Q) :
    L3 std out_3 t7 t8 t9 w Q := by
  unfold L3
  refine LoopE.intro (σ := Sl × Int) (step := S3 std Q) (fun s => emb3 s.1 t7 t8 s.2) (fun s w => I s.1 s.2 w) (fun s w => μ s.1 s.2 w) (out_3, t9) rfl h0 ?_
  intro s w' hI
  have h1 := h s.1 s.2 w' hI
  unfold B3 at h1
  simp only [Prod.exists]
  exact h1
theorem A3_0_eq (pr : Prims) (out_3 : Sl) (w : World) (R : Ending → World → Prop) : (q3 pr R) (.exit 0) (x0 out_3) w = (
  R (.returned (Sl.v out_3)) w) := by kernel_rfl
theorem A3_0_s (out_3 : Sl) (w : World) (R : Ending → World → Prop) : (q3 std R) (.exit 0) (x0 out_3) w = (
  R (.returned (Sl.v out_3)) w) := A3_0_eq std out_3 w R
theorem E_eq (pr : Prims) (t_0 : Sl) (w : World) (R : Ending → World → Prop) : E pr t_0 w R = (
  pr.sem1 .sl PP (Instr.buildSlice T_Sint 0 #[]) w fun (ρ0 : Sl) ω1 =>
  L3 pr ρ0 t_0 (t_0.n : Int) 0 ω1 (q3 pr R)) := by kernel_rfl
theorem E_s (t_0 : Sl) (w : World) (R : Ending → World → Prop) : E std t_0 w R = (
  sem1 .sl PP (Instr.buildSlice T_Sint 0 #[]) w fun (ρ0 : Sl) ω1 =>
  L3 std ρ0 t_0 (t_0.n : Int) 0 ω1 (q3 std R)) := E_eq std t_0 w R
theorem drawsOk : drawsOk PP cfg okD (codeOf Try.f67) = true := by kernel_rfl
theorem calls (t_0 : Sl) {w : World} {R : Ending → World → Prop} (h : E std t_0 w R) : Calls PP F.impl_form #[Sl.v t_0] w R :=
  calls_of noCount mixed drawOk Try.func67 rfl (c := cfg) (args := [Sl.v t_0]) rfl (Nat.le_of_ble_eq_true (by kernel_rfl)) drawsOk h
end impl_form

namespace spec_l19Lengths
@[reducible] def cfg : Cfg := ⟨21, [(3, [0, 3, 4])], [(1, [0, 3, 4]), (0, [3])], [], [2], [], [17, 24, 21, 26, 65, 27, 91, 60, 78], [86, 52]⟩
def q2 (pr : Prims) (R : Ending → World → Prop) : Exit → Env → World → Prop := fun ex e w => normQ ex (fun e w => contE pr cfg (sub (codeOf Try.f66) [1, 1, 1]) (fun e w => wpC pr PP cfg (DD pr) (sub (codeOf Try.f66) [1, 1, 1]) (retQ Try.f66.results.toList R) e w) e w) (retQ Try.f66.results.toList R) e w
def q3 (pr : Prims) (R : Ending → World → Prop) : Exit → Env → World → Prop := fun ex e w => blockQ ex 0 (q2 pr R) e w
def emb3 (t_0 : Sl) (out_3 : Sl) (k_4 : Int) : Env := [(0, Sl.v t_0), (3, Sl.v out_3), (4, vI k_4)]
def x0 (out_3 : Sl) : Env := [(3, Sl.v out_3)]
def S3 (pr : Prims) (Q : Exit → Env → World → Prop) : (Env → World → Prop) → Env → World → Prop := fun k e w => wpC pr PP cfg (DD pr) (sub (codeOf Try.f66) [1, 1, 0, 1, 0, 0]) (fun ex e w => normQ ex (fun e' w' => k (Env.restr e' (lookN cfg.loops (keyOf (sub (codeOf Try.f66) [1, 1, 0, 1, 0, 0])))) w') Q e w) e w
def B3 (pr : Prims) (t_0 : Sl) (out_3 : Sl) (k_4 : Int) (w : World) (k : Env → World → Prop) (Q : Exit → Env → World → Prop) : Prop :=
  S3 pr Q k (emb3 t_0 out_3 k_4) w
def L3 (pr : Prims) (t_0 : Sl) (out_3 : Sl) (k_4 : Int) (w : World) (Q : Exit → Env → World → Prop) : Prop :=
  pr.loop (S3 pr Q) (emb3 t_0 out_3 k_4) w
def E (pr : Prims) (t_0 : Sl) (w : World) (R : Ending → World → Prop) : Prop :=
  wpC pr PP cfg (DD pr) (codeOf Try.f66) (retQ Try.f66.results.toList R) (argE 0 [Sl.v t_0]) w
theorem B3_eq (pr : Prims) (t_0 : Sl) (out_3 : Sl) (k_4 : Int) (w : World) (k : Env → World → Prop) (Q : Exit → Env → World → Prop) : B3 pr t_0 out_3 k_4 w k Q = (
  bif decide (k_4 < (t_0.n : Int)) then (
  pr.idxK 1 t_0 k_4 fun (a4 : Addr) =>
  pr.load1 .sl a4 w fun (ξ5 : Sl) =>
  pr.sem1 .sl PP (Instr.buildSlice T_Sint 1 #[(0, vI (ξ5.n : Int))]) w fun (ρ6 : Sl) ω7 =>
  pr.sem1 .sl PP (Builtin.append_ #[T_Sint, T_Sint] T_Sint #[Sl.v out_3, Sl.v ρ6]) ω7 fun (ρ8 : Sl) ω9 =>
  k (emb3 t_0 ρ8 (w64 (k_4 + 1))) ω9)
  else (
  Q (.exit 0) (x0 out_3) w)) := by kernel_rfl
theorem B3_s (t_0 : Sl) (out_3 : Sl) (k_4 : Int) (w : World) (k : Env → World → Prop) (Q : Exit → Env → World → Prop) : B3 std t_0 out_3 k_4 w k Q = (
  bif decide (k_4 < (t_0.n : Int)) then (
  idxK 1 t_0 k_4 fun (a4 : Addr) =>
  load1 .sl a4 w fun (ξ5 : Sl) =>
  sem1 .sl PP (Instr.buildSlice T_Sint 1 #[(0, vI (ξ5.n : Int))]) w fun (ρ6 : Sl) ω7 =>
  sem1 .sl PP (Builtin.append_ #[T_Sint, T_Sint] T_Sint #[Sl.v out_3, Sl.v ρ6]) ω7 fun (ρ8 : Sl) ω9 =>
  k (emb3 t_0 ρ8 (w64 (k_4 + 1))) ω9)
  else (
  Q (.exit 0) (x0 out_3) w)) := B3_eq std t_0 out_3 k_4 w k Q
theorem L3_rule (t_0 : Sl) (out_3 : Sl) (k_4 : Int) (w : World) (Q : Exit → Env → World → Prop) (I : Sl → Int → World → Prop) (μ : Sl → Int → World → Nat) (h0 : I out_3 k_4 w)
    (h : ∀ (out_3 : Sl) (k_4 : Int) (w' : World), I out_3 k_4 w' → B3 std t_0 out_3 k_4 w' (fun e2 w2 => ∃ out_3_n k_4_n, e2 = emb3 t_0 out_3_n k_4_n ∧ I out_3_n k_4_n w2 ∧ μ out_3_n k_4_n w2 < μ out_3 k_4 w') Q) :
    L3 std t_0 out_3 k_4 w Q := by
  unfold L3
  refine LoopE.intro (σ := Sl × Int) (step := S3 std Q) (fun s => emb3 t_0 s.1 s.2) (fun s w => I s.1 s.2 w) (fun s w => μ s.1 s.2 w) (out_3, k_4) rfl h0 ?_
  intro s w' hI
  have h1 := h s.1 s.2 w' hI
  unfold B3 at h1
  simp only [Prod.exists]
  exact h1
theorem A3_0_eq (pr : Prims) (out_3 : Sl) (w : World) (R : Ending → World → Prop) : (q3 pr R) (.exit 0) (x0 out_3) w = (
  R (.returned (Sl.v out_3)) w) := by kernel_rfl
theorem A3_0_s (out_3 : Sl) (w : World) (R : Ending → World → Prop) : (q3 std R) (.exit 0) (x0 out_3) w = (
  R (.returned (Sl.v out_3)) w) := A3_0_eq std out_3 w R
theorem E_eq (pr : Prims) (t_0 : Sl) (w : World) (R : Ending → World → Prop) : E pr t_0 w R = (
  pr.sem1 .sl PP (Instr.buildSlice T_Sint 0 #[]) w fun (ρ0 : Sl) ω1 =>
  L3 pr t_0 ρ0 0 ω1 (q3 pr R)) := by kernel_rfl
theorem E_s (t_0 : Sl) (w : World) (R : Ending → World → Prop) : E std t_0 w R = (
  sem1 .sl PP (Instr.buildSlice T_Sint 0 #[]) w fun (ρ0 : Sl) ω1 =>
  L3 std t_0 ρ0 0 ω1 (q3 std R)) := E_eq std t_0 w R
theorem drawsOk : drawsOk PP cfg okD (codeOf Try.f66) = true := by kernel_rfl
theorem calls (t_0 : Sl) {w : World} {R : Ending → World → Prop} (h : E std t_0 w R) : Calls PP F.spec_l19Lengths #[Sl.v t_0] w R :=
  calls_of noCount mixed drawOk Try.func66 rfl (c := cfg) (args := [Sl.v t_0]) rfl (Nat.le_of_ble_eq_true (by kernel_rfl)) drawsOk h
end spec_l19Lengths

namespace impl_IsTableau
@[reducible] def cfg : Cfg := ⟨60, [(7, [0, 3, 4, 17, 18, 19, 24, 25, 26]), (4, [0, 17, 18, 19])], [(3, [0, 3, 4, 17, 18, 19, 24, 25, 26]), (2, [0, 17, 18, 19]), (1, [0, 17, 18, 19]), (0, [])], [], [2], [], [17, 24, 21, 26, 65, 27, 91, 60, 78], [86, 52]⟩
def q8 (pr : Prims) (R : Ending → World → Prop) : Exit → Env → World → Prop := fun ex e w => normQ ex (fun e w => contE pr cfg (sub (codeOf Try.f30) [1, 1, 1]) (fun e w => wpC pr PP cfg (DD pr) (sub (codeOf Try.f30) [1, 1, 1]) (retQ Try.f30.results.toList R) e w) e w) (retQ Try.f30.results.toList R) e w
def q9 (pr : Prims) (R : Ending → World → Prop) : Exit → Env → World → Prop := fun ex e w => blockQ ex 0 (q8 pr R) e w
def q10 (pr : Prims) (k : Env → World → Prop) (Q : Exit → Env → World → Prop) : Exit → Env → World → Prop := fun ex e w => normQ ex (fun e w => contE pr cfg (sub (codeOf Try.f30) [1, 1, 0, 1, 0, 0, 1, 1, 1]) (fun e w => wpC pr PP cfg (DD pr) (sub (codeOf Try.f30) [1, 1, 0, 1, 0, 0, 1, 1, 1]) (fun ex e w => normQ ex (fun e' w' => k (Env.restr e' (lookN cfg.loops (keyOf (sub (codeOf Try.f30) [1, 1, 0, 1, 0, 0])))) w') Q e w) e w) e w) (fun ex e w => normQ ex (fun e' w' => k (Env.restr e' (lookN cfg.loops (keyOf (sub (codeOf Try.f30) [1, 1, 0, 1, 0, 0])))) w') Q e w) e w
def q11 (pr : Prims) (k : Env → World → Prop) (Q : Exit → Env → World → Prop) : Exit → Env → World → Prop := fun ex e w => blockQ ex 1 (q10 pr k Q) e w
def q14 (pr : Prims) (k : Env → World → Prop) (Q : Exit → Env → World → Prop) : Exit → Env → World → Prop := fun ex e w => blockQ ex 2 (q11 pr k Q) e w
def emb4 (t_0 : Sl) (t17 : Sl) (t18 : Int) (t19 : Int) : Env := [(0, Sl.v t_0), (17, Sl.v t17), (18, vI t18), (19, vI t19)]
def emb7 (t_0 : Sl) (i_3 : Int) (row_4 : Sl) (t17 : Sl) (t18 : Int) (t19 : Int) (t24 : Sl) (t25 : Int) (t26 : Int) : Env := [(0, Sl.v t_0), (3, vI i_3), (4, Sl.v row_4), (17, Sl.v t17), (18, vI t18), (19, vI t19), (24, Sl.v t24), (25, vI t25), (26, vI t26)]
def x2 (t_0 : Sl) (t17 : Sl) (t18 : Int) (t19 : Int) : Env := [(0, Sl.v t_0), (17, Sl.v t17), (18, vI t18), (19, vI t19)]
def x0 : Env := []
def S7 (pr : Prims) (Q : Exit → Env → World → Prop) : (Env → World → Prop) → Env → World → Prop := fun k e w => wpC pr PP cfg (DD pr) (sub (codeOf Try.f30) [1, 1, 0, 1, 0, 0, 1, 1, 0, 0, 1, 1, 0, 0]) (fun ex e w => normQ ex (fun e' w' => k (Env.restr e' (lookN cfg.loops (keyOf (sub (codeOf Try.f30) [1, 1, 0, 1, 0, 0, 1, 1, 0, 0, 1, 1, 0, 0])))) w') Q e w) e w
def S4 (pr : Prims) (Q : Exit → Env → World → Prop) : (Env → World → Prop) → Env → World → Prop := fun k e w => wpC pr PP cfg (DD pr) (sub (codeOf Try.f30) [1, 1, 0, 1, 0, 0]) (fun ex e w => normQ ex (fun e' w' => k (Env.restr e' (lookN cfg.loops (keyOf (sub (codeOf Try.f30) [1, 1, 0, 1, 0, 0])))) w') Q e w) e w
def B7 (pr : Prims) (t_0 : Sl) (i_3 : Int) (row_4 : Sl) (t17 : Sl) (t18 : Int) (t19 : Int) (t24 : Sl) (t25 : Int) (t26 : Int) (w : World) (k : Env → World → Prop) (Q : Exit → Env → World → Prop) : Prop :=
  S7 pr Q k (emb7 t_0 i_3 row_4 t17 t18 t19 t24 t25 t26) w
def L7 (pr : Prims) (t_0 : Sl) (i_3 : Int) (row_4 : Sl) (t17 : Sl) (t18 : Int) (t19 : Int) (t24 : Sl) (t25 : Int) (t26 : Int) (w : World) (Q : Exit → Env → World → Prop) : Prop :=
  pr.loop (S7 pr Q) (emb7 t_0 i_3 row_4 t17 t18 t19 t24 t25 t26) w
def B4 (pr : Prims) (t_0 : Sl) (t17 : Sl) (t18 : Int) (t19 : Int) (w : World) (k : Env → World → Prop) (Q : Exit → Env → World → Prop) : Prop :=
  S4 pr Q k (emb4 t_0 t17 t18 t19) w
def L4 (pr : Prims) (t_0 : Sl) (t17 : Sl) (t18 : Int) (t19 : Int) (w : World) (Q : Exit → Env → World → Prop) : Prop :=
  pr.loop (S4 pr Q) (emb4 t_0 t17 t18 t19) w
def E (pr : Prims) (t_0 : Sl) (w : World) (R : Ending → World → Prop) : Prop :=
  wpC pr PP cfg (DD pr) (codeOf Try.f30) (retQ Try.f30.results.toList R) (argE 0 [Sl.v t_0]) w
theorem B7_eq (pr : Prims) (t_0 : Sl) (i_3 : Int) (row_4 : Sl) (t17 : Sl) (t18 : Int) (t19 : Int) (t24 : Sl) (t25 : Int) (t26 : Int) (w : World) (k : Env → World → Prop) (Q : Exit → Env → World → Prop) : B7 pr t_0 i_3 row_4 t17 t18 t19 t24 t25 t26 w k Q = (
  bif decide (t26 < t25) then (
  pr.idxK 1 t24 t26 fun (a15 : Addr) =>
  pr.load1 (.int .i64) a15 w fun (ξ16 : Int) =>
  bif decide (t26 > 0) then (
  pr.idxK 1 row_4 (w64 (t26 - 1)) fun (a17 : Addr) =>
  pr.load1 (.int .i64) a17 w fun (ξ18 : Int) =>
  bif decide (ξ18 > ξ16) then (
  Q .ret [(2, .bool false)] w)
  else (
  bif decide (i_3 > 0) then (
  pr.idxK 1 t_0 (w64 (i_3 - 1)) fun (a19 : Addr) =>
  pr.load1 .sl a19 w fun (ξ20 : Sl) =>
  pr.idxK 1 ξ20 t26 fun (a21 : Addr) =>
  pr.load1 (.int .i64) a21 w fun (ξ22 : Int) =>
  bif decide (ξ22 > ξ16) then (
  Q .ret [(2, .bool false)] w)
  else (
  k (emb7 t_0 i_3 row_4 t17 t18 t19 t24 t25 (w64 (t26 + 1))) w))
  else (
  k (emb7 t_0 i_3 row_4 t17 t18 t19 t24 t25 (w64 (t26 + 1))) w)))
  else (
  bif decide (i_3 > 0) then (
  pr.idxK 1 t_0 (w64 (i_3 - 1)) fun (a23 : Addr) =>
  pr.load1 .sl a23 w fun (ξ24 : Sl) =>
  pr.idxK 1 ξ24 t26 fun (a25 : Addr) =>
  pr.load1 (.int .i64) a25 w fun (ξ26 : Int) =>
  bif decide (ξ26 > ξ16) then (
  Q .ret [(2, .bool false)] w)
  else (
  k (emb7 t_0 i_3 row_4 t17 t18 t19 t24 t25 (w64 (t26 + 1))) w))
  else (
  k (emb7 t_0 i_3 row_4 t17 t18 t19 t24 t25 (w64 (t26 + 1))) w)))
  else (
  Q (.exit 2) (x2 t_0 t17 t18 t19) w)) := by kernel_rfl
theorem B7_s (t_0 : Sl) (i_3 : Int) (row_4 : Sl) (t17 : Sl) (t18 : Int) (t19 : Int) (t24 : Sl) (t25 : Int) (t26 : Int) (w : World) (k : Env → World → Prop) (Q : Exit → Env → World → Prop) : B7 std t_0 i_3 row_4 t17 t18 t19 t24 t25 t26 w k Q = (
  bif decide (t26 < t25) then (
  idxK 1 t24 t26 fun (a15 : Addr) =>
  load1 (.int .i64) a15 w fun (ξ16 : Int) =>
  bif decide (t26 > 0) then (
  idxK 1 row_4 (w64 (t26 - 1)) fun (a17 : Addr) =>
  load1 (.int .i64) a17 w fun (ξ18 : Int) =>
  bif decide (ξ18 > ξ16) then (
  Q .ret [(2, .bool false)] w)
  else (
  bif decide (i_3 > 0) then (
  idxK 1 t_0 (w64 (i_3 - 1)) fun (a19 : Addr) =>
  load1 .sl a19 w fun (ξ20 : Sl) =>
  idxK 1 ξ20 t26 fun (a21 : Addr) =>
  load1 (.int .i64) a21 w fun (ξ22 : Int) =>
  bif decide (ξ22 > ξ16) then (
  Q .ret [(2, .bool false)] w)
  else (
  k (emb7 t_0 i_3 row_4 t17 t18 t19 t24 t25 (w64 (t26 + 1))) w))
  else (
  k (emb7 t_0 i_3 row_4 t17 t18 t19 t24 t25 (w64 (t26 + 1))) w)))
  else (
  bif decide (i_3 > 0) then (
  idxK 1 t_0 (w64 (i_3 - 1)) fun (a23 : Addr) =>
  load1 .sl a23 w fun (ξ24 : Sl) =>
  idxK 1 ξ24 t26 fun (a25 : Addr) =>
  load1 (.int .i64) a25 w fun (ξ26 : Int) =>
  bif decide (ξ26 > ξ16) then (
  Q .ret [(2, .bool false)] w)
  else (
  k (emb7 t_0 i_3 row_4 t17 t18 t19 t24 t25 (w64 (t26 + 1))) w))
  else (
  k (emb7 t_0 i_3 row_4 t17 t18 t19 t24 t25 (w64 (t26 + 1))) w)))
  else (
  Q (.exit 2) (x2 t_0 t17 t18 t19) w)) := B7_eq std t_0 i_3 row_4 t17 t18 t19 t24 t25 t26 w k Q
theorem L7_rule (t_0 : Sl) (i_3 : Int) (row_4 : Sl) (t17 : Sl) (t18 : Int) (t19 : Int) (t24 : Sl) (t25 : Int) (t26 : Int) (w : World) (Q : Exit → Env → World → Prop) (I : Int → World → Prop) (μ : Int → World → Nat) (h0 : I t26 w)
    (h : ∀ (t26 : Int) (w' : World), I t26 w' → B7 std t_0 i_3 row_4 t17 t18 t19 t24 t25 t26 w' (fun e2 w2 => ∃ t26_n, e2 = emb7 t_0 i_3 row_4 t17 t18 t19 t24 t25 t26_n ∧ I t26_n w2 ∧ μ t26_n w2 < μ t26 w') Q) :
    L7 std t_0 i_3 row_4 t17 t18 t19 t24 t25 t26 w Q := by
  unfold L7
  refine LoopE.intro (σ := Int) (step := S7 std Q) (fun s => emb7 t_0 i_3 row_4 t17 t18 t19 t24 t25 s) (fun s w => I s w) (fun s w => μ s w) t26 rfl h0 ?_
  intro s w' hI
  have h1 := h s w' hI
  unfold B7 at h1
  exact h1
theorem A7_2_eq (pr : Prims) (t_0 : Sl) (t17 : Sl) (t18 : Int) (t19 : Int) (w : World) (k : Env → World → Prop) (Q : Exit → Env → World → Prop) : (q14 pr k Q) (.exit 2) (x2 t_0 t17 t18 t19) w = (
  k (emb4 t_0 t17 t18 (w64 (t19 + 1))) w) := by kernel_rfl
theorem A7_2_s (t_0 : Sl) (t17 : Sl) (t18 : Int) (t19 : Int) (w : World) (k : Env → World → Prop) (Q : Exit → Env → World → Prop) : (q14 std k Q) (.exit 2) (x2 t_0 t17 t18 t19) w = (
  k (emb4 t_0 t17 t18 (w64 (t19 + 1))) w) := A7_2_eq std t_0 t17 t18 t19 w k Q
theorem R7_eq (pr : Prims) (v2 : Value) (w : World) (k : Env → World → Prop) (Q : Exit → Env → World → Prop) : (q14 pr k Q) .ret [(2, v2)] w = (
  Q .ret [(2, v2)] w) := by kernel_rfl
theorem R7_s (v2 : Value) (w : World) (k : Env → World → Prop) (Q : Exit → Env → World → Prop) : (q14 std k Q) .ret [(2, v2)] w = (
  Q .ret [(2, v2)] w) := R7_eq std v2 w k Q
theorem B4_eq (pr : Prims) (t_0 : Sl) (t17 : Sl) (t18 : Int) (t19 : Int) (w : World) (k : Env → World → Prop) (Q : Exit → Env → World → Prop) : B4 pr t_0 t17 t18 t19 w k Q = (
  bif decide (t19 < t18) then (
  pr.idxK 1 t17 t19 fun (a12 : Addr) =>
  pr.load1 .sl a12 w fun (ξ13 : Sl) =>
  L7 pr t_0 t19 ξ13 t17 t18 t19 ξ13 (ξ13.n : Int) 0 w (q14 pr k Q))
  else (
  Q (.exit 0) (x0) w)) := by kernel_rfl
theorem B4_s (t_0 : Sl) (t17 : Sl) (t18 : Int) (t19 : Int) (w : World) (k : Env → World → Prop) (Q : Exit → Env → World → Prop) : B4 std t_0 t17 t18 t19 w k Q = (
  bif decide (t19 < t18) then (
  idxK 1 t17 t19 fun (a12 : Addr) =>
  load1 .sl a12 w fun (ξ13 : Sl) =>
  L7 std t_0 t19 ξ13 t17 t18 t19 ξ13 (ξ13.n : Int) 0 w (q14 std k Q))
  else (
  Q (.exit 0) (x0) w)) := B4_eq std t_0 t17 t18 t19 w k Q
theorem L4_rule (t_0 : Sl) (t17 : Sl) (t18 : Int) (t19 : Int) (w : World) (Q : Exit → Env → World → Prop) (I : Int → World → Prop) (μ : Int → World → Nat) (h0 : I t19 w)
    (h : ∀ (t19 : Int) (w' : World), I t19 w' → B4 std t_0 t17 t18 t19 w' (fun e2 w2 => ∃ t19_n, e2 = emb4 t_0 t17 t18 t19_n ∧ I t19_n w2 ∧ μ t19_n w2 < μ t19 w') Q) :
    L4 std t_0 t17 t18 t19 w Q := by
  unfold L4
  refine LoopE.intro (σ := Int) (step := S4 std Q) (fun s => emb4 t_0 t17 t18 s) (fun s w => I s w) (fun s w => μ s w) t19 rfl h0 ?_
  intro s w' hI
  have h1 := h s w' hI
  unfold B4 at h1
  exact h1
theorem A4_0_eq (pr : Prims) (w : World) (R : Ending → World → Prop) : (q9 pr R) (.exit 0) (x0) w = (
  R (.returned (.bool true)) w) := by kernel_rfl
theorem A4_0_s (w : World) (R : Ending → World → Prop) : (q9 std R) (.exit 0) (x0) w = (
  R (.returned (.bool true)) w) := A4_0_eq std w R
theorem R4_eq (pr : Prims) (v2 : Value) (w : World) (R : Ending → World → Prop) : (q9 pr R) .ret [(2, v2)] w = (
  R (.returned (v2)) w) := by kernel_rfl
theorem R4_s (v2 : Value) (w : World) (R : Ending → World → Prop) : (q9 std R) .ret [(2, v2)] w = (
  R (.returned (v2)) w) := R4_eq std v2 w R
theorem E_eq (pr : Prims) (t_0 : Sl) (w : World) (R : Ending → World → Prop) : E pr t_0 w R = (
  pr.call1 .sl PP F.impl_form #[Sl.v t_0] w fun (ρ0 : Sl) ω1 =>
  pr.call1 .bool PP F.impl_isForm #[Sl.v ρ0, vI 8] ω1 fun (ρ2 : Bool) ω3 =>
  bif !ρ2 then (
  R (.returned (.bool false)) ω3)
  else (
  pr.call1 .sl PP F.slices_Concat___int_int_ #[Sl.v t_0] ω3 fun (ρ4 : Sl) ω5 =>
  pr.call1 .bool PP F.impl_isPerm #[Sl.v ρ4] ω5 fun (ρ6 : Bool) ω7 =>
  bif !ρ6 then (
  R (.returned (.bool false)) ω7)
  else (
  L4 pr t_0 t_0 (t_0.n : Int) 0 ω7 (q9 pr R)))) := by kernel_rfl
theorem E_s (t_0 : Sl) (w : World) (R : Ending → World → Prop) : E std t_0 w R = (
  call1 .sl PP F.impl_form #[Sl.v t_0] w fun (ρ0 : Sl) ω1 =>
  call1 .bool PP F.impl_isForm #[Sl.v ρ0, vI 8] ω1 fun (ρ2 : Bool) ω3 =>
  bif !ρ2 then (
  R (.returned (.bool false)) ω3)
  else (
  call1 .sl PP F.slices_Concat___int_int_ #[Sl.v t_0] ω3 fun (ρ4 : Sl) ω5 =>
  call1 .bool PP F.impl_isPerm #[Sl.v ρ4] ω5 fun (ρ6 : Bool) ω7 =>
  bif !ρ6 then (
  R (.returned (.bool false)) ω7)
  else (
  L4 std t_0 t_0 (t_0.n : Int) 0 ω7 (q9 std R)))) := E_eq std t_0 w R
theorem drawsOk : drawsOk PP cfg okD (codeOf Try.f30) = true := by kernel_rfl
theorem calls (t_0 : Sl) {w : World} {R : Ending → World → Prop} (h : E std t_0 w R) : Calls PP F.impl_IsTableau #[Sl.v t_0] w R :=
  calls_of noCount mixed drawOk Try.func30 rfl (c := cfg) (args := [Sl.v t_0]) rfl (Nat.le_of_ble_eq_true (by kernel_rfl)) drawsOk h
end impl_IsTableau

namespace spec_IsTableau
@[reducible] def cfg : Cfg := ⟨80, [(8, [0, 3, 4, 5]), (5, [0, 3, 4])], [(3, [0, 3, 4, 5]), (2, [0, 3, 4]), (1, [0, 3, 4]), (0, [3])], [], [2], [10], [17, 24, 21, 26, 65, 27, 91, 60, 78], [86, 52]⟩
def q6 (pr : Prims) (R : Ending → World → Prop) : Exit → Env → World → Prop := fun ex e w => normQ ex (fun e w => contE pr cfg (sub (codeOf Try.f28) [1, 1, 1, 1]) (fun e w => wpC pr PP cfg (DD pr) (sub (codeOf Try.f28) [1, 1, 1, 1]) (retQ Try.f28.results.toList R) e w) e w) (retQ Try.f28.results.toList R) e w
def q7 (pr : Prims) (R : Ending → World → Prop) : Exit → Env → World → Prop := fun ex e w => blockQ ex 0 (q6 pr R) e w
def q8 (pr : Prims) (k : Env → World → Prop) (Q : Exit → Env → World → Prop) : Exit → Env → World → Prop := fun ex e w => normQ ex (fun e w => contE pr cfg (sub (codeOf Try.f28) [1, 1, 1, 0, 1, 0, 0, 1, 1]) (fun e w => wpC pr PP cfg (DD pr) (sub (codeOf Try.f28) [1, 1, 1, 0, 1, 0, 0, 1, 1]) (fun ex e w => normQ ex (fun e' w' => k (Env.restr e' (lookN cfg.loops (keyOf (sub (codeOf Try.f28) [1, 1, 1, 0, 1, 0, 0])))) w') Q e w) e w) e w) (fun ex e w => normQ ex (fun e' w' => k (Env.restr e' (lookN cfg.loops (keyOf (sub (codeOf Try.f28) [1, 1, 1, 0, 1, 0, 0])))) w') Q e w) e w
def q9 (pr : Prims) (k : Env → World → Prop) (Q : Exit → Env → World → Prop) : Exit → Env → World → Prop := fun ex e w => blockQ ex 1 (q8 pr k Q) e w
def q10 (pr : Prims) (k : Env → World → Prop) (Q : Exit → Env → World → Prop) : Exit → Env → World → Prop := fun ex e w => blockQ ex 2 (q9 pr k Q) e w
def emb5 (t_0 : Sl) (all_3 : Sl) (r_4 : Int) : Env := [(0, Sl.v t_0), (3, Sl.v all_3), (4, vI r_4)]
def emb8 (t_0 : Sl) (all_3 : Sl) (r_4 : Int) (c_5 : Int) : Env := [(0, Sl.v t_0), (3, Sl.v all_3), (4, vI r_4), (5, vI c_5)]
def x2 (t_0 : Sl) (all_3 : Sl) (r_4 : Int) : Env := [(0, Sl.v t_0), (3, Sl.v all_3), (4, vI r_4)]
def x0 (all_3 : Sl) : Env := [(3, Sl.v all_3)]
def S8 (pr : Prims) (Q : Exit → Env → World → Prop) : (Env → World → Prop) → Env → World → Prop := fun k e w => wpC pr PP cfg (DD pr) (sub (codeOf Try.f28) [1, 1, 1, 0, 1, 0, 0, 1, 0, 0, 1, 0, 0]) (fun ex e w => normQ ex (fun e' w' => k (Env.restr e' (lookN cfg.loops (keyOf (sub (codeOf Try.f28) [1, 1, 1, 0, 1, 0, 0, 1, 0, 0, 1, 0, 0])))) w') Q e w) e w
def S5 (pr : Prims) (Q : Exit → Env → World → Prop) : (Env → World → Prop) → Env → World → Prop := fun k e w => wpC pr PP cfg (DD pr) (sub (codeOf Try.f28) [1, 1, 1, 0, 1, 0, 0]) (fun ex e w => normQ ex (fun e' w' => k (Env.restr e' (lookN cfg.loops (keyOf (sub (codeOf Try.f28) [1, 1, 1, 0, 1, 0, 0])))) w') Q e w) e w
def B8 (pr : Prims) (t_0 : Sl) (all_3 : Sl) (r_4 : Int) (c_5 : Int) (w : World) (k : Env → World → Prop) (Q : Exit → Env → World → Prop) : Prop :=
  S8 pr Q k (emb8 t_0 all_3 r_4 c_5) w
def L8 (pr : Prims) (t_0 : Sl) (all_3 : Sl) (r_4 : Int) (c_5 : Int) (w : World) (Q : Exit → Env → World → Prop) : Prop :=
  pr.loop (S8 pr Q) (emb8 t_0 all_3 r_4 c_5) w
def B5 (pr : Prims) (t_0 : Sl) (all_3 : Sl) (r_4 : Int) (w : World) (k : Env → World → Prop) (Q : Exit → Env → World → Prop) : Prop :=
  S5 pr Q k (emb5 t_0 all_3 r_4) w
def L5 (pr : Prims) (t_0 : Sl) (all_3 : Sl) (r_4 : Int) (w : World) (Q : Exit → Env → World → Prop) : Prop :=
  pr.loop (S5 pr Q) (emb5 t_0 all_3 r_4) w
def E (pr : Prims) (t_0 : Sl) (w : World) (R : Ending → World → Prop) : Prop :=
  wpC pr PP cfg (DD pr) (codeOf Try.f28) (retQ Try.f28.results.toList R) (argE 0 [Sl.v t_0]) w
theorem B8_eq (pr : Prims) (t_0 : Sl) (all_3 : Sl) (r_4 : Int) (c_5 : Int) (w : World) (k : Env → World → Prop) (Q : Exit → Env → World → Prop) : B8 pr t_0 all_3 r_4 c_5 w k Q = (
  pr.idxK 1 t_0 r_4 fun (a11 : Addr) =>
  pr.load1 .sl a11 w fun (ξ12 : Sl) =>
  bif decide (c_5 < (ξ12.n : Int)) then (
  bif decide (c_5 > 0) then (
  pr.idxK 1 t_0 r_4 fun (a13 : Addr) =>
  pr.load1 .sl a13 w fun (ξ14 : Sl) =>
  pr.idxK 1 ξ14 c_5 fun (a15 : Addr) =>
  pr.load1 (.int .i64) a15 w fun (ξ16 : Int) =>
  pr.idxK 1 t_0 r_4 fun (a17 : Addr) =>
  pr.load1 .sl a17 w fun (ξ18 : Sl) =>
  pr.idxK 1 ξ18 (w64 (c_5 - 1)) fun (a19 : Addr) =>
  pr.load1 (.int .i64) a19 w fun (ξ20 : Int) =>
  bif decide (ξ16 ≤ ξ20) then (
  pr.drewAll w fun ω21 =>
  Q .ret [(2, .bool false)] ω21)
  else (
  bif decide (r_4 > 0) then (
  pr.idxK 1 t_0 r_4 fun (a22 : Addr) =>
  pr.load1 .sl a22 w fun (ξ23 : Sl) =>
  pr.idxK 1 ξ23 c_5 fun (a24 : Addr) =>
  pr.load1 (.int .i64) a24 w fun (ξ25 : Int) =>
  pr.idxK 1 t_0 (w64 (r_4 - 1)) fun (a26 : Addr) =>
  pr.load1 .sl a26 w fun (ξ27 : Sl) =>
  pr.idxK 1 ξ27 c_5 fun (a28 : Addr) =>
  pr.load1 (.int .i64) a28 w fun (ξ29 : Int) =>
  pr.drewAll w fun ω30 =>
  bif decide (ξ25 ≤ ξ29) then (
  Q .ret [(2, .bool false)] ω30)
  else (
  pr.idxK 1 t_0 r_4 fun (a31 : Addr) =>
  pr.load1 .sl a31 ω30 fun (ξ32 : Sl) =>
  pr.idxK 1 ξ32 c_5 fun (a33 : Addr) =>
  pr.load1 (.int .i64) a33 ω30 fun (ξ34 : Int) =>
  pr.sem1 .sl PP (Instr.buildSlice T_Sint 1 #[(0, vI ξ34)]) ω30 fun (ρ35 : Sl) ω36 =>
  pr.sem1 .sl PP (Builtin.append_ #[T_Sint, T_Sint] T_Sint #[Sl.v all_3, Sl.v ρ35]) ω36 fun (ρ37 : Sl) ω38 =>
  k (emb8 t_0 ρ37 r_4 (w64 (c_5 + 1))) ω38))
  else (
  pr.drewAll w fun ω39 =>
  pr.idxK 1 t_0 r_4 fun (a40 : Addr) =>
  pr.load1 .sl a40 ω39 fun (ξ41 : Sl) =>
  pr.idxK 1 ξ41 c_5 fun (a42 : Addr) =>
  pr.load1 (.int .i64) a42 ω39 fun (ξ43 : Int) =>
  pr.sem1 .sl PP (Instr.buildSlice T_Sint 1 #[(0, vI ξ43)]) ω39 fun (ρ44 : Sl) ω45 =>
  pr.sem1 .sl PP (Builtin.append_ #[T_Sint, T_Sint] T_Sint #[Sl.v all_3, Sl.v ρ44]) ω45 fun (ρ46 : Sl) ω47 =>
  k (emb8 t_0 ρ46 r_4 (w64 (c_5 + 1))) ω47)))
  else (
  bif decide (r_4 > 0) then (
  pr.idxK 1 t_0 r_4 fun (a48 : Addr) =>
  pr.load1 .sl a48 w fun (ξ49 : Sl) =>
  pr.idxK 1 ξ49 c_5 fun (a50 : Addr) =>
  pr.load1 (.int .i64) a50 w fun (ξ51 : Int) =>
  pr.idxK 1 t_0 (w64 (r_4 - 1)) fun (a52 : Addr) =>
  pr.load1 .sl a52 w fun (ξ53 : Sl) =>
  pr.idxK 1 ξ53 c_5 fun (a54 : Addr) =>
  pr.load1 (.int .i64) a54 w fun (ξ55 : Int) =>
  pr.drewAll w fun ω56 =>
  bif decide (ξ51 ≤ ξ55) then (
  Q .ret [(2, .bool false)] ω56)
  else (
  pr.idxK 1 t_0 r_4 fun (a57 : Addr) =>
  pr.load1 .sl a57 ω56 fun (ξ58 : Sl) =>
  pr.idxK 1 ξ58 c_5 fun (a59 : Addr) =>
  pr.load1 (.int .i64) a59 ω56 fun (ξ60 : Int) =>
  pr.sem1 .sl PP (Instr.buildSlice T_Sint 1 #[(0, vI ξ60)]) ω56 fun (ρ61 : Sl) ω62 =>
  pr.sem1 .sl PP (Builtin.append_ #[T_Sint, T_Sint] T_Sint #[Sl.v all_3, Sl.v ρ61]) ω62 fun (ρ63 : Sl) ω64 =>
  k (emb8 t_0 ρ63 r_4 (w64 (c_5 + 1))) ω64))
  else (
  pr.drewAll w fun ω65 =>
  pr.idxK 1 t_0 r_4 fun (a66 : Addr) =>
  pr.load1 .sl a66 ω65 fun (ξ67 : Sl) =>
  pr.idxK 1 ξ67 c_5 fun (a68 : Addr) =>
  pr.load1 (.int .i64) a68 ω65 fun (ξ69 : Int) =>
  pr.sem1 .sl PP (Instr.buildSlice T_Sint 1 #[(0, vI ξ69)]) ω65 fun (ρ70 : Sl) ω71 =>
  pr.sem1 .sl PP (Builtin.append_ #[T_Sint, T_Sint] T_Sint #[Sl.v all_3, Sl.v ρ70]) ω71 fun (ρ72 : Sl) ω73 =>
  k (emb8 t_0 ρ72 r_4 (w64 (c_5 + 1))) ω73)))
  else (
  Q (.exit 2) (x2 t_0 all_3 r_4) w)) := by kernel_rfl
theorem B8_s (t_0 : Sl) (all_3 : Sl) (r_4 : Int) (c_5 : Int) (w : World) (k : Env → World → Prop) (Q : Exit → Env → World → Prop) : B8 std t_0 all_3 r_4 c_5 w k Q = (
  idxK 1 t_0 r_4 fun (a11 : Addr) =>
  load1 .sl a11 w fun (ξ12 : Sl) =>
  bif decide (c_5 < (ξ12.n : Int)) then (
  bif decide (c_5 > 0) then (
  idxK 1 t_0 r_4 fun (a13 : Addr) =>
  load1 .sl a13 w fun (ξ14 : Sl) =>
  idxK 1 ξ14 c_5 fun (a15 : Addr) =>
  load1 (.int .i64) a15 w fun (ξ16 : Int) =>
  idxK 1 t_0 r_4 fun (a17 : Addr) =>
  load1 .sl a17 w fun (ξ18 : Sl) =>
  idxK 1 ξ18 (w64 (c_5 - 1)) fun (a19 : Addr) =>
  load1 (.int .i64) a19 w fun (ξ20 : Int) =>
  bif decide (ξ16 ≤ ξ20) then (
  drewAll w fun ω21 =>
  Q .ret [(2, .bool false)] ω21)
  else (
  bif decide (r_4 > 0) then (
  idxK 1 t_0 r_4 fun (a22 : Addr) =>
  load1 .sl a22 w fun (ξ23 : Sl) =>
  idxK 1 ξ23 c_5 fun (a24 : Addr) =>
  load1 (.int .i64) a24 w fun (ξ25 : Int) =>
  idxK 1 t_0 (w64 (r_4 - 1)) fun (a26 : Addr) =>
  load1 .sl a26 w fun (ξ27 : Sl) =>
  idxK 1 ξ27 c_5 fun (a28 : Addr) =>
  load1 (.int .i64) a28 w fun (ξ29 : Int) =>
  drewAll w fun ω30 =>
  bif decide (ξ25 ≤ ξ29) then (
  Q .ret [(2, .bool false)] ω30)
  else (
  idxK 1 t_0 r_4 fun (a31 : Addr) =>
  load1 .sl a31 ω30 fun (ξ32 : Sl) =>
  idxK 1 ξ32 c_5 fun (a33 : Addr) =>
  load1 (.int .i64) a33 ω30 fun (ξ34 : Int) =>
  sem1 .sl PP (Instr.buildSlice T_Sint 1 #[(0, vI ξ34)]) ω30 fun (ρ35 : Sl) ω36 =>
  sem1 .sl PP (Builtin.append_ #[T_Sint, T_Sint] T_Sint #[Sl.v all_3, Sl.v ρ35]) ω36 fun (ρ37 : Sl) ω38 =>
  k (emb8 t_0 ρ37 r_4 (w64 (c_5 + 1))) ω38))
  else (
  drewAll w fun ω39 =>
  idxK 1 t_0 r_4 fun (a40 : Addr) =>
  load1 .sl a40 ω39 fun (ξ41 : Sl) =>
  idxK 1 ξ41 c_5 fun (a42 : Addr) =>
  load1 (.int .i64) a42 ω39 fun (ξ43 : Int) =>
  sem1 .sl PP (Instr.buildSlice T_Sint 1 #[(0, vI ξ43)]) ω39 fun (ρ44 : Sl) ω45 =>
  sem1 .sl PP (Builtin.append_ #[T_Sint, T_Sint] T_Sint #[Sl.v all_3, Sl.v ρ44]) ω45 fun (ρ46 : Sl) ω47 =>
  k (emb8 t_0 ρ46 r_4 (w64 (c_5 + 1))) ω47)))
  else (
  bif decide (r_4 > 0) then (
  idxK 1 t_0 r_4 fun (a48 : Addr) =>
  load1 .sl a48 w fun (ξ49 : Sl) =>
  idxK 1 ξ49 c_5 fun (a50 : Addr) =>
  load1 (.int .i64) a50 w fun (ξ51 : Int) =>
  idxK 1 t_0 (w64 (r_4 - 1)) fun (a52 : Addr) =>
  load1 .sl a52 w fun (ξ53 : Sl) =>
  idxK 1 ξ53 c_5 fun (a54 : Addr) =>
  load1 (.int .i64) a54 w fun (ξ55 : Int) =>
  drewAll w fun ω56 =>
  bif decide (ξ51 ≤ ξ55) then (
  Q .ret [(2, .bool false)] ω56)
  else (
  idxK 1 t_0 r_4 fun (a57 : Addr) =>
  load1 .sl a57 ω56 fun (ξ58 : Sl) =>
  idxK 1 ξ58 c_5 fun (a59 : Addr) =>
  load1 (.int .i64) a59 ω56 fun (ξ60 : Int) =>
  sem1 .sl PP (Instr.buildSlice T_Sint 1 #[(0, vI ξ60)]) ω56 fun (ρ61 : Sl) ω62 =>
  sem1 .sl PP (Builtin.append_ #[T_Sint, T_Sint] T_Sint #[Sl.v all_3, Sl.v ρ61]) ω62 fun (ρ63 : Sl) ω64 =>
  k (emb8 t_0 ρ63 r_4 (w64 (c_5 + 1))) ω64))
  else (
  drewAll w fun ω65 =>
  idxK 1 t_0 r_4 fun (a66 : Addr) =>
  load1 .sl a66 ω65 fun (ξ67 : Sl) =>
  idxK 1 ξ67 c_5 fun (a68 : Addr) =>
  load1 (.int .i64) a68 ω65 fun (ξ69 : Int) =>
  sem1 .sl PP (Instr.buildSlice T_Sint 1 #[(0, vI ξ69)]) ω65 fun (ρ70 : Sl) ω71 =>
  sem1 .sl PP (Builtin.append_ #[T_Sint, T_Sint] T_Sint #[Sl.v all_3, Sl.v ρ70]) ω71 fun (ρ72 : Sl) ω73 =>
  k (emb8 t_0 ρ72 r_4 (w64 (c_5 + 1))) ω73)))
  else (
  Q (.exit 2) (x2 t_0 all_3 r_4) w)) := B8_eq std t_0 all_3 r_4 c_5 w k Q
theorem L8_rule (t_0 : Sl) (all_3 : Sl) (r_4 : Int) (c_5 : Int) (w : World) (Q : Exit → Env → World → Prop) (I : Sl → Int → World → Prop) (μ : Sl → Int → World → Nat) (h0 : I all_3 c_5 w)
    (h : ∀ (all_3 : Sl) (c_5 : Int) (w' : World), I all_3 c_5 w' → B8 std t_0 all_3 r_4 c_5 w' (fun e2 w2 => ∃ all_3_n c_5_n, e2 = emb8 t_0 all_3_n r_4 c_5_n ∧ I all_3_n c_5_n w2 ∧ μ all_3_n c_5_n w2 < μ all_3 c_5 w') Q) :
    L8 std t_0 all_3 r_4 c_5 w Q := by
  unfold L8
  refine LoopE.intro (σ := Sl × Int) (step := S8 std Q) (fun s => emb8 t_0 s.1 r_4 s.2) (fun s w => I s.1 s.2 w) (fun s w => μ s.1 s.2 w) (all_3, c_5) rfl h0 ?_
  intro s w' hI
  have h1 := h s.1 s.2 w' hI
  unfold B8 at h1
  simp only [Prod.exists]
  exact h1
theorem A8_2_eq (pr : Prims) (t_0 : Sl) (all_3 : Sl) (r_4 : Int) (w : World) (k : Env → World → Prop) (Q : Exit → Env → World → Prop) : (q10 pr k Q) (.exit 2) (x2 t_0 all_3 r_4) w = (
  k (emb5 t_0 all_3 (w64 (r_4 + 1))) w) := by kernel_rfl
theorem A8_2_s (t_0 : Sl) (all_3 : Sl) (r_4 : Int) (w : World) (k : Env → World → Prop) (Q : Exit → Env → World → Prop) : (q10 std k Q) (.exit 2) (x2 t_0 all_3 r_4) w = (
  k (emb5 t_0 all_3 (w64 (r_4 + 1))) w) := A8_2_eq std t_0 all_3 r_4 w k Q
theorem R8_eq (pr : Prims) (v2 : Value) (w : World) (k : Env → World → Prop) (Q : Exit → Env → World → Prop) : (q10 pr k Q) .ret [(2, v2)] w = (
  Q .ret [(2, v2)] w) := by kernel_rfl
theorem R8_s (v2 : Value) (w : World) (k : Env → World → Prop) (Q : Exit → Env → World → Prop) : (q10 std k Q) .ret [(2, v2)] w = (
  Q .ret [(2, v2)] w) := R8_eq std v2 w k Q
theorem B5_eq (pr : Prims) (t_0 : Sl) (all_3 : Sl) (r_4 : Int) (w : World) (k : Env → World → Prop) (Q : Exit → Env → World → Prop) : B5 pr t_0 all_3 r_4 w k Q = (
  bif decide (r_4 < (t_0.n : Int)) then (
  L8 pr t_0 all_3 r_4 0 w (q10 pr k Q))
  else (
  Q (.exit 0) (x0 all_3) w)) := by kernel_rfl
theorem B5_s (t_0 : Sl) (all_3 : Sl) (r_4 : Int) (w : World) (k : Env → World → Prop) (Q : Exit → Env → World → Prop) : B5 std t_0 all_3 r_4 w k Q = (
  bif decide (r_4 < (t_0.n : Int)) then (
  L8 std t_0 all_3 r_4 0 w (q10 std k Q))
  else (
  Q (.exit 0) (x0 all_3) w)) := B5_eq std t_0 all_3 r_4 w k Q
theorem L5_rule (t_0 : Sl) (all_3 : Sl) (r_4 : Int) (w : World) (Q : Exit → Env → World → Prop) (I : Sl → Int → World → Prop) (μ : Sl → Int → World → Nat) (h0 : I all_3 r_4 w)
    (h : ∀ (all_3 : Sl) (r_4 : Int) (w' : World), I all_3 r_4 w' → B5 std t_0 all_3 r_4 w' (fun e2 w2 => ∃ all_3_n r_4_n, e2 = emb5 t_0 all_3_n r_4_n ∧ I all_3_n r_4_n w2 ∧ μ all_3_n r_4_n w2 < μ all_3 r_4 w') Q) :
    L5 std t_0 all_3 r_4 w Q := by
  unfold L5
  refine LoopE.intro (σ := Sl × Int) (step := S5 std Q) (fun s => emb5 t_0 s.1 s.2) (fun s w => I s.1 s.2 w) (fun s w => μ s.1 s.2 w) (all_3, r_4) rfl h0 ?_
  intro s w' hI
  have h1 := h s.1 s.2 w' hI
  unfold B5 at h1
  simp only [Prod.exists]
  exact h1
theorem A5_0_eq (pr : Prims) (all_3 : Sl) (w : World) (R : Ending → World → Prop) : (q7 pr R) (.exit 0) (x0 all_3) w = (
  pr.call1 .bool PP F.spec_IsPerm #[Sl.v all_3] w fun (ρ74 : Bool) ω75 =>
  R (.returned (.bool ρ74)) ω75) := by kernel_rfl
theorem A5_0_s (all_3 : Sl) (w : World) (R : Ending → World → Prop) : (q7 std R) (.exit 0) (x0 all_3) w = (
  call1 .bool PP F.spec_IsPerm #[Sl.v all_3] w fun (ρ74 : Bool) ω75 =>
  R (.returned (.bool ρ74)) ω75) := A5_0_eq std all_3 w R
theorem R5_eq (pr : Prims) (v2 : Value) (w : World) (R : Ending → World → Prop) : (q7 pr R) .ret [(2, v2)] w = (
  R (.returned (v2)) w) := by kernel_rfl
theorem R5_s (v2 : Value) (w : World) (R : Ending → World → Prop) : (q7 std R) .ret [(2, v2)] w = (
  R (.returned (v2)) w) := R5_eq std v2 w R
theorem E_eq (pr : Prims) (t_0 : Sl) (w : World) (R : Ending → World → Prop) : E pr t_0 w R = (
  pr.call1 .sl PP F.spec_l19Lengths #[Sl.v t_0] w fun (ρ0 : Sl) ω1 =>
  pr.call1 .bool PP F.spec_l19Form #[Sl.v ρ0, vI 8] ω1 fun (ρ2 : Bool) ω3 =>
  bif !ρ2 then (
  R (.returned (.bool false)) ω3)
  else (
  pr.sem1 .sl PP (Instr.buildSlice T_Sint 0 #[]) ω3 fun (ρ4 : Sl) ω5 =>
  L5 pr t_0 ρ4 0 ω5 (q7 pr R))) := by kernel_rfl
theorem E_s (t_0 : Sl) (w : World) (R : Ending → World → Prop) : E std t_0 w R = (
  call1 .sl PP F.spec_l19Lengths #[Sl.v t_0] w fun (ρ0 : Sl) ω1 =>
  call1 .bool PP F.spec_l19Form #[Sl.v ρ0, vI 8] ω1 fun (ρ2 : Bool) ω3 =>
  bif !ρ2 then (
  R (.returned (.bool false)) ω3)
  else (
  sem1 .sl PP (Instr.buildSlice T_Sint 0 #[]) ω3 fun (ρ4 : Sl) ω5 =>
  L5 std t_0 ρ4 0 ω5 (q7 std R))) := E_eq std t_0 w R
theorem drawsOk : drawsOk PP cfg okD (codeOf Try.f28) = true := by kernel_rfl
theorem calls (t_0 : Sl) {w : World} {R : Ending → World → Prop} (h : E std t_0 w R) : Calls PP F.spec_IsTableau #[Sl.v t_0] w R :=
  calls_of noCount mixed drawOk Try.func28 rfl (c := cfg) (args := [Sl.v t_0]) rfl (Nat.le_of_ble_eq_true (by kernel_rfl)) drawsOk h
end spec_IsTableau

namespace impl_PermOfPath
@[reducible] def cfg : Cfg := ⟨53, [(7, [0, 6, 7, 23, 24, 25])], [(1, [0, 6, 7, 23, 24, 25]), (0, [7])], [], [2, 3], [], [17, 24, 21, 26, 65, 27, 91, 60, 78], [86, 52]⟩
def q7 (pr : Prims) (R : Ending → World → Prop) : Exit → Env → World → Prop := fun ex e w => normQ ex (fun e w => contE pr cfg (sub (codeOf Try.f19) [1, 1, 1, 1, 1, 1]) (fun e w => wpC pr PP cfg (DD pr) (sub (codeOf Try.f19) [1, 1, 1, 1, 1, 1]) (retQ Try.f19.results.toList R) e w) e w) (retQ Try.f19.results.toList R) e w
def q8 (pr : Prims) (R : Ending → World → Prop) : Exit → Env → World → Prop := fun ex e w => blockQ ex 0 (q7 pr R) e w
def emb7 (text_0 : ByteArray) (left_6 : Sl) (out_7 : Sl) (t23 : Sl) (t24 : Int) (t25 : Int) : Env := [(0, .string text_0), (6, Sl.v left_6), (7, Sl.v out_7), (23, Sl.v t23), (24, vI t24), (25, vI t25)]
def x0 (out_7 : Sl) : Env := [(7, Sl.v out_7)]
def S7 (pr : Prims) (Q : Exit → Env → World → Prop) : (Env → World → Prop) → Env → World → Prop := fun k e w => wpC pr PP cfg (DD pr) (sub (codeOf Try.f19) [1, 1, 1, 1, 1, 0, 1, 0, 0]) (fun ex e w => normQ ex (fun e' w' => k (Env.restr e' (lookN cfg.loops (keyOf (sub (codeOf Try.f19) [1, 1, 1, 1, 1, 0, 1, 0, 0])))) w') Q e w) e w
def B7 (pr : Prims) (text_0 : ByteArray) (left_6 : Sl) (out_7 : Sl) (t23 : Sl) (t24 : Int) (t25 : Int) (w : World) (k : Env → World → Prop) (Q : Exit → Env → World → Prop) : Prop :=
  S7 pr Q k (emb7 text_0 left_6 out_7 t23 t24 t25) w
def L7 (pr : Prims) (text_0 : ByteArray) (left_6 : Sl) (out_7 : Sl) (t23 : Sl) (t24 : Int) (t25 : Int) (w : World) (Q : Exit → Env → World → Prop) : Prop :=
  pr.loop (S7 pr Q) (emb7 text_0 left_6 out_7 t23 t24 t25) w
def E (pr : Prims) (text_0 : ByteArray) (w : World) (R : Ending → World → Prop) : Prop :=
  wpC pr PP cfg (DD pr) (codeOf Try.f19) (retQ Try.f19.results.toList R) (argE 0 [.string text_0]) w
theorem B7_eq (pr : Prims) (text_0 : ByteArray) (left_6 : Sl) (out_7 : Sl) (t23 : Sl) (t24 : Int) (t25 : Int) (w : World) (k : Env → World → Prop) (Q : Exit → Env → World → Prop) : B7 pr text_0 left_6 out_7 t23 t24 t25 w k Q = (
  bif decide (t25 < t24) then (
  pr.idxK 1 t23 t25 fun (a9 : Addr) =>
  pr.load1 (.int .i64) a9 w fun (ξ10 : Int) =>
  pr.strIdxK text_0 t25 fun (b11 : Int) =>
  bif b11 == 68 then (
  pr.idxK 1 left_6 (w64 ((w64 ((left_6.n : Int) - 1)) - ξ10)) fun (a12 : Addr) =>
  pr.load1 (.int .i64) a12 w fun (ξ13 : Int) =>
  pr.sem1 .sl PP (Instr.buildSlice T_Sint 1 #[(0, vI ξ13)]) w fun (ρ14 : Sl) ω15 =>
  pr.sem1 .sl PP (Builtin.append_ #[T_Sint, T_Sint] T_Sint #[Sl.v out_7, Sl.v ρ14]) ω15 fun (ρ16 : Sl) ω17 =>
  pr.call1 .sl PP F.slices_Delete___int_int_ #[Sl.v left_6, vI (w64 ((w64 ((left_6.n : Int) - 1)) - ξ10)), vI (w64 ((w64 ((w64 ((left_6.n : Int) - 1)) - ξ10)) + 1))] ω17 fun (ρ18 : Sl) ω19 =>
  k (emb7 text_0 ρ18 ρ16 t23 t24 (w64 (t25 + 1))) ω19)
  else (
  k (emb7 text_0 left_6 out_7 t23 t24 (w64 (t25 + 1))) w))
  else (
  Q (.exit 0) (x0 out_7) w)) := by kernel_rfl
theorem B7_s (text_0 : ByteArray) (left_6 : Sl) (out_7 : Sl) (t23 : Sl) (t24 : Int) (t25 : Int) (w : World) (k : Env → World → Prop) (Q : Exit → Env → World → Prop) : B7 std text_0 left_6 out_7 t23 t24 t25 w k Q = (
  bif decide (t25 < t24) then (
  idxK 1 t23 t25 fun (a9 : Addr) =>
  load1 (.int .i64) a9 w fun (ξ10 : Int) =>
  strIdxK text_0 t25 fun (b11 : Int) =>
  bif b11 == 68 then (
  idxK 1 left_6 (w64 ((w64 ((left_6.n : Int) - 1)) - ξ10)) fun (a12 : Addr) =>
  load1 (.int .i64) a12 w fun (ξ13 : Int) =>
  sem1 .sl PP (Instr.buildSlice T_Sint 1 #[(0, vI ξ13)]) w fun (ρ14 : Sl) ω15 =>
  sem1 .sl PP (Builtin.append_ #[T_Sint, T_Sint] T_Sint #[Sl.v out_7, Sl.v ρ14]) ω15 fun (ρ16 : Sl) ω17 =>
  call1 .sl PP F.slices_Delete___int_int_ #[Sl.v left_6, vI (w64 ((w64 ((left_6.n : Int) - 1)) - ξ10)), vI (w64 ((w64 ((w64 ((left_6.n : Int) - 1)) - ξ10)) + 1))] ω17 fun (ρ18 : Sl) ω19 =>
  k (emb7 text_0 ρ18 ρ16 t23 t24 (w64 (t25 + 1))) ω19)
  else (
  k (emb7 text_0 left_6 out_7 t23 t24 (w64 (t25 + 1))) w))
  else (
  Q (.exit 0) (x0 out_7) w)) := B7_eq std text_0 left_6 out_7 t23 t24 t25 w k Q
theorem L7_rule (text_0 : ByteArray) (left_6 : Sl) (out_7 : Sl) (t23 : Sl) (t24 : Int) (t25 : Int) (w : World) (Q : Exit → Env → World → Prop) (I : Sl → Sl → Int → World → Prop) (μ : Sl → Sl → Int → World → Nat) (h0 : I left_6 out_7 t25 w)
    (h : ∀ (left_6 : Sl) (out_7 : Sl) (t25 : Int) (w' : World), I left_6 out_7 t25 w' → B7 std text_0 left_6 out_7 t23 t24 t25 w' (fun e2 w2 => ∃ left_6_n out_7_n t25_n, e2 = emb7 text_0 left_6_n out_7_n t23 t24 t25_n ∧ I left_6_n out_7_n t25_n w2 ∧ μ left_6_n out_7_n t25_n w2 < μ left_6 out_7 t25 w') Q) :
    L7 std text_0 left_6 out_7 t23 t24 t25 w Q := by
  unfold L7
  refine LoopE.intro (σ := Sl × Sl × Int) (step := S7 std Q) (fun s => emb7 text_0 s.1 s.2.1 t23 t24 s.2.2) (fun s w => I s.1 s.2.1 s.2.2 w) (fun s w => μ s.1 s.2.1 s.2.2 w) (left_6, out_7, t25) rfl h0 ?_
  intro s w' hI
  have h1 := h s.1 s.2.1 s.2.2 w' hI
  unfold B7 at h1
  simp only [Prod.exists]
  exact h1
theorem A7_0_eq (pr : Prims) (out_7 : Sl) (w : World) (R : Ending → World → Prop) : (q8 pr R) (.exit 0) (x0 out_7) w = (
  R (.returned (.tuple #[Sl.v out_7, .bool true])) w) := by kernel_rfl
theorem A7_0_s (out_7 : Sl) (w : World) (R : Ending → World → Prop) : (q8 std R) (.exit 0) (x0 out_7) w = (
  R (.returned (.tuple #[Sl.v out_7, .bool true])) w) := A7_0_eq std out_7 w R
theorem E_eq (pr : Prims) (text_0 : ByteArray) (w : World) (R : Ending → World → Prop) : E pr text_0 w R = (
  pr.call2 .sl .bool PP F.impl_heights #[.string text_0] w fun (ρ0 : Sl) (ρ1 : Bool) ω2 =>
  bif !ρ1 then (
  R (.returned (.tuple #[Sl.v Sl.nil, .bool false])) ω2)
  else (
  2 ≠ (0 : Int) ∧
  pr.call1 .sl PP F.impl_identity #[vI (w64 ((text_0.size : Int).tdiv 2))] ω2 fun (ρ3 : Sl) ω4 =>
  pr.sem1 .sl PP (Instr.buildSlice T_Sint 0 #[]) ω4 fun (ρ5 : Sl) ω6 =>
  L7 pr text_0 ρ3 ρ5 ρ0 (ρ0.n : Int) 0 ω6 (q8 pr R))) := by kernel_rfl
theorem E_s (text_0 : ByteArray) (w : World) (R : Ending → World → Prop) : E std text_0 w R = (
  call2 .sl .bool PP F.impl_heights #[.string text_0] w fun (ρ0 : Sl) (ρ1 : Bool) ω2 =>
  bif !ρ1 then (
  R (.returned (.tuple #[Sl.v Sl.nil, .bool false])) ω2)
  else (
  2 ≠ (0 : Int) ∧
  call1 .sl PP F.impl_identity #[vI (w64 ((text_0.size : Int).tdiv 2))] ω2 fun (ρ3 : Sl) ω4 =>
  sem1 .sl PP (Instr.buildSlice T_Sint 0 #[]) ω4 fun (ρ5 : Sl) ω6 =>
  L7 std text_0 ρ3 ρ5 ρ0 (ρ0.n : Int) 0 ω6 (q8 std R))) := E_eq std text_0 w R
theorem drawsOk : drawsOk PP cfg okD (codeOf Try.f19) = true := by kernel_rfl
theorem calls (text_0 : ByteArray) {w : World} {R : Ending → World → Prop} (h : E std text_0 w R) : Calls PP F.impl_PermOfPath #[.string text_0] w R :=
  calls_of noCount mixed drawOk Try.func19 rfl (c := cfg) (args := [.string text_0]) rfl (Nat.le_of_ble_eq_true (by kernel_rfl)) drawsOk h
end impl_PermOfPath

namespace spec_l19Put
@[reducible] def cfg : Cfg := ⟨76, [(5, [0, 1, 6, 7]), (2, [0, 1, 6])], [(3, [0, 1, 6, 7]), (2, [0, 1, 6, 7]), (1, [0, 1, 6]), (0, [0, 1])], [], [4, 5], [], [17, 24, 21, 26, 65, 27, 91, 60, 78], [86, 52]⟩
def q0 (pr : Prims) (R : Ending → World → Prop) : Exit → Env → World → Prop := fun ex e w => normQ ex (fun e w => contE pr cfg (sub (codeOf Try.f92) [1, 1]) (fun e w => wpC pr PP cfg (DD pr) (sub (codeOf Try.f92) [1, 1]) (retQ Try.f92.results.toList R) e w) e w) (retQ Try.f92.results.toList R) e w
def q1 (pr : Prims) (R : Ending → World → Prop) : Exit → Env → World → Prop := fun ex e w => blockQ ex 0 (q0 pr R) e w
def q2 (pr : Prims) (k : Env → World → Prop) (Q : Exit → Env → World → Prop) : Exit → Env → World → Prop := fun ex e w => normQ ex (fun e w => contE pr cfg (sub (codeOf Try.f92) [1, 0, 1, 0, 0, 1, 1]) (fun e w => wpC pr PP cfg (DD pr) (sub (codeOf Try.f92) [1, 0, 1, 0, 0, 1, 1]) (fun ex e w => normQ ex (fun e' w' => k (Env.restr e' (lookN cfg.loops (keyOf (sub (codeOf Try.f92) [1, 0, 1, 0, 0])))) w') Q e w) e w) e w) (fun ex e w => normQ ex (fun e' w' => k (Env.restr e' (lookN cfg.loops (keyOf (sub (codeOf Try.f92) [1, 0, 1, 0, 0])))) w') Q e w) e w
def q3 (pr : Prims) (k : Env → World → Prop) (Q : Exit → Env → World → Prop) : Exit → Env → World → Prop := fun ex e w => blockQ ex 1 (q2 pr k Q) e w
def q4 (pr : Prims) (k : Env → World → Prop) (Q : Exit → Env → World → Prop) : Exit → Env → World → Prop := fun ex e w => normQ ex (fun e w => contE pr cfg (sub (codeOf Try.f92) [1, 0, 1, 0, 0, 1, 0, 0, 1, 1]) (fun e w => wpC pr PP cfg (DD pr) (sub (codeOf Try.f92) [1, 0, 1, 0, 0, 1, 0, 0, 1, 1]) (q3 pr k Q) e w) e w) (q3 pr k Q) e w
def q5 (pr : Prims) (k : Env → World → Prop) (Q : Exit → Env → World → Prop) : Exit → Env → World → Prop := fun ex e w => blockQ ex 2 (q4 pr k Q) e w
def emb2 (t_0 : Sl) (n_1 : Int) (r_6 : Int) : Env := [(0, Sl.v t_0), (1, vI n_1), (6, vI r_6)]
def emb5 (t_0 : Sl) (n_1 : Int) (r_6 : Int) (c_7 : Int) : Env := [(0, Sl.v t_0), (1, vI n_1), (6, vI r_6), (7, vI c_7)]
def x2 (t_0 : Sl) (n_1 : Int) (r_6 : Int) (c_7 : Int) : Env := [(0, Sl.v t_0), (1, vI n_1), (6, vI r_6), (7, vI c_7)]
def x0 (t_0 : Sl) (n_1 : Int) : Env := [(0, Sl.v t_0), (1, vI n_1)]
def S5 (pr : Prims) (Q : Exit → Env → World → Prop) : (Env → World → Prop) → Env → World → Prop := fun k e w => wpC pr PP cfg (DD pr) (sub (codeOf Try.f92) [1, 0, 1, 0, 0, 1, 0, 0, 1, 0, 0, 0]) (fun ex e w => normQ ex (fun e' w' => k (Env.restr e' (lookN cfg.loops (keyOf (sub (codeOf Try.f92) [1, 0, 1, 0, 0, 1, 0, 0, 1, 0, 0, 0])))) w') Q e w) e w
def S2 (pr : Prims) (Q : Exit → Env → World → Prop) : (Env → World → Prop) → Env → World → Prop := fun k e w => wpC pr PP cfg (DD pr) (sub (codeOf Try.f92) [1, 0, 1, 0, 0]) (fun ex e w => normQ ex (fun e' w' => k (Env.restr e' (lookN cfg.loops (keyOf (sub (codeOf Try.f92) [1, 0, 1, 0, 0])))) w') Q e w) e w
def B5 (pr : Prims) (t_0 : Sl) (n_1 : Int) (r_6 : Int) (c_7 : Int) (w : World) (k : Env → World → Prop) (Q : Exit → Env → World → Prop) : Prop :=
  S5 pr Q k (emb5 t_0 n_1 r_6 c_7) w
def L5 (pr : Prims) (t_0 : Sl) (n_1 : Int) (r_6 : Int) (c_7 : Int) (w : World) (Q : Exit → Env → World → Prop) : Prop :=
  pr.loop (S5 pr Q) (emb5 t_0 n_1 r_6 c_7) w
def B2 (pr : Prims) (t_0 : Sl) (n_1 : Int) (r_6 : Int) (w : World) (k : Env → World → Prop) (Q : Exit → Env → World → Prop) : Prop :=
  S2 pr Q k (emb2 t_0 n_1 r_6) w
def L2 (pr : Prims) (t_0 : Sl) (n_1 : Int) (r_6 : Int) (w : World) (Q : Exit → Env → World → Prop) : Prop :=
  pr.loop (S2 pr Q) (emb2 t_0 n_1 r_6) w
def E (pr : Prims) (t_0 : Sl) (n_1 : Int) (w : World) (R : Ending → World → Prop) : Prop :=
  wpC pr PP cfg (DD pr) (codeOf Try.f92) (retQ Try.f92.results.toList R) (argE 0 [Sl.v t_0, vI n_1]) w
theorem B5_eq (pr : Prims) (t_0 : Sl) (n_1 : Int) (r_6 : Int) (c_7 : Int) (w : World) (k : Env → World → Prop) (Q : Exit → Env → World → Prop) : B5 pr t_0 n_1 r_6 c_7 w k Q = (
  pr.idxK 1 t_0 r_6 fun (a6 : Addr) =>
  pr.load1 .sl a6 w fun (ξ7 : Sl) =>
  bif decide (c_7 < (ξ7.n : Int)) then (
  pr.idxK 1 t_0 r_6 fun (a8 : Addr) =>
  pr.load1 .sl a8 w fun (ξ9 : Sl) =>
  pr.idxK 1 ξ9 c_7 fun (a10 : Addr) =>
  pr.load1 (.int .i64) a10 w fun (ξ11 : Int) =>
  bif decide (ξ11 < n_1) then (
  k (emb5 t_0 n_1 r_6 (w64 (c_7 + 1))) w)
  else (
  Q (.exit 2) (x2 t_0 n_1 r_6 c_7) w))
  else (
  Q (.exit 2) (x2 t_0 n_1 r_6 c_7) w)) := by kernel_rfl
theorem B5_s (t_0 : Sl) (n_1 : Int) (r_6 : Int) (c_7 : Int) (w : World) (k : Env → World → Prop) (Q : Exit → Env → World → Prop) : B5 std t_0 n_1 r_6 c_7 w k Q = (
  idxK 1 t_0 r_6 fun (a6 : Addr) =>
  load1 .sl a6 w fun (ξ7 : Sl) =>
  bif decide (c_7 < (ξ7.n : Int)) then (
  idxK 1 t_0 r_6 fun (a8 : Addr) =>
  load1 .sl a8 w fun (ξ9 : Sl) =>
  idxK 1 ξ9 c_7 fun (a10 : Addr) =>
  load1 (.int .i64) a10 w fun (ξ11 : Int) =>
  bif decide (ξ11 < n_1) then (
  k (emb5 t_0 n_1 r_6 (w64 (c_7 + 1))) w)
  else (
  Q (.exit 2) (x2 t_0 n_1 r_6 c_7) w))
  else (
  Q (.exit 2) (x2 t_0 n_1 r_6 c_7) w)) := B5_eq std t_0 n_1 r_6 c_7 w k Q
theorem L5_rule (t_0 : Sl) (n_1 : Int) (r_6 : Int) (c_7 : Int) (w : World) (Q : Exit → Env → World → Prop) (I : Int → World → Prop) (μ : Int → World → Nat) (h0 : I c_7 w)
    (h : ∀ (c_7 : Int) (w' : World), I c_7 w' → B5 std t_0 n_1 r_6 c_7 w' (fun e2 w2 => ∃ c_7_n, e2 = emb5 t_0 n_1 r_6 c_7_n ∧ I c_7_n w2 ∧ μ c_7_n w2 < μ c_7 w') Q) :
    L5 std t_0 n_1 r_6 c_7 w Q := by
  unfold L5
  refine LoopE.intro (σ := Int) (step := S5 std Q) (fun s => emb5 t_0 n_1 r_6 s) (fun s w => I s w) (fun s w => μ s w) c_7 rfl h0 ?_
  intro s w' hI
  have h1 := h s w' hI
  unfold B5 at h1
  exact h1
theorem A5_2_eq (pr : Prims) (t_0 : Sl) (n_1 : Int) (r_6 : Int) (c_7 : Int) (w : World) (k : Env → World → Prop) (Q : Exit → Env → World → Prop) : (q5 pr k Q) (.exit 2) (x2 t_0 n_1 r_6 c_7) w = (
  pr.idxK 1 t_0 r_6 fun (a12 : Addr) =>
  pr.load1 .sl a12 w fun (ξ13 : Sl) =>
  bif c_7 == (ξ13.n : Int) then (
  pr.idxK 1 t_0 r_6 fun (a14 : Addr) =>
  pr.load1 .sl a14 w fun (ξ15 : Sl) =>
  pr.sem1 .sl PP (Instr.buildSlice T_Sint 1 #[(0, vI n_1)]) w fun (ρ16 : Sl) ω17 =>
  pr.sem1 .sl PP (Builtin.append_ #[T_Sint, T_Sint] T_Sint #[Sl.v ξ15, Sl.v ρ16]) ω17 fun (ρ18 : Sl) ω19 =>
  pr.idxK 1 t_0 r_6 fun (a20 : Addr) =>
  pr.storeC a20 (Sl.v ρ18) ω19 fun ω21 =>
  Q .ret [(4, Sl.v t_0), (5, vI r_6)] ω21)
  else (
  pr.idxK 1 t_0 r_6 fun (a22 : Addr) =>
  pr.load1 .sl a22 w fun (ξ23 : Sl) =>
  pr.idxK 1 ξ23 c_7 fun (a24 : Addr) =>
  pr.load1 (.int .i64) a24 w fun (ξ25 : Int) =>
  pr.idxK 1 t_0 r_6 fun (a26 : Addr) =>
  pr.load1 .sl a26 w fun (ξ27 : Sl) =>
  pr.idxK 1 ξ27 c_7 fun (a28 : Addr) =>
  pr.storeC a28 (vI n_1) w fun ω29 =>
  k (emb2 t_0 ξ25 (w64 (r_6 + 1))) ω29)) := by kernel_rfl
theorem A5_2_s (t_0 : Sl) (n_1 : Int) (r_6 : Int) (c_7 : Int) (w : World) (k : Env → World → Prop) (Q : Exit → Env → World → Prop) : (q5 std k Q) (.exit 2) (x2 t_0 n_1 r_6 c_7) w = (
  idxK 1 t_0 r_6 fun (a12 : Addr) =>
  load1 .sl a12 w fun (ξ13 : Sl) =>
  bif c_7 == (ξ13.n : Int) then (
  idxK 1 t_0 r_6 fun (a14 : Addr) =>
  load1 .sl a14 w fun (ξ15 : Sl) =>
  sem1 .sl PP (Instr.buildSlice T_Sint 1 #[(0, vI n_1)]) w fun (ρ16 : Sl) ω17 =>
  sem1 .sl PP (Builtin.append_ #[T_Sint, T_Sint] T_Sint #[Sl.v ξ15, Sl.v ρ16]) ω17 fun (ρ18 : Sl) ω19 =>
  idxK 1 t_0 r_6 fun (a20 : Addr) =>
  storeC a20 (Sl.v ρ18) ω19 fun ω21 =>
  Q .ret [(4, Sl.v t_0), (5, vI r_6)] ω21)
  else (
  idxK 1 t_0 r_6 fun (a22 : Addr) =>
  load1 .sl a22 w fun (ξ23 : Sl) =>
  idxK 1 ξ23 c_7 fun (a24 : Addr) =>
  load1 (.int .i64) a24 w fun (ξ25 : Int) =>
  idxK 1 t_0 r_6 fun (a26 : Addr) =>
  load1 .sl a26 w fun (ξ27 : Sl) =>
  idxK 1 ξ27 c_7 fun (a28 : Addr) =>
  storeC a28 (vI n_1) w fun ω29 =>
  k (emb2 t_0 ξ25 (w64 (r_6 + 1))) ω29)) := A5_2_eq std t_0 n_1 r_6 c_7 w k Q
theorem B2_eq (pr : Prims) (t_0 : Sl) (n_1 : Int) (r_6 : Int) (w : World) (k : Env → World → Prop) (Q : Exit → Env → World → Prop) : B2 pr t_0 n_1 r_6 w k Q = (
  bif decide (r_6 < (t_0.n : Int)) then (
  L5 pr t_0 n_1 r_6 0 w (q5 pr k Q))
  else (
  Q (.exit 0) (x0 t_0 n_1) w)) := by kernel_rfl
theorem B2_s (t_0 : Sl) (n_1 : Int) (r_6 : Int) (w : World) (k : Env → World → Prop) (Q : Exit → Env → World → Prop) : B2 std t_0 n_1 r_6 w k Q = (
  bif decide (r_6 < (t_0.n : Int)) then (
  L5 std t_0 n_1 r_6 0 w (q5 std k Q))
  else (
  Q (.exit 0) (x0 t_0 n_1) w)) := B2_eq std t_0 n_1 r_6 w k Q
theorem L2_rule (t_0 : Sl) (n_1 : Int) (r_6 : Int) (w : World) (Q : Exit → Env → World → Prop) (I : Int → Int → World → Prop) (μ : Int → Int → World → Nat) (h0 : I n_1 r_6 w)
    (h : ∀ (n_1 : Int) (r_6 : Int) (w' : World), I n_1 r_6 w' → B2 std t_0 n_1 r_6 w' (fun e2 w2 => ∃ n_1_n r_6_n, e2 = emb2 t_0 n_1_n r_6_n ∧ I n_1_n r_6_n w2 ∧ μ n_1_n r_6_n w2 < μ n_1 r_6 w') Q) :
    L2 std t_0 n_1 r_6 w Q := by
  unfold L2
  refine LoopE.intro (σ := Int × Int) (step := S2 std Q) (fun s => emb2 t_0 s.1 s.2) (fun s w => I s.1 s.2 w) (fun s w => μ s.1 s.2 w) (n_1, r_6) rfl h0 ?_
  intro s w' hI
  have h1 := h s.1 s.2 w' hI
  unfold B2 at h1
  simp only [Prod.exists]
  exact h1
theorem A2_0_eq (pr : Prims) (t_0 : Sl) (n_1 : Int) (w : World) (R : Ending → World → Prop) : (q1 pr R) (.exit 0) (x0 t_0 n_1) w = (
  pr.sem1 .sl PP (Instr.buildSlice T_Sint 1 #[(0, vI n_1)]) w fun (ρ30 : Sl) ω31 =>
  pr.sem1 .sl PP (Instr.buildSlice T_SSint 1 #[(0, Sl.v ρ30)]) ω31 fun (ρ32 : Sl) ω33 =>
  pr.sem1 .sl PP (Builtin.append_ #[T_SSint, T_SSint] T_SSint #[Sl.v t_0, Sl.v ρ32]) ω33 fun (ρ34 : Sl) ω35 =>
  R (.returned (.tuple #[Sl.v ρ34, vI (t_0.n : Int)])) ω35) := by kernel_rfl
theorem A2_0_s (t_0 : Sl) (n_1 : Int) (w : World) (R : Ending → World → Prop) : (q1 std R) (.exit 0) (x0 t_0 n_1) w = (
  sem1 .sl PP (Instr.buildSlice T_Sint 1 #[(0, vI n_1)]) w fun (ρ30 : Sl) ω31 =>
  sem1 .sl PP (Instr.buildSlice T_SSint 1 #[(0, Sl.v ρ30)]) ω31 fun (ρ32 : Sl) ω33 =>
  sem1 .sl PP (Builtin.append_ #[T_SSint, T_SSint] T_SSint #[Sl.v t_0, Sl.v ρ32]) ω33 fun (ρ34 : Sl) ω35 =>
  R (.returned (.tuple #[Sl.v ρ34, vI (t_0.n : Int)])) ω35) := A2_0_eq std t_0 n_1 w R
theorem R2_eq (pr : Prims) (v4 : Value) (v5 : Value) (w : World) (R : Ending → World → Prop) : (q1 pr R) .ret [(4, v4), (5, v5)] w = (
  R (.returned (.tuple #[v4, v5])) w) := by kernel_rfl
theorem R2_s (v4 : Value) (v5 : Value) (w : World) (R : Ending → World → Prop) : (q1 std R) .ret [(4, v4), (5, v5)] w = (
  R (.returned (.tuple #[v4, v5])) w) := R2_eq std v4 v5 w R
theorem E_eq (pr : Prims) (t_0 : Sl) (n_1 : Int) (w : World) (R : Ending → World → Prop) : E pr t_0 n_1 w R = (
  L2 pr t_0 n_1 0 w (q1 pr R)) := by kernel_rfl
theorem E_s (t_0 : Sl) (n_1 : Int) (w : World) (R : Ending → World → Prop) : E std t_0 n_1 w R = (
  L2 std t_0 n_1 0 w (q1 std R)) := E_eq std t_0 n_1 w R
theorem drawsOk : drawsOk PP cfg okD (codeOf Try.f92) = true := by kernel_rfl
theorem calls (t_0 : Sl) (n_1 : Int) {w : World} {R : Ending → World → Prop} (h : E std t_0 n_1 w R) : Calls PP F.spec_l19Put #[Sl.v t_0, vI n_1] w R :=
  calls_of noCount mixed drawOk Try.func92 rfl (c := cfg) (args := [Sl.v t_0, vI n_1]) rfl (Nat.le_of_ble_eq_true (by kernel_rfl)) drawsOk h
end spec_l19Put

namespace spec_l2Same
@[reducible] def cfg : Cfg := ⟨26, [(4, [0, 1, 5])], [(1, [0, 1, 5]), (0, [])], [], [4], [6], [17, 24, 21, 26, 65, 27, 91, 60, 78], [86, 52]⟩
def q0 (pr : Prims) (R : Ending → World → Prop) : Exit → Env → World → Prop := fun ex e w => normQ ex (fun e w => contE pr cfg (sub (codeOf Try.f78) [1, 1, 1]) (fun e w => wpC pr PP cfg (DD pr) (sub (codeOf Try.f78) [1, 1, 1]) (retQ Try.f78.results.toList R) e w) e w) (retQ Try.f78.results.toList R) e w
def q1 (pr : Prims) (R : Ending → World → Prop) : Exit → Env → World → Prop := fun ex e w => blockQ ex 0 (q0 pr R) e w
def emb4 (a_0 : Sl) (b_1 : Sl) (k_5 : Int) : Env := [(0, Sl.v a_0), (1, Sl.v b_1), (5, vI k_5)]
def x0 : Env := []
def S4 (pr : Prims) (Q : Exit → Env → World → Prop) : (Env → World → Prop) → Env → World → Prop := fun k e w => wpC pr PP cfg (DD pr) (sub (codeOf Try.f78) [1, 1, 0, 1, 0, 0]) (fun ex e w => normQ ex (fun e' w' => k (Env.restr e' (lookN cfg.loops (keyOf (sub (codeOf Try.f78) [1, 1, 0, 1, 0, 0])))) w') Q e w) e w
def B4 (pr : Prims) (a_0 : Sl) (b_1 : Sl) (k_5 : Int) (w : World) (k : Env → World → Prop) (Q : Exit → Env → World → Prop) : Prop :=
  S4 pr Q k (emb4 a_0 b_1 k_5) w
def L4 (pr : Prims) (a_0 : Sl) (b_1 : Sl) (k_5 : Int) (w : World) (Q : Exit → Env → World → Prop) : Prop :=
  pr.loop (S4 pr Q) (emb4 a_0 b_1 k_5) w
def E (pr : Prims) (a_0 : Sl) (b_1 : Sl) (w : World) (R : Ending → World → Prop) : Prop :=
  wpC pr PP cfg (DD pr) (codeOf Try.f78) (retQ Try.f78.results.toList R) (argE 0 [Sl.v a_0, Sl.v b_1]) w
theorem B4_eq (pr : Prims) (a_0 : Sl) (b_1 : Sl) (k_5 : Int) (w : World) (k : Env → World → Prop) (Q : Exit → Env → World → Prop) : B4 pr a_0 b_1 k_5 w k Q = (
  bif decide (k_5 < (a_0.n : Int)) then (
  pr.idxK 1 a_0 k_5 fun (a2 : Addr) =>
  pr.load1 (.int .i64) a2 w fun (ξ3 : Int) =>
  pr.idxK 1 b_1 k_5 fun (a4 : Addr) =>
  pr.load1 (.int .i64) a4 w fun (ξ5 : Int) =>
  pr.drewAll w fun ω6 =>
  bif ξ3 != ξ5 then (
  Q .ret [(4, .bool false)] ω6)
  else (
  k (emb4 a_0 b_1 (w64 (k_5 + 1))) ω6))
  else (
  Q (.exit 0) (x0) w)) := by kernel_rfl
theorem B4_s (a_0 : Sl) (b_1 : Sl) (k_5 : Int) (w : World) (k : Env → World → Prop) (Q : Exit → Env → World → Prop) : B4 std a_0 b_1 k_5 w k Q = (
  bif decide (k_5 < (a_0.n : Int)) then (
  idxK 1 a_0 k_5 fun (a2 : Addr) =>
  load1 (.int .i64) a2 w fun (ξ3 : Int) =>
  idxK 1 b_1 k_5 fun (a4 : Addr) =>
  load1 (.int .i64) a4 w fun (ξ5 : Int) =>
  drewAll w fun ω6 =>
  bif ξ3 != ξ5 then (
  Q .ret [(4, .bool false)] ω6)
  else (
  k (emb4 a_0 b_1 (w64 (k_5 + 1))) ω6))
  else (
  Q (.exit 0) (x0) w)) := B4_eq std a_0 b_1 k_5 w k Q
theorem L4_rule (a_0 : Sl) (b_1 : Sl) (k_5 : Int) (w : World) (Q : Exit → Env → World → Prop) (I : Int → World → Prop) (μ : Int → World → Nat) (h0 : I k_5 w)
    (h : ∀ (k_5 : Int) (w' : World), I k_5 w' → B4 std a_0 b_1 k_5 w' (fun e2 w2 => ∃ k_5_n, e2 = emb4 a_0 b_1 k_5_n ∧ I k_5_n w2 ∧ μ k_5_n w2 < μ k_5 w') Q) :
    L4 std a_0 b_1 k_5 w Q := by
  unfold L4
  refine LoopE.intro (σ := Int) (step := S4 std Q) (fun s => emb4 a_0 b_1 s) (fun s w => I s w) (fun s w => μ s w) k_5 rfl h0 ?_
  intro s w' hI
  have h1 := h s w' hI
  unfold B4 at h1
  exact h1
theorem A4_0_eq (pr : Prims) (w : World) (R : Ending → World → Prop) : (q1 pr R) (.exit 0) (x0) w = (
  R (.returned (.bool true)) w) := by kernel_rfl
theorem A4_0_s (w : World) (R : Ending → World → Prop) : (q1 std R) (.exit 0) (x0) w = (
  R (.returned (.bool true)) w) := A4_0_eq std w R
theorem R4_eq (pr : Prims) (v4 : Value) (w : World) (R : Ending → World → Prop) : (q1 pr R) .ret [(4, v4)] w = (
  R (.returned (v4)) w) := by kernel_rfl
theorem R4_s (v4 : Value) (w : World) (R : Ending → World → Prop) : (q1 std R) .ret [(4, v4)] w = (
  R (.returned (v4)) w) := R4_eq std v4 w R
theorem E_eq (pr : Prims) (a_0 : Sl) (b_1 : Sl) (w : World) (R : Ending → World → Prop) : E pr a_0 b_1 w R = (
  bif (a_0.n : Int) != (b_1.n : Int) then (
  R (.returned (.bool false)) w)
  else (
  L4 pr a_0 b_1 0 w (q1 pr R))) := by kernel_rfl
theorem E_s (a_0 : Sl) (b_1 : Sl) (w : World) (R : Ending → World → Prop) : E std a_0 b_1 w R = (
  bif (a_0.n : Int) != (b_1.n : Int) then (
  R (.returned (.bool false)) w)
  else (
  L4 std a_0 b_1 0 w (q1 std R))) := E_eq std a_0 b_1 w R
theorem drawsOk : drawsOk PP cfg okD (codeOf Try.f78) = true := by kernel_rfl
theorem calls (a_0 : Sl) (b_1 : Sl) {w : World} {R : Ending → World → Prop} (h : E std a_0 b_1 w R) : Calls PP F.spec_l2Same #[Sl.v a_0, Sl.v b_1] w R :=
  calls_of noCount mixed drawOk Try.func78 rfl (c := cfg) (args := [Sl.v a_0, Sl.v b_1]) rfl (Nat.le_of_ble_eq_true (by kernel_rfl)) drawsOk h
end spec_l2Same

end Go.Proofs.Ytfainpmcdfckkaa
