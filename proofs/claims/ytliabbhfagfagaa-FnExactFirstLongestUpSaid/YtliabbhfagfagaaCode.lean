/- What each function does, step by step, written by a program (Gen.lean); each equation is checked by the kernel. -/
import Derived.Test.YtliabbhfagfagaaHead
namespace Go.Proofs.Ytliabbhfagfagaa
open Go
set_option linter.unusedVariables false
set_option maxRecDepth 100000
namespace spec_l1In
@[reducible] def cfg : Cfg := ⟨15, [], [], [], [6], [], [73, 46, 18, 22, 43, 45, 72, 88, 85, 80, 81, 70], [56, 63, 74, 86, 89, 64]⟩
def E (pr : Prims) (x_0 : Int) (lo_1 : Int) (hi_2 : Int) (w : World) (R : Ending → World → Prop) : Prop :=
  wpC pr PP cfg (DD pr) (codeOf Try.f56) (retQ Try.f56.results.toList R) (argE 0 [vI x_0, vI lo_1, vI hi_2]) w
theorem E_eq (pr : Prims) (x_0 : Int) (lo_1 : Int) (hi_2 : Int) (w : World) (R : Ending → World → Prop) : E pr x_0 lo_1 hi_2 w R = (
  bif decide (x_0 ≥ lo_1) then (
  R (.returned (.bool (decide (x_0 ≤ hi_2)))) w)
  else (
  R (.returned (.bool false)) w)) := by kernel_rfl
theorem E_s (x_0 : Int) (lo_1 : Int) (hi_2 : Int) (w : World) (R : Ending → World → Prop) : E std x_0 lo_1 hi_2 w R = (
  bif decide (x_0 ≥ lo_1) then (
  R (.returned (.bool (decide (x_0 ≤ hi_2)))) w)
  else (
  R (.returned (.bool false)) w)) := E_eq std x_0 lo_1 hi_2 w R
theorem drawsOk : drawsOk PP cfg okD (codeOf Try.f56) = true := by kernel_rfl
theorem calls (x_0 : Int) (lo_1 : Int) (hi_2 : Int) {w : World} {R : Ending → World → Prop} (h : E std x_0 lo_1 hi_2 w R) : Calls PP F.spec_l1In #[vI x_0, vI lo_1, vI hi_2] w R :=
  calls_of noCount mixed drawOk Try.func56 rfl (c := cfg) (args := [vI x_0, vI lo_1, vI hi_2]) rfl (Nat.le_of_ble_eq_true (by kernel_rfl)) drawsOk h
end spec_l1In

namespace spec_l1Bit
@[reducible] def cfg : Cfg := ⟨4, [], [], [], [2], [], [73, 46, 18, 22, 43, 45, 72, 88, 85, 80, 81, 70], [56, 63, 74, 86, 89, 64]⟩
def E (pr : Prims) (on_0 : Bool) (w : World) (R : Ending → World → Prop) : Prop :=
  wpC pr PP cfg (DD pr) (codeOf Try.f63) (retQ Try.f63.results.toList R) (argE 0 [.bool on_0]) w
theorem E_eq (pr : Prims) (on_0 : Bool) (w : World) (R : Ending → World → Prop) : E pr on_0 w R = (
  bif on_0 then (
  R (.returned (vI 1)) w)
  else (
  R (.returned (vI 0)) w)) := by kernel_rfl
theorem E_s (on_0 : Bool) (w : World) (R : Ending → World → Prop) : E std on_0 w R = (
  bif on_0 then (
  R (.returned (vI 1)) w)
  else (
  R (.returned (vI 0)) w)) := E_eq std on_0 w R
theorem drawsOk : drawsOk PP cfg okD (codeOf Try.f63) = true := by kernel_rfl
theorem calls (on_0 : Bool) {w : World} {R : Ending → World → Prop} (h : E std on_0 w R) : Calls PP F.spec_l1Bit #[.bool on_0] w R :=
  calls_of noCount mixed drawOk Try.func63 rfl (c := cfg) (args := [.bool on_0]) rfl (Nat.le_of_ble_eq_true (by kernel_rfl)) drawsOk h
end spec_l1Bit

namespace spec_l1Max
@[reducible] def cfg : Cfg := ⟨10, [], [], [], [4], [], [73, 46, 18, 22, 43, 45, 72, 88, 85, 80, 81, 70], [56, 63, 74, 86, 89, 64]⟩
def E (pr : Prims) (a_0 : Int) (b_1 : Int) (w : World) (R : Ending → World → Prop) : Prop :=
  wpC pr PP cfg (DD pr) (codeOf Try.f74) (retQ Try.f74.results.toList R) (argE 0 [vI a_0, vI b_1]) w
theorem E_eq (pr : Prims) (a_0 : Int) (b_1 : Int) (w : World) (R : Ending → World → Prop) : E pr a_0 b_1 w R = (
  bif decide (a_0 > b_1) then (
  R (.returned (vI a_0)) w)
  else (
  R (.returned (vI b_1)) w)) := by kernel_rfl
theorem E_s (a_0 : Int) (b_1 : Int) (w : World) (R : Ending → World → Prop) : E std a_0 b_1 w R = (
  bif decide (a_0 > b_1) then (
  R (.returned (vI a_0)) w)
  else (
  R (.returned (vI b_1)) w)) := E_eq std a_0 b_1 w R
theorem drawsOk : drawsOk PP cfg okD (codeOf Try.f74) = true := by kernel_rfl
theorem calls (a_0 : Int) (b_1 : Int) {w : World} {R : Ending → World → Prop} (h : E std a_0 b_1 w R) : Calls PP F.spec_l1Max #[vI a_0, vI b_1] w R :=
  calls_of noCount mixed drawOk Try.func74 rfl (c := cfg) (args := [vI a_0, vI b_1]) rfl (Nat.le_of_ble_eq_true (by kernel_rfl)) drawsOk h
end spec_l1Max

namespace impl_isPerm
@[reducible] def cfg : Cfg := ⟨34, [(3, [0, 3, 10, 11, 12])], [(1, [0, 3, 10, 11, 12]), (0, [])], [], [2], [], [73, 46, 18, 22, 43, 45, 72, 88, 85, 80, 81, 70], [56, 63, 74, 86, 89, 64]⟩
def q2 (pr : Prims) (R : Ending → World → Prop) : Exit → Env → World → Prop := fun ex e w => normQ ex (fun e w => contE pr cfg (sub (codeOf Try.f75) [1, 1, 1]) (fun e w => wpC pr PP cfg (DD pr) (sub (codeOf Try.f75) [1, 1, 1]) (retQ Try.f75.results.toList R) e w) e w) (retQ Try.f75.results.toList R) e w
def q3 (pr : Prims) (R : Ending → World → Prop) : Exit → Env → World → Prop := fun ex e w => blockQ ex 0 (q2 pr R) e w
def emb3 (p_0 : Sl) (seen_3 : Sl) (t10 : Sl) (t11 : Int) (t12 : Int) : Env := [(0, Sl.v p_0), (3, Sl.v seen_3), (10, Sl.v t10), (11, vI t11), (12, vI t12)]
def x0 : Env := []
def S3 (pr : Prims) (Q : Exit → Env → World → Prop) : (Env → World → Prop) → Env → World → Prop := fun k e w => wpC pr PP cfg (DD pr) (sub (codeOf Try.f75) [1, 1, 0, 1, 0, 0]) (fun ex e w => normQ ex (fun e' w' => k (Env.restr e' (lookN cfg.loops (keyOf (sub (codeOf Try.f75) [1, 1, 0, 1, 0, 0])))) w') Q e w) e w
def B3 (pr : Prims) (p_0 : Sl) (seen_3 : Sl) (t10 : Sl) (t11 : Int) (t12 : Int) (w : World) (k : Env → World → Prop) (Q : Exit → Env → World → Prop) : Prop :=
  S3 pr Q k (emb3 p_0 seen_3 t10 t11 t12) w
def L3 (pr : Prims) (p_0 : Sl) (seen_3 : Sl) (t10 : Sl) (t11 : Int) (t12 : Int) (w : World) (Q : Exit → Env → World → Prop) : Prop :=
  pr.loop (S3 pr Q) (emb3 p_0 seen_3 t10 t11 t12) w
def E (pr : Prims) (p_0 : Sl) (w : World) (R : Ending → World → Prop) : Prop :=
  wpC pr PP cfg (DD pr) (codeOf Try.f75) (retQ Try.f75.results.toList R) (argE 0 [Sl.v p_0]) w
theorem B3_eq (pr : Prims) (p_0 : Sl) (seen_3 : Sl) (t10 : Sl) (t11 : Int) (t12 : Int) (w : World) (k : Env → World → Prop) (Q : Exit → Env → World → Prop) : B3 pr p_0 seen_3 t10 t11 t12 w k Q = (
  bif decide (t12 < t11) then (
  pr.idxK 1 t10 t12 fun (a4 : Addr) =>
  pr.load1 (.int .i64) a4 w fun (ξ5 : Int) =>
  bif decide (ξ5 < 1) then (
  Q .ret [(2, .bool false)] w)
  else (
  bif decide (ξ5 > (p_0.n : Int)) then (
  Q .ret [(2, .bool false)] w)
  else (
  pr.idxK 1 seen_3 ξ5 fun (a6 : Addr) =>
  pr.load1 .bool a6 w fun (ξ7 : Bool) =>
  bif ξ7 then (
  Q .ret [(2, .bool false)] w)
  else (
  pr.idxK 1 seen_3 ξ5 fun (a8 : Addr) =>
  pr.storeC a8 (.bool true) w fun ω9 =>
  k (emb3 p_0 seen_3 t10 t11 (w64 (t12 + 1))) ω9))))
  else (
  Q (.exit 0) (x0) w)) := by kernel_rfl
theorem B3_s (p_0 : Sl) (seen_3 : Sl) (t10 : Sl) (t11 : Int) (t12 : Int) (w : World) (k : Env → World → Prop) (Q : Exit → Env → World → Prop) : B3 std p_0 seen_3 t10 t11 t12 w k Q = (
  bif decide (t12 < t11) then (
  idxK 1 t10 t12 fun (a4 : Addr) =>
  load1 (.int .i64) a4 w fun (ξ5 : Int) =>
  bif decide (ξ5 < 1) then (
  Q .ret [(2, .bool false)] w)
  else (
  bif decide (ξ5 > (p_0.n : Int)) then (
  Q .ret [(2, .bool false)] w)
  else (
  idxK 1 seen_3 ξ5 fun (a6 : Addr) =>
  load1 .bool a6 w fun (ξ7 : Bool) =>
  bif ξ7 then (
  Q .ret [(2, .bool false)] w)
  else (
  idxK 1 seen_3 ξ5 fun (a8 : Addr) =>
  storeC a8 (.bool true) w fun ω9 =>
  k (emb3 p_0 seen_3 t10 t11 (w64 (t12 + 1))) ω9))))
  else (
  Q (.exit 0) (x0) w)) := B3_eq std p_0 seen_3 t10 t11 t12 w k Q
theorem L3_rule (p_0 : Sl) (seen_3 : Sl) (t10 : Sl) (t11 : Int) (t12 : Int) (w : World) (Q : Exit → Env → World → Prop) (I : Int → World → Prop) (μ : Int → World → Nat) (h0 : I t12 w)
    (h : ∀ (t12 : Int) (w' : World), I t12 w' → B3 std p_0 seen_3 t10 t11 t12 w' (fun e2 w2 => ∃ t12_n, e2 = emb3 p_0 seen_3 t10 t11 t12_n ∧ I t12_n w2 ∧ μ t12_n w2 < μ t12 w') Q) :
    L3 std p_0 seen_3 t10 t11 t12 w Q := by
  unfold L3
  refine LoopE.intro (σ := Int) (step := S3 std Q) (fun s => emb3 p_0 seen_3 t10 t11 s) (fun s w => I s w) (fun s w => μ s w) t12 rfl h0 ?_
  intro s w' hI
  have h1 := h s w' hI
  unfold B3 at h1
  exact h1
theorem A3_0_eq (pr : Prims) (w : World) (R : Ending → World → Prop) : (q3 pr R) (.exit 0) (x0) w = (
  R (.returned (.bool true)) w) := by kernel_rfl
theorem A3_0_s (w : World) (R : Ending → World → Prop) : (q3 std R) (.exit 0) (x0) w = (
  R (.returned (.bool true)) w) := A3_0_eq std w R
theorem R3_eq (pr : Prims) (v2 : Value) (w : World) (R : Ending → World → Prop) : (q3 pr R) .ret [(2, v2)] w = (
  R (.returned (v2)) w) := by kernel_rfl
theorem R3_s (v2 : Value) (w : World) (R : Ending → World → Prop) : (q3 std R) .ret [(2, v2)] w = (
  R (.returned (v2)) w) := R3_eq std v2 w R
theorem E_eq (pr : Prims) (p_0 : Sl) (w : World) (R : Ending → World → Prop) : E pr p_0 w R = (
  pr.sem1 .sl PP (Instr.makeSlice T_Sbool (vI (w64 ((p_0.n : Int) + 1))) (vI (w64 ((p_0.n : Int) + 1)))) w fun (ρ0 : Sl) ω1 =>
  L3 pr p_0 ρ0 p_0 (p_0.n : Int) 0 ω1 (q3 pr R)) := by kernel_rfl
theorem E_s (p_0 : Sl) (w : World) (R : Ending → World → Prop) : E std p_0 w R = (
  sem1 .sl PP (Instr.makeSlice T_Sbool (vI (w64 ((p_0.n : Int) + 1))) (vI (w64 ((p_0.n : Int) + 1)))) w fun (ρ0 : Sl) ω1 =>
  L3 std p_0 ρ0 p_0 (p_0.n : Int) 0 ω1 (q3 std R)) := E_eq std p_0 w R
theorem drawsOk : drawsOk PP cfg okD (codeOf Try.f75) = true := by kernel_rfl
theorem calls (p_0 : Sl) {w : World} {R : Ending → World → Prop} (h : E std p_0 w R) : Calls PP F.impl_isPerm #[Sl.v p_0] w R :=
  calls_of noCount mixed drawOk Try.func75 rfl (c := cfg) (args := [Sl.v p_0]) rfl (Nat.le_of_ble_eq_true (by kernel_rfl)) drawsOk h
end impl_isPerm

namespace impl_IsPerm
@[reducible] def cfg : Cfg := ⟨10, [], [], [], [2], [], [73, 46, 18, 22, 43, 45, 72, 88, 85, 80, 81, 70], [56, 63, 74, 86, 89, 64]⟩
def E (pr : Prims) (p_0 : Sl) (w : World) (R : Ending → World → Prop) : Prop :=
  wpC pr PP cfg (DD pr) (codeOf Try.f48) (retQ Try.f48.results.toList R) (argE 0 [Sl.v p_0]) w
theorem E_eq (pr : Prims) (p_0 : Sl) (w : World) (R : Ending → World → Prop) : E pr p_0 w R = (
  bif decide ((p_0.n : Int) ≤ 8) then (
  pr.call1 .bool PP F.impl_isPerm #[Sl.v p_0] w fun (ρ0 : Bool) ω1 =>
  R (.returned (.bool ρ0)) ω1)
  else (
  R (.returned (.bool false)) w)) := by kernel_rfl
theorem E_s (p_0 : Sl) (w : World) (R : Ending → World → Prop) : E std p_0 w R = (
  bif decide ((p_0.n : Int) ≤ 8) then (
  call1 .bool PP F.impl_isPerm #[Sl.v p_0] w fun (ρ0 : Bool) ω1 =>
  R (.returned (.bool ρ0)) ω1)
  else (
  R (.returned (.bool false)) w)) := E_eq std p_0 w R
theorem drawsOk : drawsOk PP cfg okD (codeOf Try.f48) = true := by kernel_rfl
theorem calls (p_0 : Sl) {w : World} {R : Ending → World → Prop} (h : E std p_0 w R) : Calls PP F.impl_IsPerm #[Sl.v p_0] w R :=
  calls_of noCount mixed drawOk Try.func48 rfl (c := cfg) (args := [Sl.v p_0]) rfl (Nat.le_of_ble_eq_true (by kernel_rfl)) drawsOk h
end impl_IsPerm

namespace spec_IsPerm
@[reducible] def cfg : Cfg := ⟨36, [(2, [0, 3])], [(1, [0, 3]), (0, [0])], [], [2], [4], [73, 46, 18, 22, 43, 45, 72, 88, 85, 80, 81, 70], [56, 63, 74, 86, 89, 64]⟩
def q0 (pr : Prims) (R : Ending → World → Prop) : Exit → Env → World → Prop := fun ex e w => normQ ex (fun e w => contE pr cfg (sub (codeOf Try.f46) [1, 1]) (fun e w => wpC pr PP cfg (DD pr) (sub (codeOf Try.f46) [1, 1]) (retQ Try.f46.results.toList R) e w) e w) (retQ Try.f46.results.toList R) e w
def q1 (pr : Prims) (R : Ending → World → Prop) : Exit → Env → World → Prop := fun ex e w => blockQ ex 0 (q0 pr R) e w
def emb2 (p_0 : Sl) (k_3 : Int) : Env := [(0, Sl.v p_0), (3, vI k_3)]
def x0 (p_0 : Sl) : Env := [(0, Sl.v p_0)]
def S2 (pr : Prims) (Q : Exit → Env → World → Prop) : (Env → World → Prop) → Env → World → Prop := fun k e w => wpC pr PP cfg (DD pr) (sub (codeOf Try.f46) [1, 0, 1, 0, 0]) (fun ex e w => normQ ex (fun e' w' => k (Env.restr e' (lookN cfg.loops (keyOf (sub (codeOf Try.f46) [1, 0, 1, 0, 0])))) w') Q e w) e w
def B2 (pr : Prims) (p_0 : Sl) (k_3 : Int) (w : World) (k : Env → World → Prop) (Q : Exit → Env → World → Prop) : Prop :=
  S2 pr Q k (emb2 p_0 k_3) w
def L2 (pr : Prims) (p_0 : Sl) (k_3 : Int) (w : World) (Q : Exit → Env → World → Prop) : Prop :=
  pr.loop (S2 pr Q) (emb2 p_0 k_3) w
def E (pr : Prims) (p_0 : Sl) (w : World) (R : Ending → World → Prop) : Prop :=
  wpC pr PP cfg (DD pr) (codeOf Try.f46) (retQ Try.f46.results.toList R) (argE 0 [Sl.v p_0]) w
theorem B2_eq (pr : Prims) (p_0 : Sl) (k_3 : Int) (w : World) (k : Env → World → Prop) (Q : Exit → Env → World → Prop) : B2 pr p_0 k_3 w k Q = (
  bif decide (k_3 < (p_0.n : Int)) then (
  bif decide ((p_0.n : Int) ≤ 8) then (
  pr.idxK 1 p_0 k_3 fun (a2 : Addr) =>
  pr.load1 (.int .i64) a2 w fun (ξ3 : Int) =>
  pr.pcall1 .bool PP F.spec_l1In #[vI ξ3, vI 1, vI (p_0.n : Int)] fun (ρ4 : Bool) =>
  bif !ρ4 then (
  pr.drewAll w fun ω5 =>
  Q .ret [(2, .bool false)] ω5)
  else (
  pr.cutK 1 p_0 none (some k_3) fun (s6 : Sl) =>
  pr.idxK 1 p_0 k_3 fun (a7 : Addr) =>
  pr.load1 (.int .i64) a7 w fun (ξ8 : Int) =>
  pr.qcall1 .bool PP F.spec_l2Has #[Sl.v s6, vI ξ8] w fun (ρ9 : Bool) =>
  pr.drewAll w fun ω10 =>
  bif ρ9 then (
  Q .ret [(2, .bool false)] ω10)
  else (
  k (emb2 p_0 (w64 (k_3 + 1))) ω10)))
  else (
  Q (.exit 0) (x0 p_0) w))
  else (
  Q (.exit 0) (x0 p_0) w)) := by kernel_rfl
theorem B2_s (p_0 : Sl) (k_3 : Int) (w : World) (k : Env → World → Prop) (Q : Exit → Env → World → Prop) : B2 std p_0 k_3 w k Q = (
  bif decide (k_3 < (p_0.n : Int)) then (
  bif decide ((p_0.n : Int) ≤ 8) then (
  idxK 1 p_0 k_3 fun (a2 : Addr) =>
  load1 (.int .i64) a2 w fun (ξ3 : Int) =>
  pcall1 .bool PP F.spec_l1In #[vI ξ3, vI 1, vI (p_0.n : Int)] fun (ρ4 : Bool) =>
  bif !ρ4 then (
  drewAll w fun ω5 =>
  Q .ret [(2, .bool false)] ω5)
  else (
  cutK 1 p_0 none (some k_3) fun (s6 : Sl) =>
  idxK 1 p_0 k_3 fun (a7 : Addr) =>
  load1 (.int .i64) a7 w fun (ξ8 : Int) =>
  qcall1 .bool PP F.spec_l2Has #[Sl.v s6, vI ξ8] w fun (ρ9 : Bool) =>
  drewAll w fun ω10 =>
  bif ρ9 then (
  Q .ret [(2, .bool false)] ω10)
  else (
  k (emb2 p_0 (w64 (k_3 + 1))) ω10)))
  else (
  Q (.exit 0) (x0 p_0) w))
  else (
  Q (.exit 0) (x0 p_0) w)) := B2_eq std p_0 k_3 w k Q
theorem L2_rule (p_0 : Sl) (k_3 : Int) (w : World) (Q : Exit → Env → World → Prop) (I : Int → World → Prop) (μ : Int → World → Nat) (h0 : I k_3 w)
    (h : ∀ (k_3 : Int) (w' : World), I k_3 w' → B2 std p_0 k_3 w' (fun e2 w2 => ∃ k_3_n, e2 = emb2 p_0 k_3_n ∧ I k_3_n w2 ∧ μ k_3_n w2 < μ k_3 w') Q) :
    L2 std p_0 k_3 w Q := by
  unfold L2
  refine LoopE.intro (σ := Int) (step := S2 std Q) (fun s => emb2 p_0 s) (fun s w => I s w) (fun s w => μ s w) k_3 rfl h0 ?_
  intro s w' hI
  have h1 := h s w' hI
  unfold B2 at h1
  exact h1
theorem A2_0_eq (pr : Prims) (p_0 : Sl) (w : World) (R : Ending → World → Prop) : (q1 pr R) (.exit 0) (x0 p_0) w = (
  R (.returned (.bool (decide ((p_0.n : Int) ≤ 8)))) w) := by kernel_rfl
theorem A2_0_s (p_0 : Sl) (w : World) (R : Ending → World → Prop) : (q1 std R) (.exit 0) (x0 p_0) w = (
  R (.returned (.bool (decide ((p_0.n : Int) ≤ 8)))) w) := A2_0_eq std p_0 w R
theorem R2_eq (pr : Prims) (v2 : Value) (w : World) (R : Ending → World → Prop) : (q1 pr R) .ret [(2, v2)] w = (
  R (.returned (v2)) w) := by kernel_rfl
theorem R2_s (v2 : Value) (w : World) (R : Ending → World → Prop) : (q1 std R) .ret [(2, v2)] w = (
  R (.returned (v2)) w) := R2_eq std v2 w R
theorem E_eq (pr : Prims) (p_0 : Sl) (w : World) (R : Ending → World → Prop) : E pr p_0 w R = (
  L2 pr p_0 0 w (q1 pr R)) := by kernel_rfl
theorem E_s (p_0 : Sl) (w : World) (R : Ending → World → Prop) : E std p_0 w R = (
  L2 std p_0 0 w (q1 std R)) := E_eq std p_0 w R
theorem drawsOk : drawsOk PP cfg okD (codeOf Try.f46) = true := by kernel_rfl
theorem calls (p_0 : Sl) {w : World} {R : Ending → World → Prop} (h : E std p_0 w R) : Calls PP F.spec_IsPerm #[Sl.v p_0] w R :=
  calls_of noCount mixed drawOk Try.func46 rfl (c := cfg) (args := [Sl.v p_0]) rfl (Nat.le_of_ble_eq_true (by kernel_rfl)) drawsOk h
end spec_IsPerm

namespace spec_l2Has
@[reducible] def cfg : Cfg := ⟨18, [(2, [0, 1, 5])], [(1, [0, 1, 5]), (0, [])], [], [4], [], [73, 46, 18, 22, 43, 45, 72, 88, 85, 80, 81, 70], [56, 63, 74, 86, 89, 64]⟩
def q0 (pr : Prims) (R : Ending → World → Prop) : Exit → Env → World → Prop := fun ex e w => normQ ex (fun e w => contE pr cfg (sub (codeOf Try.f73) [1, 1]) (fun e w => wpC pr PP cfg (DD pr) (sub (codeOf Try.f73) [1, 1]) (retQ Try.f73.results.toList R) e w) e w) (retQ Try.f73.results.toList R) e w
def q1 (pr : Prims) (R : Ending → World → Prop) : Exit → Env → World → Prop := fun ex e w => blockQ ex 0 (q0 pr R) e w
def emb2 (list_0 : Sl) (n_1 : Int) (k_5 : Int) : Env := [(0, Sl.v list_0), (1, vI n_1), (5, vI k_5)]
def x0 : Env := []
def S2 (pr : Prims) (Q : Exit → Env → World → Prop) : (Env → World → Prop) → Env → World → Prop := fun k e w => wpC pr PP cfg (DD pr) (sub (codeOf Try.f73) [1, 0, 1, 0, 0]) (fun ex e w => normQ ex (fun e' w' => k (Env.restr e' (lookN cfg.loops (keyOf (sub (codeOf Try.f73) [1, 0, 1, 0, 0])))) w') Q e w) e w
def B2 (pr : Prims) (list_0 : Sl) (n_1 : Int) (k_5 : Int) (w : World) (k : Env → World → Prop) (Q : Exit → Env → World → Prop) : Prop :=
  S2 pr Q k (emb2 list_0 n_1 k_5) w
def L2 (pr : Prims) (list_0 : Sl) (n_1 : Int) (k_5 : Int) (w : World) (Q : Exit → Env → World → Prop) : Prop :=
  pr.loop (S2 pr Q) (emb2 list_0 n_1 k_5) w
def E (pr : Prims) (list_0 : Sl) (n_1 : Int) (w : World) (R : Ending → World → Prop) : Prop :=
  wpC pr PP cfg (DD pr) (codeOf Try.f73) (retQ Try.f73.results.toList R) (argE 0 [Sl.v list_0, vI n_1]) w
theorem B2_eq (pr : Prims) (list_0 : Sl) (n_1 : Int) (k_5 : Int) (w : World) (k : Env → World → Prop) (Q : Exit → Env → World → Prop) : B2 pr list_0 n_1 k_5 w k Q = (
  bif decide (k_5 < (list_0.n : Int)) then (
  pr.idxK 1 list_0 k_5 fun (a2 : Addr) =>
  pr.load1 (.int .i64) a2 w fun (ξ3 : Int) =>
  bif ξ3 == n_1 then (
  Q .ret [(4, .bool true)] w)
  else (
  k (emb2 list_0 n_1 (w64 (k_5 + 1))) w))
  else (
  Q (.exit 0) (x0) w)) := by kernel_rfl
theorem B2_s (list_0 : Sl) (n_1 : Int) (k_5 : Int) (w : World) (k : Env → World → Prop) (Q : Exit → Env → World → Prop) : B2 std list_0 n_1 k_5 w k Q = (
  bif decide (k_5 < (list_0.n : Int)) then (
  idxK 1 list_0 k_5 fun (a2 : Addr) =>
  load1 (.int .i64) a2 w fun (ξ3 : Int) =>
  bif ξ3 == n_1 then (
  Q .ret [(4, .bool true)] w)
  else (
  k (emb2 list_0 n_1 (w64 (k_5 + 1))) w))
  else (
  Q (.exit 0) (x0) w)) := B2_eq std list_0 n_1 k_5 w k Q
theorem L2_rule (list_0 : Sl) (n_1 : Int) (k_5 : Int) (w : World) (Q : Exit → Env → World → Prop) (I : Int → World → Prop) (μ : Int → World → Nat) (h0 : I k_5 w)
    (h : ∀ (k_5 : Int) (w' : World), I k_5 w' → B2 std list_0 n_1 k_5 w' (fun e2 w2 => ∃ k_5_n, e2 = emb2 list_0 n_1 k_5_n ∧ I k_5_n w2 ∧ μ k_5_n w2 < μ k_5 w') Q) :
    L2 std list_0 n_1 k_5 w Q := by
  unfold L2
  refine LoopE.intro (σ := Int) (step := S2 std Q) (fun s => emb2 list_0 n_1 s) (fun s w => I s w) (fun s w => μ s w) k_5 rfl h0 ?_
  intro s w' hI
  have h1 := h s w' hI
  unfold B2 at h1
  exact h1
theorem A2_0_eq (pr : Prims) (w : World) (R : Ending → World → Prop) : (q1 pr R) (.exit 0) (x0) w = (
  R (.returned (.bool false)) w) := by kernel_rfl
theorem A2_0_s (w : World) (R : Ending → World → Prop) : (q1 std R) (.exit 0) (x0) w = (
  R (.returned (.bool false)) w) := A2_0_eq std w R
theorem R2_eq (pr : Prims) (v4 : Value) (w : World) (R : Ending → World → Prop) : (q1 pr R) .ret [(4, v4)] w = (
  R (.returned (v4)) w) := by kernel_rfl
theorem R2_s (v4 : Value) (w : World) (R : Ending → World → Prop) : (q1 std R) .ret [(4, v4)] w = (
  R (.returned (v4)) w) := R2_eq std v4 w R
theorem E_eq (pr : Prims) (list_0 : Sl) (n_1 : Int) (w : World) (R : Ending → World → Prop) : E pr list_0 n_1 w R = (
  L2 pr list_0 n_1 0 w (q1 pr R)) := by kernel_rfl
theorem E_s (list_0 : Sl) (n_1 : Int) (w : World) (R : Ending → World → Prop) : E std list_0 n_1 w R = (
  L2 std list_0 n_1 0 w (q1 std R)) := E_eq std list_0 n_1 w R
theorem drawsOk : drawsOk PP cfg okD (codeOf Try.f73) = true := by kernel_rfl
theorem calls (list_0 : Sl) (n_1 : Int) {w : World} {R : Ending → World → Prop} (h : E std list_0 n_1 w R) : Calls PP F.spec_l2Has #[Sl.v list_0, vI n_1] w R :=
  calls_of noCount mixed drawOk Try.func73 rfl (c := cfg) (args := [Sl.v list_0, vI n_1]) rfl (Nat.le_of_ble_eq_true (by kernel_rfl)) drawsOk h
end spec_l2Has

namespace laws_toIntS
@[reducible] def cfg : Cfg := ⟨22, [(3, [0, 3, 4])], [(1, [0, 3, 4]), (0, [3])], [], [2], [], [73, 46, 18, 22, 43, 45, 72, 88, 85, 80, 81, 70], [56, 63, 74, 86, 89, 64]⟩
def q2 (pr : Prims) (R : Ending → World → Prop) : Exit → Env → World → Prop := fun ex e w => normQ ex (fun e w => contE pr cfg (sub (codeOf Try.f16) [1, 1, 1]) (fun e w => wpC pr PP cfg (DD pr) (sub (codeOf Try.f16) [1, 1, 1]) (retQ Try.f16.results.toList R) e w) e w) (retQ Try.f16.results.toList R) e w
def q3 (pr : Prims) (R : Ending → World → Prop) : Exit → Env → World → Prop := fun ex e w => blockQ ex 0 (q2 pr R) e w
def emb3 (a_0 : Sl) (out_3 : Sl) (i_4 : Int) : Env := [(0, Sl.v a_0), (3, Sl.v out_3), (4, vI i_4)]
def x0 (out_3 : Sl) : Env := [(3, Sl.v out_3)]
def S3 (pr : Prims) (Q : Exit → Env → World → Prop) : (Env → World → Prop) → Env → World → Prop := fun k e w => wpC pr PP cfg (DD pr) (sub (codeOf Try.f16) [1, 1, 0, 1, 0, 0]) (fun ex e w => normQ ex (fun e' w' => k (Env.restr e' (lookN cfg.loops (keyOf (sub (codeOf Try.f16) [1, 1, 0, 1, 0, 0])))) w') Q e w) e w
def B3 (pr : Prims) (a_0 : Sl) (out_3 : Sl) (i_4 : Int) (w : World) (k : Env → World → Prop) (Q : Exit → Env → World → Prop) : Prop :=
  S3 pr Q k (emb3 a_0 out_3 i_4) w
def L3 (pr : Prims) (a_0 : Sl) (out_3 : Sl) (i_4 : Int) (w : World) (Q : Exit → Env → World → Prop) : Prop :=
  pr.loop (S3 pr Q) (emb3 a_0 out_3 i_4) w
def E (pr : Prims) (a_0 : Sl) (w : World) (R : Ending → World → Prop) : Prop :=
  wpC pr PP cfg (DD pr) (codeOf Try.f16) (retQ Try.f16.results.toList R) (argE 0 [Sl.v a_0]) w
theorem B3_eq (pr : Prims) (a_0 : Sl) (out_3 : Sl) (i_4 : Int) (w : World) (k : Env → World → Prop) (Q : Exit → Env → World → Prop) : B3 pr a_0 out_3 i_4 w k Q = (
  bif decide (i_4 < (a_0.n : Int)) then (
  pr.idxK 1 a_0 i_4 fun (a4 : Addr) =>
  pr.load1 (.int .i64) a4 w fun (ξ5 : Int) =>
  pr.idxK 1 out_3 i_4 fun (a6 : Addr) =>
  pr.storeC a6 (vI ξ5) w fun ω7 =>
  k (emb3 a_0 out_3 (w64 (i_4 + 1))) ω7)
  else (
  Q (.exit 0) (x0 out_3) w)) := by kernel_rfl
theorem B3_s (a_0 : Sl) (out_3 : Sl) (i_4 : Int) (w : World) (k : Env → World → Prop) (Q : Exit → Env → World → Prop) : B3 std a_0 out_3 i_4 w k Q = (
  bif decide (i_4 < (a_0.n : Int)) then (
  idxK 1 a_0 i_4 fun (a4 : Addr) =>
  load1 (.int .i64) a4 w fun (ξ5 : Int) =>
  idxK 1 out_3 i_4 fun (a6 : Addr) =>
  storeC a6 (vI ξ5) w fun ω7 =>
  k (emb3 a_0 out_3 (w64 (i_4 + 1))) ω7)
  else (
  Q (.exit 0) (x0 out_3) w)) := B3_eq std a_0 out_3 i_4 w k Q
theorem L3_rule (a_0 : Sl) (out_3 : Sl) (i_4 : Int) (w : World) (Q : Exit → Env → World → Prop) (I : Int → World → Prop) (μ : Int → World → Nat) (h0 : I i_4 w)
    (h : ∀ (i_4 : Int) (w' : World), I i_4 w' → B3 std a_0 out_3 i_4 w' (fun e2 w2 => ∃ i_4_n, e2 = emb3 a_0 out_3 i_4_n ∧ I i_4_n w2 ∧ μ i_4_n w2 < μ i_4 w') Q) :
    L3 std a_0 out_3 i_4 w Q := by
  unfold L3
  refine LoopE.intro (σ := Int) (step := S3 std Q) (fun s => emb3 a_0 out_3 s) (fun s w => I s w) (fun s w => μ s w) i_4 rfl h0 ?_
  intro s w' hI
  have h1 := h s w' hI
  unfold B3 at h1
  exact h1
theorem A3_0_eq (pr : Prims) (out_3 : Sl) (w : World) (R : Ending → World → Prop) : (q3 pr R) (.exit 0) (x0 out_3) w = (
  R (.returned (Sl.v out_3)) w) := by kernel_rfl
theorem A3_0_s (out_3 : Sl) (w : World) (R : Ending → World → Prop) : (q3 std R) (.exit 0) (x0 out_3) w = (
  R (.returned (Sl.v out_3)) w) := A3_0_eq std out_3 w R
theorem E_eq (pr : Prims) (a_0 : Sl) (w : World) (R : Ending → World → Prop) : E pr a_0 w R = (
  pr.sem1 .sl PP (Instr.makeSlice T_Sint (vI (a_0.n : Int)) (vI (a_0.n : Int))) w fun (ρ0 : Sl) ω1 =>
  L3 pr a_0 ρ0 0 ω1 (q3 pr R)) := by kernel_rfl
theorem E_s (a_0 : Sl) (w : World) (R : Ending → World → Prop) : E std a_0 w R = (
  sem1 .sl PP (Instr.makeSlice T_Sint (vI (a_0.n : Int)) (vI (a_0.n : Int))) w fun (ρ0 : Sl) ω1 =>
  L3 std a_0 ρ0 0 ω1 (q3 std R)) := E_eq std a_0 w R
theorem drawsOk : drawsOk PP cfg okD (codeOf Try.f16) = true := by kernel_rfl
theorem calls (a_0 : Sl) {w : World} {R : Ending → World → Prop} (h : E std a_0 w R) : Calls PP F.laws_toIntS #[Sl.v a_0] w R :=
  calls_of noCount mixed drawOk Try.func16 rfl (c := cfg) (args := [Sl.v a_0]) rfl (Nat.le_of_ble_eq_true (by kernel_rfl)) drawsOk h
end laws_toIntS

namespace laws_eqIntS
@[reducible] def cfg : Cfg := ⟨26, [(4, [0, 1, 5])], [(1, [0, 1, 5]), (0, [])], [], [4], [6], [73, 46, 18, 22, 43, 45, 72, 88, 85, 80, 81, 70], [56, 63, 74, 86, 89, 64]⟩
def q0 (pr : Prims) (R : Ending → World → Prop) : Exit → Env → World → Prop := fun ex e w => normQ ex (fun e w => contE pr cfg (sub (codeOf Try.f18) [1, 1, 1]) (fun e w => wpC pr PP cfg (DD pr) (sub (codeOf Try.f18) [1, 1, 1]) (retQ Try.f18.results.toList R) e w) e w) (retQ Try.f18.results.toList R) e w
def q1 (pr : Prims) (R : Ending → World → Prop) : Exit → Env → World → Prop := fun ex e w => blockQ ex 0 (q0 pr R) e w
def emb4 (a_0 : Sl) (b_1 : Sl) (i_5 : Int) : Env := [(0, Sl.v a_0), (1, Sl.v b_1), (5, vI i_5)]
def x0 : Env := []
def S4 (pr : Prims) (Q : Exit → Env → World → Prop) : (Env → World → Prop) → Env → World → Prop := fun k e w => wpC pr PP cfg (DD pr) (sub (codeOf Try.f18) [1, 1, 0, 1, 0, 0]) (fun ex e w => normQ ex (fun e' w' => k (Env.restr e' (lookN cfg.loops (keyOf (sub (codeOf Try.f18) [1, 1, 0, 1, 0, 0])))) w') Q e w) e w
def B4 (pr : Prims) (a_0 : Sl) (b_1 : Sl) (i_5 : Int) (w : World) (k : Env → World → Prop) (Q : Exit → Env → World → Prop) : Prop :=
  S4 pr Q k (emb4 a_0 b_1 i_5) w
def L4 (pr : Prims) (a_0 : Sl) (b_1 : Sl) (i_5 : Int) (w : World) (Q : Exit → Env → World → Prop) : Prop :=
  pr.loop (S4 pr Q) (emb4 a_0 b_1 i_5) w
def E (pr : Prims) (a_0 : Sl) (b_1 : Sl) (w : World) (R : Ending → World → Prop) : Prop :=
  wpC pr PP cfg (DD pr) (codeOf Try.f18) (retQ Try.f18.results.toList R) (argE 0 [Sl.v a_0, Sl.v b_1]) w
theorem B4_eq (pr : Prims) (a_0 : Sl) (b_1 : Sl) (i_5 : Int) (w : World) (k : Env → World → Prop) (Q : Exit → Env → World → Prop) : B4 pr a_0 b_1 i_5 w k Q = (
  bif decide (i_5 < (a_0.n : Int)) then (
  pr.idxK 1 a_0 i_5 fun (a2 : Addr) =>
  pr.load1 (.int .i64) a2 w fun (ξ3 : Int) =>
  pr.idxK 1 b_1 i_5 fun (a4 : Addr) =>
  pr.load1 (.int .i64) a4 w fun (ξ5 : Int) =>
  pr.drewAll w fun ω6 =>
  bif ξ3 != ξ5 then (
  Q .ret [(4, .bool false)] ω6)
  else (
  k (emb4 a_0 b_1 (w64 (i_5 + 1))) ω6))
  else (
  Q (.exit 0) (x0) w)) := by kernel_rfl
theorem B4_s (a_0 : Sl) (b_1 : Sl) (i_5 : Int) (w : World) (k : Env → World → Prop) (Q : Exit → Env → World → Prop) : B4 std a_0 b_1 i_5 w k Q = (
  bif decide (i_5 < (a_0.n : Int)) then (
  idxK 1 a_0 i_5 fun (a2 : Addr) =>
  load1 (.int .i64) a2 w fun (ξ3 : Int) =>
  idxK 1 b_1 i_5 fun (a4 : Addr) =>
  load1 (.int .i64) a4 w fun (ξ5 : Int) =>
  drewAll w fun ω6 =>
  bif ξ3 != ξ5 then (
  Q .ret [(4, .bool false)] ω6)
  else (
  k (emb4 a_0 b_1 (w64 (i_5 + 1))) ω6))
  else (
  Q (.exit 0) (x0) w)) := B4_eq std a_0 b_1 i_5 w k Q
theorem L4_rule (a_0 : Sl) (b_1 : Sl) (i_5 : Int) (w : World) (Q : Exit → Env → World → Prop) (I : Int → World → Prop) (μ : Int → World → Nat) (h0 : I i_5 w)
    (h : ∀ (i_5 : Int) (w' : World), I i_5 w' → B4 std a_0 b_1 i_5 w' (fun e2 w2 => ∃ i_5_n, e2 = emb4 a_0 b_1 i_5_n ∧ I i_5_n w2 ∧ μ i_5_n w2 < μ i_5 w') Q) :
    L4 std a_0 b_1 i_5 w Q := by
  unfold L4
  refine LoopE.intro (σ := Int) (step := S4 std Q) (fun s => emb4 a_0 b_1 s) (fun s w => I s w) (fun s w => μ s w) i_5 rfl h0 ?_
  intro s w' hI
  have h1 := h s w' hI
  unfold B4 at h1
  exact h1
theorem A4_0_eq (pr : Prims) (w : World) (R : Ending → World → Prop) : (q1 pr R) (.exit 0) (x0) w = (
  R (.returned (.bool true)) w) := by kernel_rfl
theorem A4_0_s (w : World) (R : Ending → World → Prop) : (q1 std R) (.exit 0) (x0) w = (
  R (.returned (.bool true)) w) := A4_0_eq std w R
theorem R4_eq (pr : Prims) (v4 : Value) (w : World) (R : Ending → World → Prop) : (q1 pr R) .ret [(4, v4)] w = (
  R (.returned (v4)) w) := by kernel_rfl
theorem R4_s (v4 : Value) (w : World) (R : Ending → World → Prop) : (q1 std R) .ret [(4, v4)] w = (
  R (.returned (v4)) w) := R4_eq std v4 w R
theorem E_eq (pr : Prims) (a_0 : Sl) (b_1 : Sl) (w : World) (R : Ending → World → Prop) : E pr a_0 b_1 w R = (
  bif (a_0.n : Int) != (b_1.n : Int) then (
  R (.returned (.bool false)) w)
  else (
  L4 pr a_0 b_1 0 w (q1 pr R))) := by kernel_rfl
theorem E_s (a_0 : Sl) (b_1 : Sl) (w : World) (R : Ending → World → Prop) : E std a_0 b_1 w R = (
  bif (a_0.n : Int) != (b_1.n : Int) then (
  R (.returned (.bool false)) w)
  else (
  L4 std a_0 b_1 0 w (q1 std R))) := E_eq std a_0 b_1 w R
theorem drawsOk : drawsOk PP cfg okD (codeOf Try.f18) = true := by kernel_rfl
theorem calls (a_0 : Sl) (b_1 : Sl) {w : World} {R : Ending → World → Prop} (h : E std a_0 b_1 w R) : Calls PP F.laws_eqIntS #[Sl.v a_0, Sl.v b_1] w R :=
  calls_of noCount mixed drawOk Try.func18 rfl (c := cfg) (args := [Sl.v a_0, Sl.v b_1]) rfl (Nat.le_of_ble_eq_true (by kernel_rfl)) drawsOk h
end laws_eqIntS

namespace laws_markIntS
@[reducible] def cfg : Cfg := ⟨19, [(2, [0, 1, 5])], [(1, [0, 1, 5]), (0, [1])], [], [4], [], [73, 46, 18, 22, 43, 45, 72, 88, 85, 80, 81, 70], [56, 63, 74, 86, 89, 64]⟩
def q0 (pr : Prims) (R : Ending → World → Prop) : Exit → Env → World → Prop := fun ex e w => normQ ex (fun e w => contE pr cfg (sub (codeOf Try.f21) [1, 1]) (fun e w => wpC pr PP cfg (DD pr) (sub (codeOf Try.f21) [1, 1]) (retQ Try.f21.results.toList R) e w) e w) (retQ Try.f21.results.toList R) e w
def q1 (pr : Prims) (R : Ending → World → Prop) : Exit → Env → World → Prop := fun ex e w => blockQ ex 0 (q0 pr R) e w
def emb2 (a_0 : Sl) (k_1 : Int) (i_5 : Int) : Env := [(0, Sl.v a_0), (1, vI k_1), (5, vI i_5)]
def x0 (k_1 : Int) : Env := [(1, vI k_1)]
def S2 (pr : Prims) (Q : Exit → Env → World → Prop) : (Env → World → Prop) → Env → World → Prop := fun k e w => wpC pr PP cfg (DD pr) (sub (codeOf Try.f21) [1, 0, 1, 0, 0]) (fun ex e w => normQ ex (fun e' w' => k (Env.restr e' (lookN cfg.loops (keyOf (sub (codeOf Try.f21) [1, 0, 1, 0, 0])))) w') Q e w) e w
def B2 (pr : Prims) (a_0 : Sl) (k_1 : Int) (i_5 : Int) (w : World) (k : Env → World → Prop) (Q : Exit → Env → World → Prop) : Prop :=
  S2 pr Q k (emb2 a_0 k_1 i_5) w
def L2 (pr : Prims) (a_0 : Sl) (k_1 : Int) (i_5 : Int) (w : World) (Q : Exit → Env → World → Prop) : Prop :=
  pr.loop (S2 pr Q) (emb2 a_0 k_1 i_5) w
def E (pr : Prims) (a_0 : Sl) (k_1 : Int) (w : World) (R : Ending → World → Prop) : Prop :=
  wpC pr PP cfg (DD pr) (codeOf Try.f21) (retQ Try.f21.results.toList R) (argE 0 [Sl.v a_0, vI k_1]) w
theorem B2_eq (pr : Prims) (a_0 : Sl) (k_1 : Int) (i_5 : Int) (w : World) (k : Env → World → Prop) (Q : Exit → Env → World → Prop) : B2 pr a_0 k_1 i_5 w k Q = (
  bif decide (i_5 < (a_0.n : Int)) then (
  pr.idxK 1 a_0 i_5 fun (a2 : Addr) =>
  pr.storeC a2 (vI k_1) w fun ω3 =>
  k (emb2 a_0 (w64 (k_1 + 1)) (w64 (i_5 + 1))) ω3)
  else (
  Q (.exit 0) (x0 k_1) w)) := by kernel_rfl
theorem B2_s (a_0 : Sl) (k_1 : Int) (i_5 : Int) (w : World) (k : Env → World → Prop) (Q : Exit → Env → World → Prop) : B2 std a_0 k_1 i_5 w k Q = (
  bif decide (i_5 < (a_0.n : Int)) then (
  idxK 1 a_0 i_5 fun (a2 : Addr) =>
  storeC a2 (vI k_1) w fun ω3 =>
  k (emb2 a_0 (w64 (k_1 + 1)) (w64 (i_5 + 1))) ω3)
  else (
  Q (.exit 0) (x0 k_1) w)) := B2_eq std a_0 k_1 i_5 w k Q
theorem L2_rule (a_0 : Sl) (k_1 : Int) (i_5 : Int) (w : World) (Q : Exit → Env → World → Prop) (I : Int → Int → World → Prop) (μ : Int → Int → World → Nat) (h0 : I k_1 i_5 w)
    (h : ∀ (k_1 : Int) (i_5 : Int) (w' : World), I k_1 i_5 w' → B2 std a_0 k_1 i_5 w' (fun e2 w2 => ∃ k_1_n i_5_n, e2 = emb2 a_0 k_1_n i_5_n ∧ I k_1_n i_5_n w2 ∧ μ k_1_n i_5_n w2 < μ k_1 i_5 w') Q) :
    L2 std a_0 k_1 i_5 w Q := by
  unfold L2
  refine LoopE.intro (σ := Int × Int) (step := S2 std Q) (fun s => emb2 a_0 s.1 s.2) (fun s w => I s.1 s.2 w) (fun s w => μ s.1 s.2 w) (k_1, i_5) rfl h0 ?_
  intro s w' hI
  have h1 := h s.1 s.2 w' hI
  unfold B2 at h1
  simp only [Prod.exists]
  exact h1
theorem A2_0_eq (pr : Prims) (k_1 : Int) (w : World) (R : Ending → World → Prop) : (q1 pr R) (.exit 0) (x0 k_1) w = (
  R (.returned (vI k_1)) w) := by kernel_rfl
theorem A2_0_s (k_1 : Int) (w : World) (R : Ending → World → Prop) : (q1 std R) (.exit 0) (x0 k_1) w = (
  R (.returned (vI k_1)) w) := A2_0_eq std k_1 w R
theorem E_eq (pr : Prims) (a_0 : Sl) (k_1 : Int) (w : World) (R : Ending → World → Prop) : E pr a_0 k_1 w R = (
  L2 pr a_0 k_1 0 w (q1 pr R)) := by kernel_rfl
theorem E_s (a_0 : Sl) (k_1 : Int) (w : World) (R : Ending → World → Prop) : E std a_0 k_1 w R = (
  L2 std a_0 k_1 0 w (q1 std R)) := E_eq std a_0 k_1 w R
theorem drawsOk : drawsOk PP cfg okD (codeOf Try.f21) = true := by kernel_rfl
theorem calls (a_0 : Sl) (k_1 : Int) {w : World} {R : Ending → World → Prop} (h : E std a_0 k_1 w R) : Calls PP F.laws_markIntS #[Sl.v a_0, vI k_1] w R :=
  calls_of noCount mixed drawOk Try.func21 rfl (c := cfg) (args := [Sl.v a_0, vI k_1]) rfl (Nat.le_of_ble_eq_true (by kernel_rfl)) drawsOk h
end laws_markIntS

namespace laws_heldIntS
@[reducible] def cfg : Cfg := ⟨21, [(2, [0, 1, 5])], [(1, [0, 1, 5]), (0, [1])], [], [4], [], [73, 46, 18, 22, 43, 45, 72, 88, 85, 80, 81, 70], [56, 63, 74, 86, 89, 64]⟩
def q0 (pr : Prims) (R : Ending → World → Prop) : Exit → Env → World → Prop := fun ex e w => normQ ex (fun e w => contE pr cfg (sub (codeOf Try.f22) [1, 1]) (fun e w => wpC pr PP cfg (DD pr) (sub (codeOf Try.f22) [1, 1]) (retQ Try.f22.results.toList R) e w) e w) (retQ Try.f22.results.toList R) e w
def q1 (pr : Prims) (R : Ending → World → Prop) : Exit → Env → World → Prop := fun ex e w => blockQ ex 0 (q0 pr R) e w
def emb2 (a_0 : Sl) (k_1 : Int) (i_5 : Int) : Env := [(0, Sl.v a_0), (1, vI k_1), (5, vI i_5)]
def x0 (k_1 : Int) : Env := [(1, vI k_1)]
def S2 (pr : Prims) (Q : Exit → Env → World → Prop) : (Env → World → Prop) → Env → World → Prop := fun k e w => wpC pr PP cfg (DD pr) (sub (codeOf Try.f22) [1, 0, 1, 0, 0]) (fun ex e w => normQ ex (fun e' w' => k (Env.restr e' (lookN cfg.loops (keyOf (sub (codeOf Try.f22) [1, 0, 1, 0, 0])))) w') Q e w) e w
def B2 (pr : Prims) (a_0 : Sl) (k_1 : Int) (i_5 : Int) (w : World) (k : Env → World → Prop) (Q : Exit → Env → World → Prop) : Prop :=
  S2 pr Q k (emb2 a_0 k_1 i_5) w
def L2 (pr : Prims) (a_0 : Sl) (k_1 : Int) (i_5 : Int) (w : World) (Q : Exit → Env → World → Prop) : Prop :=
  pr.loop (S2 pr Q) (emb2 a_0 k_1 i_5) w
def E (pr : Prims) (a_0 : Sl) (k_1 : Int) (w : World) (R : Ending → World → Prop) : Prop :=
  wpC pr PP cfg (DD pr) (codeOf Try.f22) (retQ Try.f22.results.toList R) (argE 0 [Sl.v a_0, vI k_1]) w
theorem B2_eq (pr : Prims) (a_0 : Sl) (k_1 : Int) (i_5 : Int) (w : World) (k : Env → World → Prop) (Q : Exit → Env → World → Prop) : B2 pr a_0 k_1 i_5 w k Q = (
  bif decide (i_5 < (a_0.n : Int)) then (
  pr.idxK 1 a_0 i_5 fun (a2 : Addr) =>
  pr.load1 (.int .i64) a2 w fun (ξ3 : Int) =>
  bif ξ3 != k_1 then (
  Q .ret [(4, vI (-1))] w)
  else (
  k (emb2 a_0 (w64 (k_1 + 1)) (w64 (i_5 + 1))) w))
  else (
  Q (.exit 0) (x0 k_1) w)) := by kernel_rfl
theorem B2_s (a_0 : Sl) (k_1 : Int) (i_5 : Int) (w : World) (k : Env → World → Prop) (Q : Exit → Env → World → Prop) : B2 std a_0 k_1 i_5 w k Q = (
  bif decide (i_5 < (a_0.n : Int)) then (
  idxK 1 a_0 i_5 fun (a2 : Addr) =>
  load1 (.int .i64) a2 w fun (ξ3 : Int) =>
  bif ξ3 != k_1 then (
  Q .ret [(4, vI (-1))] w)
  else (
  k (emb2 a_0 (w64 (k_1 + 1)) (w64 (i_5 + 1))) w))
  else (
  Q (.exit 0) (x0 k_1) w)) := B2_eq std a_0 k_1 i_5 w k Q
theorem L2_rule (a_0 : Sl) (k_1 : Int) (i_5 : Int) (w : World) (Q : Exit → Env → World → Prop) (I : Int → Int → World → Prop) (μ : Int → Int → World → Nat) (h0 : I k_1 i_5 w)
    (h : ∀ (k_1 : Int) (i_5 : Int) (w' : World), I k_1 i_5 w' → B2 std a_0 k_1 i_5 w' (fun e2 w2 => ∃ k_1_n i_5_n, e2 = emb2 a_0 k_1_n i_5_n ∧ I k_1_n i_5_n w2 ∧ μ k_1_n i_5_n w2 < μ k_1 i_5 w') Q) :
    L2 std a_0 k_1 i_5 w Q := by
  unfold L2
  refine LoopE.intro (σ := Int × Int) (step := S2 std Q) (fun s => emb2 a_0 s.1 s.2) (fun s w => I s.1 s.2 w) (fun s w => μ s.1 s.2 w) (k_1, i_5) rfl h0 ?_
  intro s w' hI
  have h1 := h s.1 s.2 w' hI
  unfold B2 at h1
  simp only [Prod.exists]
  exact h1
theorem A2_0_eq (pr : Prims) (k_1 : Int) (w : World) (R : Ending → World → Prop) : (q1 pr R) (.exit 0) (x0 k_1) w = (
  R (.returned (vI k_1)) w) := by kernel_rfl
theorem A2_0_s (k_1 : Int) (w : World) (R : Ending → World → Prop) : (q1 std R) (.exit 0) (x0 k_1) w = (
  R (.returned (vI k_1)) w) := A2_0_eq std k_1 w R
theorem R2_eq (pr : Prims) (v4 : Value) (w : World) (R : Ending → World → Prop) : (q1 pr R) .ret [(4, v4)] w = (
  R (.returned (v4)) w) := by kernel_rfl
theorem R2_s (v4 : Value) (w : World) (R : Ending → World → Prop) : (q1 std R) .ret [(4, v4)] w = (
  R (.returned (v4)) w) := R2_eq std v4 w R
theorem E_eq (pr : Prims) (a_0 : Sl) (k_1 : Int) (w : World) (R : Ending → World → Prop) : E pr a_0 k_1 w R = (
  L2 pr a_0 k_1 0 w (q1 pr R)) := by kernel_rfl
theorem E_s (a_0 : Sl) (k_1 : Int) (w : World) (R : Ending → World → Prop) : E std a_0 k_1 w R = (
  L2 std a_0 k_1 0 w (q1 std R)) := E_eq std a_0 k_1 w R
theorem drawsOk : drawsOk PP cfg okD (codeOf Try.f22) = true := by kernel_rfl
theorem calls (a_0 : Sl) (k_1 : Int) {w : World} {R : Ending → World → Prop} (h : E std a_0 k_1 w R) : Calls PP F.laws_heldIntS #[Sl.v a_0, vI k_1] w R :=
  calls_of noCount mixed drawOk Try.func22 rfl (c := cfg) (args := [Sl.v a_0, vI k_1]) rfl (Nat.le_of_ble_eq_true (by kernel_rfl)) drawsOk h
end laws_heldIntS

namespace impl_lengths
@[reducible] def cfg : Cfg := ⟨95, [(7, [0, 4, 5, 6, 7]), (3, [0, 4, 5, 6])], [(4, [0, 4, 5, 6, 7]), (3, [0, 4, 5, 6, 7]), (2, [0, 4, 5, 6]), (1, [0, 4, 5, 6]), (0, [4, 5])], [(2, [0, 4, 5])], [2, 3], [10, 11], [73, 46, 18, 22, 43, 45, 72, 88, 85, 80, 81, 70], [56, 63, 74, 86, 89, 64]⟩
def q0 (pr : Prims) (R : Ending → World → Prop) : Exit → Env → World → Prop := fun ex e w => normQ ex (fun e w => contE pr cfg (sub (codeOf Try.f61) [1, 1]) (fun e w => wpC pr PP cfg (DD pr) (sub (codeOf Try.f61) [1, 1]) (retQ Try.f61.results.toList R) e w) e w) (retQ Try.f61.results.toList R) e w
def q6 (pr : Prims) (R : Ending → World → Prop) : Exit → Env → World → Prop := fun ex e w => normQ ex (fun e w => contE pr cfg (sub (codeOf Try.f61) [1, 1, 1]) (fun e w => wpC pr PP cfg (DD pr) (sub (codeOf Try.f61) [1, 1, 1]) (retQ Try.f61.results.toList R) e w) e w) (retQ Try.f61.results.toList R) e w
def q7 (pr : Prims) (R : Ending → World → Prop) : Exit → Env → World → Prop := fun ex e w => blockQ ex 0 (q6 pr R) e w
def q8 (pr : Prims) (k : Env → World → Prop) (Q : Exit → Env → World → Prop) : Exit → Env → World → Prop := fun ex e w => normQ ex (fun e w => contE pr cfg (sub (codeOf Try.f61) [1, 1, 0, 1, 0, 0, 1, 1]) (fun e w => wpC pr PP cfg (DD pr) (sub (codeOf Try.f61) [1, 1, 0, 1, 0, 0, 1, 1]) (fun ex e w => normQ ex (fun e' w' => k (Env.restr e' (lookN cfg.loops (keyOf (sub (codeOf Try.f61) [1, 1, 0, 1, 0, 0])))) w') Q e w) e w) e w) (fun ex e w => normQ ex (fun e' w' => k (Env.restr e' (lookN cfg.loops (keyOf (sub (codeOf Try.f61) [1, 1, 0, 1, 0, 0])))) w') Q e w) e w
def q9 (pr : Prims) (k : Env → World → Prop) (Q : Exit → Env → World → Prop) : Exit → Env → World → Prop := fun ex e w => blockQ ex 1 (q8 pr k Q) e w
def q14 (pr : Prims) (k : Env → World → Prop) (Q : Exit → Env → World → Prop) : Exit → Env → World → Prop := fun ex e w => blockQ ex 2 (q9 pr k Q) e w
def j2 (p_0 : Sl) (long_4 : Sl) (many_5 : Sl) : Env := [(0, Sl.v p_0), (4, Sl.v long_4), (5, Sl.v many_5)]
def emb3 (p_0 : Sl) (long_4 : Sl) (many_5 : Sl) (i_6 : Int) : Env := [(0, Sl.v p_0), (4, Sl.v long_4), (5, Sl.v many_5), (6, vI i_6)]
def emb7 (p_0 : Sl) (long_4 : Sl) (many_5 : Sl) (i_6 : Int) (k_7 : Int) : Env := [(0, Sl.v p_0), (4, Sl.v long_4), (5, Sl.v many_5), (6, vI i_6), (7, vI k_7)]
def x2 (p_0 : Sl) (long_4 : Sl) (many_5 : Sl) (i_6 : Int) : Env := [(0, Sl.v p_0), (4, Sl.v long_4), (5, Sl.v many_5), (6, vI i_6)]
def x0 (long_4 : Sl) (many_5 : Sl) : Env := [(4, Sl.v long_4), (5, Sl.v many_5)]
def S7 (pr : Prims) (Q : Exit → Env → World → Prop) : (Env → World → Prop) → Env → World → Prop := fun k e w => wpC pr PP cfg (DD pr) (sub (codeOf Try.f61) [1, 1, 0, 1, 0, 0, 1, 0, 0, 1, 1, 0, 0]) (fun ex e w => normQ ex (fun e' w' => k (Env.restr e' (lookN cfg.loops (keyOf (sub (codeOf Try.f61) [1, 1, 0, 1, 0, 0, 1, 0, 0, 1, 1, 0, 0])))) w') Q e w) e w
def S3 (pr : Prims) (Q : Exit → Env → World → Prop) : (Env → World → Prop) → Env → World → Prop := fun k e w => wpC pr PP cfg (DD pr) (sub (codeOf Try.f61) [1, 1, 0, 1, 0, 0]) (fun ex e w => normQ ex (fun e' w' => k (Env.restr e' (lookN cfg.loops (keyOf (sub (codeOf Try.f61) [1, 1, 0, 1, 0, 0])))) w') Q e w) e w
def B7 (pr : Prims) (p_0 : Sl) (long_4 : Sl) (many_5 : Sl) (i_6 : Int) (k_7 : Int) (w : World) (k : Env → World → Prop) (Q : Exit → Env → World → Prop) : Prop :=
  S7 pr Q k (emb7 p_0 long_4 many_5 i_6 k_7) w
def L7 (pr : Prims) (p_0 : Sl) (long_4 : Sl) (many_5 : Sl) (i_6 : Int) (k_7 : Int) (w : World) (Q : Exit → Env → World → Prop) : Prop :=
  pr.loop (S7 pr Q) (emb7 p_0 long_4 many_5 i_6 k_7) w
def B3 (pr : Prims) (p_0 : Sl) (long_4 : Sl) (many_5 : Sl) (i_6 : Int) (w : World) (k : Env → World → Prop) (Q : Exit → Env → World → Prop) : Prop :=
  S3 pr Q k (emb3 p_0 long_4 many_5 i_6) w
def L3 (pr : Prims) (p_0 : Sl) (long_4 : Sl) (many_5 : Sl) (i_6 : Int) (w : World) (Q : Exit → Env → World → Prop) : Prop :=
  pr.loop (S3 pr Q) (emb3 p_0 long_4 many_5 i_6) w
def J2 (pr : Prims) (p_0 : Sl) (long_4 : Sl) (many_5 : Sl) (w : World) (R : Ending → World → Prop) : Prop :=
  pr.seg (fun e w => wpC pr PP cfg (DD pr) (sub (codeOf Try.f61) [1, 1]) (retQ Try.f61.results.toList R) e w) (j2 p_0 long_4 many_5) w
def E (pr : Prims) (p_0 : Sl) (w : World) (R : Ending → World → Prop) : Prop :=
  wpC pr PP cfg (DD pr) (codeOf Try.f61) (retQ Try.f61.results.toList R) (argE 0 [Sl.v p_0]) w
theorem B7_eq (pr : Prims) (p_0 : Sl) (long_4 : Sl) (many_5 : Sl) (i_6 : Int) (k_7 : Int) (w : World) (k : Env → World → Prop) (Q : Exit → Env → World → Prop) : B7 pr p_0 long_4 many_5 i_6 k_7 w k Q = (
  bif decide (k_7 < (p_0.n : Int)) then (
  pr.idxK 1 p_0 k_7 fun (a15 : Addr) =>
  pr.load1 (.int .i64) a15 w fun (ξ16 : Int) =>
  pr.idxK 1 p_0 i_6 fun (a17 : Addr) =>
  pr.load1 (.int .i64) a17 w fun (ξ18 : Int) =>
  bif decide (ξ16 < ξ18) then (
  pr.drewAll w fun ω19 =>
  k (emb7 p_0 long_4 many_5 i_6 (w64 (k_7 + 1))) ω19)
  else (
  pr.idxK 1 long_4 k_7 fun (a20 : Addr) =>
  pr.load1 (.int .i64) a20 w fun (ξ21 : Int) =>
  pr.idxK 1 long_4 i_6 fun (a22 : Addr) =>
  pr.load1 (.int .i64) a22 w fun (ξ23 : Int) =>
  pr.drewAll w fun ω24 =>
  bif decide ((w64 (ξ21 + 1)) < ξ23) then (
  k (emb7 p_0 long_4 many_5 i_6 (w64 (k_7 + 1))) ω24)
  else (
  pr.idxK 1 long_4 k_7 fun (a25 : Addr) =>
  pr.load1 (.int .i64) a25 ω24 fun (ξ26 : Int) =>
  pr.idxK 1 long_4 i_6 fun (a27 : Addr) =>
  pr.load1 (.int .i64) a27 ω24 fun (ξ28 : Int) =>
  pr.drewAll ω24 fun ω29 =>
  bif decide ((w64 (ξ26 + 1)) > ξ28) then (
  pr.drewAll ω29 fun ω30 =>
  pr.idxK 1 long_4 k_7 fun (a31 : Addr) =>
  pr.idxK 1 many_5 k_7 fun (a32 : Addr) =>
  (pr.load1 (.int .i64) a31 ω30 fun (ξ33 : Int) =>
  pr.load1 (.int .i64) a32 ω30 fun (ξ34 : Int) =>
  pr.idxK 1 long_4 i_6 fun (a35 : Addr) =>
  pr.storeC a35 (vI (w64 (ξ33 + 1))) ω30 fun ω36 =>
  pr.idxK 1 many_5 i_6 fun (a37 : Addr) =>
  pr.storeC a37 (vI ξ34) ω36 fun ω38 =>
  k (emb7 p_0 long_4 many_5 i_6 (w64 (k_7 + 1))) ω38) ∧
  (pr.load1 (.int .i64) a32 ω30 fun (ξ39 : Int) =>
  pr.load1 (.int .i64) a31 ω30 fun (ξ40 : Int) =>
  pr.idxK 1 long_4 i_6 fun (a41 : Addr) =>
  pr.storeC a41 (vI (w64 (ξ40 + 1))) ω30 fun ω42 =>
  pr.idxK 1 many_5 i_6 fun (a43 : Addr) =>
  pr.storeC a43 (vI ξ39) ω42 fun ω44 =>
  k (emb7 p_0 long_4 many_5 i_6 (w64 (k_7 + 1))) ω44))
  else (
  pr.drewAll ω29 fun ω45 =>
  pr.idxK 1 many_5 i_6 fun (a46 : Addr) =>
  pr.idxK 1 many_5 k_7 fun (a47 : Addr) =>
  (pr.load1 (.int .i64) a46 ω45 fun (ξ48 : Int) =>
  pr.load1 (.int .i64) a47 ω45 fun (ξ49 : Int) =>
  pr.idxK 1 many_5 i_6 fun (a50 : Addr) =>
  pr.storeC a50 (vI (w64 (ξ48 + ξ49))) ω45 fun ω51 =>
  k (emb7 p_0 long_4 many_5 i_6 (w64 (k_7 + 1))) ω51) ∧
  (pr.load1 (.int .i64) a47 ω45 fun (ξ52 : Int) =>
  pr.load1 (.int .i64) a46 ω45 fun (ξ53 : Int) =>
  pr.idxK 1 many_5 i_6 fun (a54 : Addr) =>
  pr.storeC a54 (vI (w64 (ξ53 + ξ52))) ω45 fun ω55 =>
  k (emb7 p_0 long_4 many_5 i_6 (w64 (k_7 + 1))) ω55)))))
  else (
  Q (.exit 2) (x2 p_0 long_4 many_5 i_6) w)) := by kernel_rfl
theorem B7_s (p_0 : Sl) (long_4 : Sl) (many_5 : Sl) (i_6 : Int) (k_7 : Int) (w : World) (k : Env → World → Prop) (Q : Exit → Env → World → Prop) : B7 std p_0 long_4 many_5 i_6 k_7 w k Q = (
  bif decide (k_7 < (p_0.n : Int)) then (
  idxK 1 p_0 k_7 fun (a15 : Addr) =>
  load1 (.int .i64) a15 w fun (ξ16 : Int) =>
  idxK 1 p_0 i_6 fun (a17 : Addr) =>
  load1 (.int .i64) a17 w fun (ξ18 : Int) =>
  bif decide (ξ16 < ξ18) then (
  drewAll w fun ω19 =>
  k (emb7 p_0 long_4 many_5 i_6 (w64 (k_7 + 1))) ω19)
  else (
  idxK 1 long_4 k_7 fun (a20 : Addr) =>
  load1 (.int .i64) a20 w fun (ξ21 : Int) =>
  idxK 1 long_4 i_6 fun (a22 : Addr) =>
  load1 (.int .i64) a22 w fun (ξ23 : Int) =>
  drewAll w fun ω24 =>
  bif decide ((w64 (ξ21 + 1)) < ξ23) then (
  k (emb7 p_0 long_4 many_5 i_6 (w64 (k_7 + 1))) ω24)
  else (
  idxK 1 long_4 k_7 fun (a25 : Addr) =>
  load1 (.int .i64) a25 ω24 fun (ξ26 : Int) =>
  idxK 1 long_4 i_6 fun (a27 : Addr) =>
  load1 (.int .i64) a27 ω24 fun (ξ28 : Int) =>
  drewAll ω24 fun ω29 =>
  bif decide ((w64 (ξ26 + 1)) > ξ28) then (
  drewAll ω29 fun ω30 =>
  idxK 1 long_4 k_7 fun (a31 : Addr) =>
  idxK 1 many_5 k_7 fun (a32 : Addr) =>
  (load1 (.int .i64) a31 ω30 fun (ξ33 : Int) =>
  load1 (.int .i64) a32 ω30 fun (ξ34 : Int) =>
  idxK 1 long_4 i_6 fun (a35 : Addr) =>
  storeC a35 (vI (w64 (ξ33 + 1))) ω30 fun ω36 =>
  idxK 1 many_5 i_6 fun (a37 : Addr) =>
  storeC a37 (vI ξ34) ω36 fun ω38 =>
  k (emb7 p_0 long_4 many_5 i_6 (w64 (k_7 + 1))) ω38) ∧
  (load1 (.int .i64) a32 ω30 fun (ξ39 : Int) =>
  load1 (.int .i64) a31 ω30 fun (ξ40 : Int) =>
  idxK 1 long_4 i_6 fun (a41 : Addr) =>
  storeC a41 (vI (w64 (ξ40 + 1))) ω30 fun ω42 =>
  idxK 1 many_5 i_6 fun (a43 : Addr) =>
  storeC a43 (vI ξ39) ω42 fun ω44 =>
  k (emb7 p_0 long_4 many_5 i_6 (w64 (k_7 + 1))) ω44))
  else (
  drewAll ω29 fun ω45 =>
  idxK 1 many_5 i_6 fun (a46 : Addr) =>
  idxK 1 many_5 k_7 fun (a47 : Addr) =>
  (load1 (.int .i64) a46 ω45 fun (ξ48 : Int) =>
  load1 (.int .i64) a47 ω45 fun (ξ49 : Int) =>
  idxK 1 many_5 i_6 fun (a50 : Addr) =>
  storeC a50 (vI (w64 (ξ48 + ξ49))) ω45 fun ω51 =>
  k (emb7 p_0 long_4 many_5 i_6 (w64 (k_7 + 1))) ω51) ∧
  (load1 (.int .i64) a47 ω45 fun (ξ52 : Int) =>
  load1 (.int .i64) a46 ω45 fun (ξ53 : Int) =>
  idxK 1 many_5 i_6 fun (a54 : Addr) =>
  storeC a54 (vI (w64 (ξ53 + ξ52))) ω45 fun ω55 =>
  k (emb7 p_0 long_4 many_5 i_6 (w64 (k_7 + 1))) ω55)))))
  else (
  Q (.exit 2) (x2 p_0 long_4 many_5 i_6) w)) := B7_eq std p_0 long_4 many_5 i_6 k_7 w k Q
theorem L7_rule (p_0 : Sl) (long_4 : Sl) (many_5 : Sl) (i_6 : Int) (k_7 : Int) (w : World) (Q : Exit → Env → World → Prop) (I : Int → World → Prop) (μ : Int → World → Nat) (h0 : I k_7 w)
    (h : ∀ (k_7 : Int) (w' : World), I k_7 w' → B7 std p_0 long_4 many_5 i_6 k_7 w' (fun e2 w2 => ∃ k_7_n, e2 = emb7 p_0 long_4 many_5 i_6 k_7_n ∧ I k_7_n w2 ∧ μ k_7_n w2 < μ k_7 w') Q) :
    L7 std p_0 long_4 many_5 i_6 k_7 w Q := by
  unfold L7
  refine LoopE.intro (σ := Int) (step := S7 std Q) (fun s => emb7 p_0 long_4 many_5 i_6 s) (fun s w => I s w) (fun s w => μ s w) k_7 rfl h0 ?_
  intro s w' hI
  have h1 := h s w' hI
  unfold B7 at h1
  exact h1
theorem A7_2_eq (pr : Prims) (p_0 : Sl) (long_4 : Sl) (many_5 : Sl) (i_6 : Int) (w : World) (k : Env → World → Prop) (Q : Exit → Env → World → Prop) : (q14 pr k Q) (.exit 2) (x2 p_0 long_4 many_5 i_6) w = (
  k (emb3 p_0 long_4 many_5 (w64 (i_6 - 1))) w) := by kernel_rfl
theorem A7_2_s (p_0 : Sl) (long_4 : Sl) (many_5 : Sl) (i_6 : Int) (w : World) (k : Env → World → Prop) (Q : Exit → Env → World → Prop) : (q14 std k Q) (.exit 2) (x2 p_0 long_4 many_5 i_6) w = (
  k (emb3 p_0 long_4 many_5 (w64 (i_6 - 1))) w) := A7_2_eq std p_0 long_4 many_5 i_6 w k Q
theorem B3_eq (pr : Prims) (p_0 : Sl) (long_4 : Sl) (many_5 : Sl) (i_6 : Int) (w : World) (k : Env → World → Prop) (Q : Exit → Env → World → Prop) : B3 pr p_0 long_4 many_5 i_6 w k Q = (
  bif decide (i_6 ≥ 0) then (
  pr.idxK 1 long_4 i_6 fun (a10 : Addr) =>
  pr.storeC a10 (vI 1) w fun ω11 =>
  pr.idxK 1 many_5 i_6 fun (a12 : Addr) =>
  pr.storeC a12 (vI 1) ω11 fun ω13 =>
  L7 pr p_0 long_4 many_5 i_6 (w64 (i_6 + 1)) ω13 (q14 pr k Q))
  else (
  Q (.exit 0) (x0 long_4 many_5) w)) := by kernel_rfl
theorem B3_s (p_0 : Sl) (long_4 : Sl) (many_5 : Sl) (i_6 : Int) (w : World) (k : Env → World → Prop) (Q : Exit → Env → World → Prop) : B3 std p_0 long_4 many_5 i_6 w k Q = (
  bif decide (i_6 ≥ 0) then (
  idxK 1 long_4 i_6 fun (a10 : Addr) =>
  storeC a10 (vI 1) w fun ω11 =>
  idxK 1 many_5 i_6 fun (a12 : Addr) =>
  storeC a12 (vI 1) ω11 fun ω13 =>
  L7 std p_0 long_4 many_5 i_6 (w64 (i_6 + 1)) ω13 (q14 std k Q))
  else (
  Q (.exit 0) (x0 long_4 many_5) w)) := B3_eq std p_0 long_4 many_5 i_6 w k Q
theorem L3_rule (p_0 : Sl) (long_4 : Sl) (many_5 : Sl) (i_6 : Int) (w : World) (Q : Exit → Env → World → Prop) (I : Int → World → Prop) (μ : Int → World → Nat) (h0 : I i_6 w)
    (h : ∀ (i_6 : Int) (w' : World), I i_6 w' → B3 std p_0 long_4 many_5 i_6 w' (fun e2 w2 => ∃ i_6_n, e2 = emb3 p_0 long_4 many_5 i_6_n ∧ I i_6_n w2 ∧ μ i_6_n w2 < μ i_6 w') Q) :
    L3 std p_0 long_4 many_5 i_6 w Q := by
  unfold L3
  refine LoopE.intro (σ := Int) (step := S3 std Q) (fun s => emb3 p_0 long_4 many_5 s) (fun s w => I s w) (fun s w => μ s w) i_6 rfl h0 ?_
  intro s w' hI
  have h1 := h s w' hI
  unfold B3 at h1
  exact h1
theorem A3_0_eq (pr : Prims) (long_4 : Sl) (many_5 : Sl) (w : World) (R : Ending → World → Prop) : (q7 pr R) (.exit 0) (x0 long_4 many_5) w = (
  R (.returned (.tuple #[Sl.v long_4, Sl.v many_5])) w) := by kernel_rfl
theorem A3_0_s (long_4 : Sl) (many_5 : Sl) (w : World) (R : Ending → World → Prop) : (q7 std R) (.exit 0) (x0 long_4 many_5) w = (
  R (.returned (.tuple #[Sl.v long_4, Sl.v many_5])) w) := A3_0_eq std long_4 many_5 w R
theorem J2_gen (pr : Prims) (p_0 : Sl) (long_4 : Sl) (many_5 : Sl) (w : World) (R : Ending → World → Prop) : wpC pr PP cfg (DD pr) (sub (codeOf Try.f61) [1, 1]) (retQ Try.f61.results.toList R) (j2 p_0 long_4 many_5) w = (
  L3 pr p_0 long_4 many_5 (w64 ((p_0.n : Int) - 1)) w (q7 pr R)) := by kernel_rfl
theorem J2_s (p_0 : Sl) (long_4 : Sl) (many_5 : Sl) (w : World) (R : Ending → World → Prop) : J2 std p_0 long_4 many_5 w R = (
  L3 std p_0 long_4 many_5 (w64 ((p_0.n : Int) - 1)) w (q7 std R)) := J2_gen std p_0 long_4 many_5 w R
theorem E_eq (pr : Prims) (p_0 : Sl) (w : World) (R : Ending → World → Prop) : E pr p_0 w R = (
  pr.drewAll w fun ω1 =>
  (pr.sem1 .sl PP (Instr.makeSlice T_Sint (vI (p_0.n : Int)) (vI (p_0.n : Int))) ω1 fun (ρ2 : Sl) ω3 =>
  pr.sem1 .sl PP (Instr.makeSlice T_Sint (vI (p_0.n : Int)) (vI (p_0.n : Int))) ω3 fun (ρ4 : Sl) ω5 =>
  J2 pr p_0 ρ2 ρ4 ω5 R) ∧
  (pr.sem1 .sl PP (Instr.makeSlice T_Sint (vI (p_0.n : Int)) (vI (p_0.n : Int))) ω1 fun (ρ56 : Sl) ω57 =>
  pr.sem1 .sl PP (Instr.makeSlice T_Sint (vI (p_0.n : Int)) (vI (p_0.n : Int))) ω57 fun (ρ58 : Sl) ω59 =>
  J2 pr p_0 ρ58 ρ56 ω59 R)) := by kernel_rfl
theorem E_s (p_0 : Sl) (w : World) (R : Ending → World → Prop) : E std p_0 w R = (
  drewAll w fun ω1 =>
  (sem1 .sl PP (Instr.makeSlice T_Sint (vI (p_0.n : Int)) (vI (p_0.n : Int))) ω1 fun (ρ2 : Sl) ω3 =>
  sem1 .sl PP (Instr.makeSlice T_Sint (vI (p_0.n : Int)) (vI (p_0.n : Int))) ω3 fun (ρ4 : Sl) ω5 =>
  J2 std p_0 ρ2 ρ4 ω5 R) ∧
  (sem1 .sl PP (Instr.makeSlice T_Sint (vI (p_0.n : Int)) (vI (p_0.n : Int))) ω1 fun (ρ56 : Sl) ω57 =>
  sem1 .sl PP (Instr.makeSlice T_Sint (vI (p_0.n : Int)) (vI (p_0.n : Int))) ω57 fun (ρ58 : Sl) ω59 =>
  J2 std p_0 ρ58 ρ56 ω59 R)) := E_eq std p_0 w R
theorem drawsOk : drawsOk PP cfg okD (codeOf Try.f61) = true := by kernel_rfl
theorem calls (p_0 : Sl) {w : World} {R : Ending → World → Prop} (h : E std p_0 w R) : Calls PP F.impl_lengths #[Sl.v p_0] w R :=
  calls_of noCount mixed drawOk Try.func61 rfl (c := cfg) (args := [Sl.v p_0]) rfl (Nat.le_of_ble_eq_true (by kernel_rfl)) drawsOk h
end impl_lengths

namespace impl_longestUp
@[reducible] def cfg : Cfg := ⟨24, [(4, [5, 13, 14, 15])], [(1, [5, 13, 14, 15]), (0, [5])], [], [2], [], [73, 46, 18, 22, 43, 45, 72, 88, 85, 80, 81, 70], [56, 63, 74, 86, 89, 64]⟩
def q3 (pr : Prims) (R : Ending → World → Prop) : Exit → Env → World → Prop := fun ex e w => normQ ex (fun e w => contE pr cfg (sub (codeOf Try.f49) [1, 1, 1, 1]) (fun e w => wpC pr PP cfg (DD pr) (sub (codeOf Try.f49) [1, 1, 1, 1]) (retQ Try.f49.results.toList R) e w) e w) (retQ Try.f49.results.toList R) e w
def q4 (pr : Prims) (R : Ending → World → Prop) : Exit → Env → World → Prop := fun ex e w => blockQ ex 0 (q3 pr R) e w
def emb4 (most_5 : Int) (t13 : Sl) (t14 : Int) (t15 : Int) : Env := [(5, vI most_5), (13, Sl.v t13), (14, vI t14), (15, vI t15)]
def x0 (most_5 : Int) : Env := [(5, vI most_5)]
def S4 (pr : Prims) (Q : Exit → Env → World → Prop) : (Env → World → Prop) → Env → World → Prop := fun k e w => wpC pr PP cfg (DD pr) (sub (codeOf Try.f49) [1, 1, 1, 0, 1, 0, 0]) (fun ex e w => normQ ex (fun e' w' => k (Env.restr e' (lookN cfg.loops (keyOf (sub (codeOf Try.f49) [1, 1, 1, 0, 1, 0, 0])))) w') Q e w) e w
def B4 (pr : Prims) (most_5 : Int) (t13 : Sl) (t14 : Int) (t15 : Int) (w : World) (k : Env → World → Prop) (Q : Exit → Env → World → Prop) : Prop :=
  S4 pr Q k (emb4 most_5 t13 t14 t15) w
def L4 (pr : Prims) (most_5 : Int) (t13 : Sl) (t14 : Int) (t15 : Int) (w : World) (Q : Exit → Env → World → Prop) : Prop :=
  pr.loop (S4 pr Q) (emb4 most_5 t13 t14 t15) w
def E (pr : Prims) (p_0 : Sl) (w : World) (R : Ending → World → Prop) : Prop :=
  wpC pr PP cfg (DD pr) (codeOf Try.f49) (retQ Try.f49.results.toList R) (argE 0 [Sl.v p_0]) w
theorem B4_eq (pr : Prims) (most_5 : Int) (t13 : Sl) (t14 : Int) (t15 : Int) (w : World) (k : Env → World → Prop) (Q : Exit → Env → World → Prop) : B4 pr most_5 t13 t14 t15 w k Q = (
  bif decide (t15 < t14) then (
  pr.idxK 1 t13 t15 fun (a5 : Addr) =>
  pr.load1 (.int .i64) a5 w fun (ξ6 : Int) =>
  k (emb4 (if ξ6 > most_5 then ξ6 else most_5) t13 t14 (w64 (t15 + 1))) w)
  else (
  Q (.exit 0) (x0 most_5) w)) := by kernel_rfl
theorem B4_s (most_5 : Int) (t13 : Sl) (t14 : Int) (t15 : Int) (w : World) (k : Env → World → Prop) (Q : Exit → Env → World → Prop) : B4 std most_5 t13 t14 t15 w k Q = (
  bif decide (t15 < t14) then (
  idxK 1 t13 t15 fun (a5 : Addr) =>
  load1 (.int .i64) a5 w fun (ξ6 : Int) =>
  k (emb4 (if ξ6 > most_5 then ξ6 else most_5) t13 t14 (w64 (t15 + 1))) w)
  else (
  Q (.exit 0) (x0 most_5) w)) := B4_eq std most_5 t13 t14 t15 w k Q
theorem L4_rule (most_5 : Int) (t13 : Sl) (t14 : Int) (t15 : Int) (w : World) (Q : Exit → Env → World → Prop) (I : Int → Int → World → Prop) (μ : Int → Int → World → Nat) (h0 : I most_5 t15 w)
    (h : ∀ (most_5 : Int) (t15 : Int) (w' : World), I most_5 t15 w' → B4 std most_5 t13 t14 t15 w' (fun e2 w2 => ∃ most_5_n t15_n, e2 = emb4 most_5_n t13 t14 t15_n ∧ I most_5_n t15_n w2 ∧ μ most_5_n t15_n w2 < μ most_5 t15 w') Q) :
    L4 std most_5 t13 t14 t15 w Q := by
  unfold L4
  refine LoopE.intro (σ := Int × Int) (step := S4 std Q) (fun s => emb4 s.1 t13 t14 s.2) (fun s w => I s.1 s.2 w) (fun s w => μ s.1 s.2 w) (most_5, t15) rfl h0 ?_
  intro s w' hI
  have h1 := h s.1 s.2 w' hI
  unfold B4 at h1
  simp only [Prod.exists]
  exact h1
theorem A4_0_eq (pr : Prims) (most_5 : Int) (w : World) (R : Ending → World → Prop) : (q4 pr R) (.exit 0) (x0 most_5) w = (
  R (.returned (vI most_5)) w) := by kernel_rfl
theorem A4_0_s (most_5 : Int) (w : World) (R : Ending → World → Prop) : (q4 std R) (.exit 0) (x0 most_5) w = (
  R (.returned (vI most_5)) w) := A4_0_eq std most_5 w R
theorem E_eq (pr : Prims) (p_0 : Sl) (w : World) (R : Ending → World → Prop) : E pr p_0 w R = (
  pr.call2 .sl .sl PP F.impl_lengths #[Sl.v p_0] w fun (ρ0 : Sl) (ρ1 : Sl) ω2 =>
  L4 pr 0 ρ0 (ρ0.n : Int) 0 ω2 (q4 pr R)) := by kernel_rfl
theorem E_s (p_0 : Sl) (w : World) (R : Ending → World → Prop) : E std p_0 w R = (
  call2 .sl .sl PP F.impl_lengths #[Sl.v p_0] w fun (ρ0 : Sl) (ρ1 : Sl) ω2 =>
  L4 std 0 ρ0 (ρ0.n : Int) 0 ω2 (q4 std R)) := E_eq std p_0 w R
theorem drawsOk : drawsOk PP cfg okD (codeOf Try.f49) = true := by kernel_rfl
theorem calls (p_0 : Sl) {w : World} {R : Ending → World → Prop} (h : E std p_0 w R) : Calls PP F.impl_longestUp #[Sl.v p_0] w R :=
  calls_of noCount mixed drawOk Try.func49 rfl (c := cfg) (args := [Sl.v p_0]) rfl (Nat.le_of_ble_eq_true (by kernel_rfl)) drawsOk h
end impl_longestUp

namespace impl_LongestUp
@[reducible] def cfg : Cfg := ⟨8, [], [], [], [2], [], [73, 46, 18, 22, 43, 45, 72, 88, 85, 80, 81, 70], [56, 63, 74, 86, 89, 64]⟩
def E (pr : Prims) (p_0 : Sl) (w : World) (R : Ending → World → Prop) : Prop :=
  wpC pr PP cfg (DD pr) (codeOf Try.f17) (retQ Try.f17.results.toList R) (argE 0 [Sl.v p_0]) w
theorem E_eq (pr : Prims) (p_0 : Sl) (w : World) (R : Ending → World → Prop) : E pr p_0 w R = (
  pr.call1 .bool PP F.impl_IsPerm #[Sl.v p_0] w fun (ρ0 : Bool) ω1 =>
  bif !ρ0 then (
  R (.returned (vI (-1))) ω1)
  else (
  pr.call1 (.int .i64) PP F.impl_longestUp #[Sl.v p_0] ω1 fun (ρ2 : Int) ω3 =>
  R (.returned (vI ρ2)) ω3)) := by kernel_rfl
theorem E_s (p_0 : Sl) (w : World) (R : Ending → World → Prop) : E std p_0 w R = (
  call1 .bool PP F.impl_IsPerm #[Sl.v p_0] w fun (ρ0 : Bool) ω1 =>
  bif !ρ0 then (
  R (.returned (vI (-1))) ω1)
  else (
  call1 (.int .i64) PP F.impl_longestUp #[Sl.v p_0] ω1 fun (ρ2 : Int) ω3 =>
  R (.returned (vI ρ2)) ω3)) := E_eq std p_0 w R
theorem drawsOk : drawsOk PP cfg okD (codeOf Try.f17) = true := by kernel_rfl
theorem calls (p_0 : Sl) {w : World} {R : Ending → World → Prop} (h : E std p_0 w R) : Calls PP F.impl_LongestUp #[Sl.v p_0] w R :=
  calls_of noCount mixed drawOk Try.func17 rfl (c := cfg) (args := [Sl.v p_0]) rfl (Nat.le_of_ble_eq_true (by kernel_rfl)) drawsOk h
end impl_LongestUp

namespace impl_LongestDown
@[reducible] def cfg : Cfg := ⟨9, [], [], [], [2], [], [73, 46, 18, 22, 43, 45, 72, 88, 85, 80, 81, 70], [56, 63, 74, 86, 89, 64]⟩
def E (pr : Prims) (p_0 : Sl) (w : World) (R : Ending → World → Prop) : Prop :=
  wpC pr PP cfg (DD pr) (codeOf Try.f28) (retQ Try.f28.results.toList R) (argE 0 [Sl.v p_0]) w
theorem E_eq (pr : Prims) (p_0 : Sl) (w : World) (R : Ending → World → Prop) : E pr p_0 w R = (
  pr.call1 .bool PP F.impl_IsPerm #[Sl.v p_0] w fun (ρ0 : Bool) ω1 =>
  bif !ρ0 then (
  R (.returned (vI (-1))) ω1)
  else (
  pr.call1 .sl PP F.impl_reverse #[Sl.v p_0] ω1 fun (ρ2 : Sl) ω3 =>
  pr.call1 (.int .i64) PP F.impl_longestUp #[Sl.v ρ2] ω3 fun (ρ4 : Int) ω5 =>
  R (.returned (vI ρ4)) ω5)) := by kernel_rfl
theorem E_s (p_0 : Sl) (w : World) (R : Ending → World → Prop) : E std p_0 w R = (
  call1 .bool PP F.impl_IsPerm #[Sl.v p_0] w fun (ρ0 : Bool) ω1 =>
  bif !ρ0 then (
  R (.returned (vI (-1))) ω1)
  else (
  call1 .sl PP F.impl_reverse #[Sl.v p_0] ω1 fun (ρ2 : Sl) ω3 =>
  call1 (.int .i64) PP F.impl_longestUp #[Sl.v ρ2] ω3 fun (ρ4 : Int) ω5 =>
  R (.returned (vI ρ4)) ω5)) := E_eq std p_0 w R
theorem drawsOk : drawsOk PP cfg okD (codeOf Try.f28) = true := by kernel_rfl
theorem calls (p_0 : Sl) {w : World} {R : Ending → World → Prop} (h : E std p_0 w R) : Calls PP F.impl_LongestDown #[Sl.v p_0] w R :=
  calls_of noCount mixed drawOk Try.func28 rfl (c := cfg) (args := [Sl.v p_0]) rfl (Nat.le_of_ble_eq_true (by kernel_rfl)) drawsOk h
end impl_LongestDown

namespace impl_reverse
@[reducible] def cfg : Cfg := ⟨9, [], [], [], [2], [], [73, 46, 18, 22, 43, 45, 72, 88, 85, 80, 81, 70], [56, 63, 74, 86, 89, 64]⟩
def E (pr : Prims) (p_0 : Sl) (w : World) (R : Ending → World → Prop) : Prop :=
  wpC pr PP cfg (DD pr) (codeOf Try.f55) (retQ Try.f55.results.toList R) (argE 0 [Sl.v p_0]) w
theorem E_eq (pr : Prims) (p_0 : Sl) (w : World) (R : Ending → World → Prop) : E pr p_0 w R = (
  pr.call1 .sl PP F.slices_Clone___int_int_ #[Sl.v p_0] w fun (ρ0 : Sl) ω1 =>
  pr.call0  PP F.slices_Reverse___int_int_ #[Sl.v ρ0] ω1 fun ω2 =>
  R (.returned (Sl.v ρ0)) ω2) := by kernel_rfl
theorem E_s (p_0 : Sl) (w : World) (R : Ending → World → Prop) : E std p_0 w R = (
  call1 .sl PP F.slices_Clone___int_int_ #[Sl.v p_0] w fun (ρ0 : Sl) ω1 =>
  call0  PP F.slices_Reverse___int_int_ #[Sl.v ρ0] ω1 fun ω2 =>
  R (.returned (Sl.v ρ0)) ω2) := E_eq std p_0 w R
theorem drawsOk : drawsOk PP cfg okD (codeOf Try.f55) = true := by kernel_rfl
theorem calls (p_0 : Sl) {w : World} {R : Ending → World → Prop} (h : E std p_0 w R) : Calls PP F.impl_reverse #[Sl.v p_0] w R :=
  calls_of noCount mixed drawOk Try.func55 rfl (c := cfg) (args := [Sl.v p_0]) rfl (Nat.le_of_ble_eq_true (by kernel_rfl)) drawsOk h
end impl_reverse

namespace impl_HasLongRun
@[reducible] def cfg : Cfg := ⟨22, [], [], [], [6], [], [73, 46, 18, 22, 43, 45, 72, 88, 85, 80, 81, 70], [56, 63, 74, 86, 89, 64]⟩
def E (pr : Prims) (p_0 : Sl) (k_1 : Int) (m_2 : Int) (w : World) (R : Ending → World → Prop) : Prop :=
  wpC pr PP cfg (DD pr) (codeOf Try.f26) (retQ Try.f26.results.toList R) (argE 0 [Sl.v p_0, vI k_1, vI m_2]) w
theorem E_eq (pr : Prims) (p_0 : Sl) (k_1 : Int) (m_2 : Int) (w : World) (R : Ending → World → Prop) : E pr p_0 k_1 m_2 w R = (
  pr.call1 .bool PP F.impl_IsPerm #[Sl.v p_0] w fun (ρ0 : Bool) ω1 =>
  bif ρ0 then (
  pr.call1 (.int .i64) PP F.impl_longestUp #[Sl.v p_0] ω1 fun (ρ2 : Int) ω3 =>
  bif decide (ρ2 > k_1) then (
  R (.returned (.bool true)) ω3)
  else (
  pr.call1 .sl PP F.impl_reverse #[Sl.v p_0] ω3 fun (ρ4 : Sl) ω5 =>
  pr.call1 (.int .i64) PP F.impl_longestUp #[Sl.v ρ4] ω5 fun (ρ6 : Int) ω7 =>
  R (.returned (.bool (decide (ρ6 > m_2)))) ω7))
  else (
  R (.returned (.bool false)) ω1)) := by kernel_rfl
theorem E_s (p_0 : Sl) (k_1 : Int) (m_2 : Int) (w : World) (R : Ending → World → Prop) : E std p_0 k_1 m_2 w R = (
  call1 .bool PP F.impl_IsPerm #[Sl.v p_0] w fun (ρ0 : Bool) ω1 =>
  bif ρ0 then (
  call1 (.int .i64) PP F.impl_longestUp #[Sl.v p_0] ω1 fun (ρ2 : Int) ω3 =>
  bif decide (ρ2 > k_1) then (
  R (.returned (.bool true)) ω3)
  else (
  call1 .sl PP F.impl_reverse #[Sl.v p_0] ω3 fun (ρ4 : Sl) ω5 =>
  call1 (.int .i64) PP F.impl_longestUp #[Sl.v ρ4] ω5 fun (ρ6 : Int) ω7 =>
  R (.returned (.bool (decide (ρ6 > m_2)))) ω7))
  else (
  R (.returned (.bool false)) ω1)) := E_eq std p_0 k_1 m_2 w R
theorem drawsOk : drawsOk PP cfg okD (codeOf Try.f26) = true := by kernel_rfl
theorem calls (p_0 : Sl) (k_1 : Int) (m_2 : Int) {w : World} {R : Ending → World → Prop} (h : E std p_0 k_1 m_2 w R) : Calls PP F.impl_HasLongRun #[Sl.v p_0, vI k_1, vI m_2] w R :=
  calls_of noCount mixed drawOk Try.func26 rfl (c := cfg) (args := [Sl.v p_0, vI k_1, vI m_2]) rfl (Nat.le_of_ble_eq_true (by kernel_rfl)) drawsOk h
end impl_HasLongRun

namespace spec_l20Up
@[reducible] def cfg : Cfg := ⟨44, [(8, [0, 3, 4, 5, 6, 7]), (4, [0, 3, 4, 5])], [(3, [0, 3, 4, 5, 6, 7]), (2, [0, 3, 4, 5, 6]), (1, [0, 3, 4, 5]), (0, [3])], [], [2], [10], [73, 46, 18, 22, 43, 45, 72, 88, 85, 80, 81, 70], [56, 63, 74, 86, 89, 64]⟩
def q2 (pr : Prims) (R : Ending → World → Prop) : Exit → Env → World → Prop := fun ex e w => normQ ex (fun e w => contE pr cfg (sub (codeOf Try.f47) [1, 1, 1, 1]) (fun e w => wpC pr PP cfg (DD pr) (sub (codeOf Try.f47) [1, 1, 1, 1]) (retQ Try.f47.results.toList R) e w) e w) (retQ Try.f47.results.toList R) e w
def q3 (pr : Prims) (R : Ending → World → Prop) : Exit → Env → World → Prop := fun ex e w => blockQ ex 0 (q2 pr R) e w
def q4 (pr : Prims) (k : Env → World → Prop) (Q : Exit → Env → World → Prop) : Exit → Env → World → Prop := fun ex e w => normQ ex (fun e w => contE pr cfg (sub (codeOf Try.f47) [1, 1, 1, 0, 1, 0, 0, 1, 1]) (fun e w => wpC pr PP cfg (DD pr) (sub (codeOf Try.f47) [1, 1, 1, 0, 1, 0, 0, 1, 1]) (fun ex e w => normQ ex (fun e' w' => k (Env.restr e' (lookN cfg.loops (keyOf (sub (codeOf Try.f47) [1, 1, 1, 0, 1, 0, 0])))) w') Q e w) e w) e w) (fun ex e w => normQ ex (fun e' w' => k (Env.restr e' (lookN cfg.loops (keyOf (sub (codeOf Try.f47) [1, 1, 1, 0, 1, 0, 0])))) w') Q e w) e w
def q5 (pr : Prims) (k : Env → World → Prop) (Q : Exit → Env → World → Prop) : Exit → Env → World → Prop := fun ex e w => blockQ ex 1 (q4 pr k Q) e w
def q6 (pr : Prims) (k : Env → World → Prop) (Q : Exit → Env → World → Prop) : Exit → Env → World → Prop := fun ex e w => normQ ex (fun e w => contE pr cfg (sub (codeOf Try.f47) [1, 1, 1, 0, 1, 0, 0, 1, 0, 0, 1, 1]) (fun e w => wpC pr PP cfg (DD pr) (sub (codeOf Try.f47) [1, 1, 1, 0, 1, 0, 0, 1, 0, 0, 1, 1]) (q5 pr k Q) e w) e w) (q5 pr k Q) e w
def q7 (pr : Prims) (k : Env → World → Prop) (Q : Exit → Env → World → Prop) : Exit → Env → World → Prop := fun ex e w => blockQ ex 2 (q6 pr k Q) e w
def emb4 (p_0 : Sl) (best_3 : Int) (ends_4 : Sl) (k_5 : Int) : Env := [(0, Sl.v p_0), (3, vI best_3), (4, Sl.v ends_4), (5, vI k_5)]
def emb8 (p_0 : Sl) (best_3 : Int) (ends_4 : Sl) (k_5 : Int) (n_6 : Int) (i_7 : Int) : Env := [(0, Sl.v p_0), (3, vI best_3), (4, Sl.v ends_4), (5, vI k_5), (6, vI n_6), (7, vI i_7)]
def x2 (p_0 : Sl) (best_3 : Int) (ends_4 : Sl) (k_5 : Int) (n_6 : Int) : Env := [(0, Sl.v p_0), (3, vI best_3), (4, Sl.v ends_4), (5, vI k_5), (6, vI n_6)]
def x0 (best_3 : Int) : Env := [(3, vI best_3)]
def S8 (pr : Prims) (Q : Exit → Env → World → Prop) : (Env → World → Prop) → Env → World → Prop := fun k e w => wpC pr PP cfg (DD pr) (sub (codeOf Try.f47) [1, 1, 1, 0, 1, 0, 0, 1, 0, 0, 1, 0, 1, 0, 0]) (fun ex e w => normQ ex (fun e' w' => k (Env.restr e' (lookN cfg.loops (keyOf (sub (codeOf Try.f47) [1, 1, 1, 0, 1, 0, 0, 1, 0, 0, 1, 0, 1, 0, 0])))) w') Q e w) e w
def S4 (pr : Prims) (Q : Exit → Env → World → Prop) : (Env → World → Prop) → Env → World → Prop := fun k e w => wpC pr PP cfg (DD pr) (sub (codeOf Try.f47) [1, 1, 1, 0, 1, 0, 0]) (fun ex e w => normQ ex (fun e' w' => k (Env.restr e' (lookN cfg.loops (keyOf (sub (codeOf Try.f47) [1, 1, 1, 0, 1, 0, 0])))) w') Q e w) e w
def B8 (pr : Prims) (p_0 : Sl) (best_3 : Int) (ends_4 : Sl) (k_5 : Int) (n_6 : Int) (i_7 : Int) (w : World) (k : Env → World → Prop) (Q : Exit → Env → World → Prop) : Prop :=
  S8 pr Q k (emb8 p_0 best_3 ends_4 k_5 n_6 i_7) w
def L8 (pr : Prims) (p_0 : Sl) (best_3 : Int) (ends_4 : Sl) (k_5 : Int) (n_6 : Int) (i_7 : Int) (w : World) (Q : Exit → Env → World → Prop) : Prop :=
  pr.loop (S8 pr Q) (emb8 p_0 best_3 ends_4 k_5 n_6 i_7) w
def B4 (pr : Prims) (p_0 : Sl) (best_3 : Int) (ends_4 : Sl) (k_5 : Int) (w : World) (k : Env → World → Prop) (Q : Exit → Env → World → Prop) : Prop :=
  S4 pr Q k (emb4 p_0 best_3 ends_4 k_5) w
def L4 (pr : Prims) (p_0 : Sl) (best_3 : Int) (ends_4 : Sl) (k_5 : Int) (w : World) (Q : Exit → Env → World → Prop) : Prop :=
  pr.loop (S4 pr Q) (emb4 p_0 best_3 ends_4 k_5) w
def E (pr : Prims) (p_0 : Sl) (w : World) (R : Ending → World → Prop) : Prop :=
  wpC pr PP cfg (DD pr) (codeOf Try.f47) (retQ Try.f47.results.toList R) (argE 0 [Sl.v p_0]) w
theorem B8_eq (pr : Prims) (p_0 : Sl) (best_3 : Int) (ends_4 : Sl) (k_5 : Int) (n_6 : Int) (i_7 : Int) (w : World) (k : Env → World → Prop) (Q : Exit → Env → World → Prop) : B8 pr p_0 best_3 ends_4 k_5 n_6 i_7 w k Q = (
  bif decide (i_7 < k_5) then (
  pr.idxK 1 p_0 i_7 fun (a8 : Addr) =>
  pr.load1 (.int .i64) a8 w fun (ξ9 : Int) =>
  pr.idxK 1 p_0 k_5 fun (a10 : Addr) =>
  pr.load1 (.int .i64) a10 w fun (ξ11 : Int) =>
  pr.drewAll w fun ω12 =>
  bif decide (ξ9 < ξ11) then (
  pr.idxK 1 ends_4 i_7 fun (a13 : Addr) =>
  pr.load1 (.int .i64) a13 ω12 fun (ξ14 : Int) =>
  pr.pcall1 (.int .i64) PP F.spec_l1Max #[vI n_6, vI (w64 (ξ14 + 1))] fun (ρ15 : Int) =>
  k (emb8 p_0 best_3 ends_4 k_5 ρ15 (w64 (i_7 + 1))) ω12)
  else (
  k (emb8 p_0 best_3 ends_4 k_5 n_6 (w64 (i_7 + 1))) ω12))
  else (
  Q (.exit 2) (x2 p_0 best_3 ends_4 k_5 n_6) w)) := by kernel_rfl
theorem B8_s (p_0 : Sl) (best_3 : Int) (ends_4 : Sl) (k_5 : Int) (n_6 : Int) (i_7 : Int) (w : World) (k : Env → World → Prop) (Q : Exit → Env → World → Prop) : B8 std p_0 best_3 ends_4 k_5 n_6 i_7 w k Q = (
  bif decide (i_7 < k_5) then (
  idxK 1 p_0 i_7 fun (a8 : Addr) =>
  load1 (.int .i64) a8 w fun (ξ9 : Int) =>
  idxK 1 p_0 k_5 fun (a10 : Addr) =>
  load1 (.int .i64) a10 w fun (ξ11 : Int) =>
  drewAll w fun ω12 =>
  bif decide (ξ9 < ξ11) then (
  idxK 1 ends_4 i_7 fun (a13 : Addr) =>
  load1 (.int .i64) a13 ω12 fun (ξ14 : Int) =>
  pcall1 (.int .i64) PP F.spec_l1Max #[vI n_6, vI (w64 (ξ14 + 1))] fun (ρ15 : Int) =>
  k (emb8 p_0 best_3 ends_4 k_5 ρ15 (w64 (i_7 + 1))) ω12)
  else (
  k (emb8 p_0 best_3 ends_4 k_5 n_6 (w64 (i_7 + 1))) ω12))
  else (
  Q (.exit 2) (x2 p_0 best_3 ends_4 k_5 n_6) w)) := B8_eq std p_0 best_3 ends_4 k_5 n_6 i_7 w k Q
theorem L8_rule (p_0 : Sl) (best_3 : Int) (ends_4 : Sl) (k_5 : Int) (n_6 : Int) (i_7 : Int) (w : World) (Q : Exit → Env → World → Prop) (I : Int → Int → World → Prop) (μ : Int → Int → World → Nat) (h0 : I n_6 i_7 w)
    (h : ∀ (n_6 : Int) (i_7 : Int) (w' : World), I n_6 i_7 w' → B8 std p_0 best_3 ends_4 k_5 n_6 i_7 w' (fun e2 w2 => ∃ n_6_n i_7_n, e2 = emb8 p_0 best_3 ends_4 k_5 n_6_n i_7_n ∧ I n_6_n i_7_n w2 ∧ μ n_6_n i_7_n w2 < μ n_6 i_7 w') Q) :
    L8 std p_0 best_3 ends_4 k_5 n_6 i_7 w Q := by
  unfold L8
  refine LoopE.intro (σ := Int × Int) (step := S8 std Q) (fun s => emb8 p_0 best_3 ends_4 k_5 s.1 s.2) (fun s w => I s.1 s.2 w) (fun s w => μ s.1 s.2 w) (n_6, i_7) rfl h0 ?_
  intro s w' hI
  have h1 := h s.1 s.2 w' hI
  unfold B8 at h1
  simp only [Prod.exists]
  exact h1
theorem A8_2_eq (pr : Prims) (p_0 : Sl) (best_3 : Int) (ends_4 : Sl) (k_5 : Int) (n_6 : Int) (w : World) (k : Env → World → Prop) (Q : Exit → Env → World → Prop) : (q7 pr k Q) (.exit 2) (x2 p_0 best_3 ends_4 k_5 n_6) w = (
  pr.sem1 .sl PP (Instr.buildSlice T_Sint 1 #[(0, vI n_6)]) w fun (ρ16 : Sl) ω17 =>
  pr.sem1 .sl PP (Builtin.append_ #[T_Sint, T_Sint] T_Sint #[Sl.v ends_4, Sl.v ρ16]) ω17 fun (ρ18 : Sl) ω19 =>
  pr.pcall1 (.int .i64) PP F.spec_l1Max #[vI best_3, vI n_6] fun (ρ20 : Int) =>
  k (emb4 p_0 ρ20 ρ18 (w64 (k_5 + 1))) ω19) := by kernel_rfl
theorem A8_2_s (p_0 : Sl) (best_3 : Int) (ends_4 : Sl) (k_5 : Int) (n_6 : Int) (w : World) (k : Env → World → Prop) (Q : Exit → Env → World → Prop) : (q7 std k Q) (.exit 2) (x2 p_0 best_3 ends_4 k_5 n_6) w = (
  sem1 .sl PP (Instr.buildSlice T_Sint 1 #[(0, vI n_6)]) w fun (ρ16 : Sl) ω17 =>
  sem1 .sl PP (Builtin.append_ #[T_Sint, T_Sint] T_Sint #[Sl.v ends_4, Sl.v ρ16]) ω17 fun (ρ18 : Sl) ω19 =>
  pcall1 (.int .i64) PP F.spec_l1Max #[vI best_3, vI n_6] fun (ρ20 : Int) =>
  k (emb4 p_0 ρ20 ρ18 (w64 (k_5 + 1))) ω19) := A8_2_eq std p_0 best_3 ends_4 k_5 n_6 w k Q
theorem B4_eq (pr : Prims) (p_0 : Sl) (best_3 : Int) (ends_4 : Sl) (k_5 : Int) (w : World) (k : Env → World → Prop) (Q : Exit → Env → World → Prop) : B4 pr p_0 best_3 ends_4 k_5 w k Q = (
  bif decide (k_5 < (p_0.n : Int)) then (
  L8 pr p_0 best_3 ends_4 k_5 1 0 w (q7 pr k Q))
  else (
  Q (.exit 0) (x0 best_3) w)) := by kernel_rfl
theorem B4_s (p_0 : Sl) (best_3 : Int) (ends_4 : Sl) (k_5 : Int) (w : World) (k : Env → World → Prop) (Q : Exit → Env → World → Prop) : B4 std p_0 best_3 ends_4 k_5 w k Q = (
  bif decide (k_5 < (p_0.n : Int)) then (
  L8 std p_0 best_3 ends_4 k_5 1 0 w (q7 std k Q))
  else (
  Q (.exit 0) (x0 best_3) w)) := B4_eq std p_0 best_3 ends_4 k_5 w k Q
theorem L4_rule (p_0 : Sl) (best_3 : Int) (ends_4 : Sl) (k_5 : Int) (w : World) (Q : Exit → Env → World → Prop) (I : Int → Sl → Int → World → Prop) (μ : Int → Sl → Int → World → Nat) (h0 : I best_3 ends_4 k_5 w)
    (h : ∀ (best_3 : Int) (ends_4 : Sl) (k_5 : Int) (w' : World), I best_3 ends_4 k_5 w' → B4 std p_0 best_3 ends_4 k_5 w' (fun e2 w2 => ∃ best_3_n ends_4_n k_5_n, e2 = emb4 p_0 best_3_n ends_4_n k_5_n ∧ I best_3_n ends_4_n k_5_n w2 ∧ μ best_3_n ends_4_n k_5_n w2 < μ best_3 ends_4 k_5 w') Q) :
    L4 std p_0 best_3 ends_4 k_5 w Q := by
  unfold L4
  refine LoopE.intro (σ := Int × Sl × Int) (step := S4 std Q) (fun s => emb4 p_0 s.1 s.2.1 s.2.2) (fun s w => I s.1 s.2.1 s.2.2 w) (fun s w => μ s.1 s.2.1 s.2.2 w) (best_3, ends_4, k_5) rfl h0 ?_
  intro s w' hI
  have h1 := h s.1 s.2.1 s.2.2 w' hI
  unfold B4 at h1
  simp only [Prod.exists]
  exact h1
theorem A4_0_eq (pr : Prims) (best_3 : Int) (w : World) (R : Ending → World → Prop) : (q3 pr R) (.exit 0) (x0 best_3) w = (
  R (.returned (vI best_3)) w) := by kernel_rfl
theorem A4_0_s (best_3 : Int) (w : World) (R : Ending → World → Prop) : (q3 std R) (.exit 0) (x0 best_3) w = (
  R (.returned (vI best_3)) w) := A4_0_eq std best_3 w R
theorem E_eq (pr : Prims) (p_0 : Sl) (w : World) (R : Ending → World → Prop) : E pr p_0 w R = (
  pr.sem1 .sl PP (Instr.buildSlice T_Sint 0 #[]) w fun (ρ0 : Sl) ω1 =>
  L4 pr p_0 0 ρ0 0 ω1 (q3 pr R)) := by kernel_rfl
theorem E_s (p_0 : Sl) (w : World) (R : Ending → World → Prop) : E std p_0 w R = (
  sem1 .sl PP (Instr.buildSlice T_Sint 0 #[]) w fun (ρ0 : Sl) ω1 =>
  L4 std p_0 0 ρ0 0 ω1 (q3 std R)) := E_eq std p_0 w R
theorem drawsOk : drawsOk PP cfg okD (codeOf Try.f47) = true := by kernel_rfl
theorem calls (p_0 : Sl) {w : World} {R : Ending → World → Prop} (h : E std p_0 w R) : Calls PP F.spec_l20Up #[Sl.v p_0] w R :=
  calls_of noCount mixed drawOk Try.func47 rfl (c := cfg) (args := [Sl.v p_0]) rfl (Nat.le_of_ble_eq_true (by kernel_rfl)) drawsOk h
end spec_l20Up

namespace spec_l3Reverse
@[reducible] def cfg : Cfg := ⟨21, [(3, [0, 3, 4])], [(1, [0, 3, 4]), (0, [3])], [], [2], [], [73, 46, 18, 22, 43, 45, 72, 88, 85, 80, 81, 70], [56, 63, 74, 86, 89, 64]⟩
def q2 (pr : Prims) (R : Ending → World → Prop) : Exit → Env → World → Prop := fun ex e w => normQ ex (fun e w => contE pr cfg (sub (codeOf Try.f54) [1, 1, 1]) (fun e w => wpC pr PP cfg (DD pr) (sub (codeOf Try.f54) [1, 1, 1]) (retQ Try.f54.results.toList R) e w) e w) (retQ Try.f54.results.toList R) e w
def q3 (pr : Prims) (R : Ending → World → Prop) : Exit → Env → World → Prop := fun ex e w => blockQ ex 0 (q2 pr R) e w
def emb3 (p_0 : Sl) (out_3 : Sl) (k_4 : Int) : Env := [(0, Sl.v p_0), (3, Sl.v out_3), (4, vI k_4)]
def x0 (out_3 : Sl) : Env := [(3, Sl.v out_3)]
def S3 (pr : Prims) (Q : Exit → Env → World → Prop) : (Env → World → Prop) → Env → World → Prop := fun k e w => wpC pr PP cfg (DD pr) (sub (codeOf Try.f54) [1, 1, 0, 1, 0, 0]) (fun ex e w => normQ ex (fun e' w' => k (Env.restr e' (lookN cfg.loops (keyOf (sub (codeOf Try.f54) [1, 1, 0, 1, 0, 0])))) w') Q e w) e w
def B3 (pr : Prims) (p_0 : Sl) (out_3 : Sl) (k_4 : Int) (w : World) (k : Env → World → Prop) (Q : Exit → Env → World → Prop) : Prop :=
  S3 pr Q k (emb3 p_0 out_3 k_4) w
def L3 (pr : Prims) (p_0 : Sl) (out_3 : Sl) (k_4 : Int) (w : World) (Q : Exit → Env → World → Prop) : Prop :=
  pr.loop (S3 pr Q) (emb3 p_0 out_3 k_4) w
def E (pr : Prims) (p_0 : Sl) (w : World) (R : Ending → World → Prop) : Prop :=
  wpC pr PP cfg (DD pr) (codeOf Try.f54) (retQ Try.f54.results.toList R) (argE 0 [Sl.v p_0]) w
theorem B3_eq (pr : Prims) (p_0 : Sl) (out_3 : Sl) (k_4 : Int) (w : World) (k : Env → World → Prop) (Q : Exit → Env → World → Prop) : B3 pr p_0 out_3 k_4 w k Q = (
  bif decide (k_4 ≥ 0) then (
  pr.idxK 1 p_0 k_4 fun (a4 : Addr) =>
  pr.load1 (.int .i64) a4 w fun (ξ5 : Int) =>
  pr.sem1 .sl PP (Instr.buildSlice T_Sint 1 #[(0, vI ξ5)]) w fun (ρ6 : Sl) ω7 =>
  pr.sem1 .sl PP (Builtin.append_ #[T_Sint, T_Sint] T_Sint #[Sl.v out_3, Sl.v ρ6]) ω7 fun (ρ8 : Sl) ω9 =>
  k (emb3 p_0 ρ8 (w64 (k_4 - 1))) ω9)
  else (
  Q (.exit 0) (x0 out_3) w)) := by kernel_rfl
theorem B3_s (p_0 : Sl) (out_3 : Sl) (k_4 : Int) (w : World) (k : Env → World → Prop) (Q : Exit → Env → World → Prop) : B3 std p_0 out_3 k_4 w k Q = (
  bif decide (k_4 ≥ 0) then (
  idxK 1 p_0 k_4 fun (a4 : Addr) =>
  load1 (.int .i64) a4 w fun (ξ5 : Int) =>
  sem1 .sl PP (Instr.buildSlice T_Sint 1 #[(0, vI ξ5)]) w fun (ρ6 : Sl) ω7 =>
  sem1 .sl PP (Builtin.append_ #[T_Sint, T_Sint] T_Sint #[Sl.v out_3, Sl.v ρ6]) ω7 fun (ρ8 : Sl) ω9 =>
  k (emb3 p_0 ρ8 (w64 (k_4 - 1))) ω9)
  else (
  Q (.exit 0) (x0 out_3) w)) := B3_eq std p_0 out_3 k_4 w k Q
theorem L3_rule (p_0 : Sl) (out_3 : Sl) (k_4 : Int) (w : World) (Q : Exit → Env → World → Prop) (I : Sl → Int → World → Prop) (μ : Sl → Int → World → Nat) (h0 : I out_3 k_4 w)
    (h : ∀ (out_3 : Sl) (k_4 : Int) (w' : World), I out_3 k_4 w' → B3 std p_0 out_3 k_4 w' (fun e2 w2 => ∃ out_3_n k_4_n, e2 = emb3 p_0 out_3_n k_4_n ∧ I out_3_n k_4_n w2 ∧ μ out_3_n k_4_n w2 < μ out_3 k_4 w') Q) :
    L3 std p_0 out_3 k_4 w Q := by
  unfold L3
  refine LoopE.intro (σ := Sl × Int) (step := S3 std Q) (fun s => emb3 p_0 s.1 s.2) (fun s w => I s.1 s.2 w) (fun s w => μ s.1 s.2 w) (out_3, k_4) rfl h0 ?_
  intro s w' hI
  have h1 := h s.1 s.2 w' hI
  unfold B3 at h1
  simp only [Prod.exists]
  exact h1
theorem A3_0_eq (pr : Prims) (out_3 : Sl) (w : World) (R : Ending → World → Prop) : (q3 pr R) (.exit 0) (x0 out_3) w = (
  R (.returned (Sl.v out_3)) w) := by kernel_rfl
theorem A3_0_s (out_3 : Sl) (w : World) (R : Ending → World → Prop) : (q3 std R) (.exit 0) (x0 out_3) w = (
  R (.returned (Sl.v out_3)) w) := A3_0_eq std out_3 w R
theorem E_eq (pr : Prims) (p_0 : Sl) (w : World) (R : Ending → World → Prop) : E pr p_0 w R = (
  pr.sem1 .sl PP (Instr.buildSlice T_Sint 0 #[]) w fun (ρ0 : Sl) ω1 =>
  L3 pr p_0 ρ0 (w64 ((p_0.n : Int) - 1)) ω1 (q3 pr R)) := by kernel_rfl
theorem E_s (p_0 : Sl) (w : World) (R : Ending → World → Prop) : E std p_0 w R = (
  sem1 .sl PP (Instr.buildSlice T_Sint 0 #[]) w fun (ρ0 : Sl) ω1 =>
  L3 std p_0 ρ0 (w64 ((p_0.n : Int) - 1)) ω1 (q3 std R)) := E_eq std p_0 w R
theorem drawsOk : drawsOk PP cfg okD (codeOf Try.f54) = true := by kernel_rfl
theorem calls (p_0 : Sl) {w : World} {R : Ending → World → Prop} (h : E std p_0 w R) : Calls PP F.spec_l3Reverse #[Sl.v p_0] w R :=
  calls_of noCount mixed drawOk Try.func54 rfl (c := cfg) (args := [Sl.v p_0]) rfl (Nat.le_of_ble_eq_true (by kernel_rfl)) drawsOk h
end spec_l3Reverse

namespace spec_LongestUp
@[reducible] def cfg : Cfg := ⟨8, [], [], [], [2], [], [73, 46, 18, 22, 43, 45, 72, 88, 85, 80, 81, 70], [56, 63, 74, 86, 89, 64]⟩
def E (pr : Prims) (p_0 : Sl) (w : World) (R : Ending → World → Prop) : Prop :=
  wpC pr PP cfg (DD pr) (codeOf Try.f15) (retQ Try.f15.results.toList R) (argE 0 [Sl.v p_0]) w
theorem E_eq (pr : Prims) (p_0 : Sl) (w : World) (R : Ending → World → Prop) : E pr p_0 w R = (
  pr.call1 .bool PP F.spec_IsPerm #[Sl.v p_0] w fun (ρ0 : Bool) ω1 =>
  bif !ρ0 then (
  R (.returned (vI (-1))) ω1)
  else (
  pr.call1 (.int .i64) PP F.spec_l20Up #[Sl.v p_0] ω1 fun (ρ2 : Int) ω3 =>
  R (.returned (vI ρ2)) ω3)) := by kernel_rfl
theorem E_s (p_0 : Sl) (w : World) (R : Ending → World → Prop) : E std p_0 w R = (
  call1 .bool PP F.spec_IsPerm #[Sl.v p_0] w fun (ρ0 : Bool) ω1 =>
  bif !ρ0 then (
  R (.returned (vI (-1))) ω1)
  else (
  call1 (.int .i64) PP F.spec_l20Up #[Sl.v p_0] ω1 fun (ρ2 : Int) ω3 =>
  R (.returned (vI ρ2)) ω3)) := E_eq std p_0 w R
theorem drawsOk : drawsOk PP cfg okD (codeOf Try.f15) = true := by kernel_rfl
theorem calls (p_0 : Sl) {w : World} {R : Ending → World → Prop} (h : E std p_0 w R) : Calls PP F.spec_LongestUp #[Sl.v p_0] w R :=
  calls_of noCount mixed drawOk Try.func15 rfl (c := cfg) (args := [Sl.v p_0]) rfl (Nat.le_of_ble_eq_true (by kernel_rfl)) drawsOk h
end spec_LongestUp

namespace spec_LongestDown
@[reducible] def cfg : Cfg := ⟨9, [], [], [], [2], [], [73, 46, 18, 22, 43, 45, 72, 88, 85, 80, 81, 70], [56, 63, 74, 86, 89, 64]⟩
def E (pr : Prims) (p_0 : Sl) (w : World) (R : Ending → World → Prop) : Prop :=
  wpC pr PP cfg (DD pr) (codeOf Try.f27) (retQ Try.f27.results.toList R) (argE 0 [Sl.v p_0]) w
theorem E_eq (pr : Prims) (p_0 : Sl) (w : World) (R : Ending → World → Prop) : E pr p_0 w R = (
  pr.call1 .bool PP F.spec_IsPerm #[Sl.v p_0] w fun (ρ0 : Bool) ω1 =>
  bif !ρ0 then (
  R (.returned (vI (-1))) ω1)
  else (
  pr.call1 .sl PP F.spec_l3Reverse #[Sl.v p_0] ω1 fun (ρ2 : Sl) ω3 =>
  pr.call1 (.int .i64) PP F.spec_l20Up #[Sl.v ρ2] ω3 fun (ρ4 : Int) ω5 =>
  R (.returned (vI ρ4)) ω5)) := by kernel_rfl
theorem E_s (p_0 : Sl) (w : World) (R : Ending → World → Prop) : E std p_0 w R = (
  call1 .bool PP F.spec_IsPerm #[Sl.v p_0] w fun (ρ0 : Bool) ω1 =>
  bif !ρ0 then (
  R (.returned (vI (-1))) ω1)
  else (
  call1 .sl PP F.spec_l3Reverse #[Sl.v p_0] ω1 fun (ρ2 : Sl) ω3 =>
  call1 (.int .i64) PP F.spec_l20Up #[Sl.v ρ2] ω3 fun (ρ4 : Int) ω5 =>
  R (.returned (vI ρ4)) ω5)) := E_eq std p_0 w R
theorem drawsOk : drawsOk PP cfg okD (codeOf Try.f27) = true := by kernel_rfl
theorem calls (p_0 : Sl) {w : World} {R : Ending → World → Prop} (h : E std p_0 w R) : Calls PP F.spec_LongestDown #[Sl.v p_0] w R :=
  calls_of noCount mixed drawOk Try.func27 rfl (c := cfg) (args := [Sl.v p_0]) rfl (Nat.le_of_ble_eq_true (by kernel_rfl)) drawsOk h
end spec_LongestDown

namespace spec_HasLongRun
@[reducible] def cfg : Cfg := ⟨22, [], [], [], [6], [], [73, 46, 18, 22, 43, 45, 72, 88, 85, 80, 81, 70], [56, 63, 74, 86, 89, 64]⟩
def E (pr : Prims) (p_0 : Sl) (k_1 : Int) (m_2 : Int) (w : World) (R : Ending → World → Prop) : Prop :=
  wpC pr PP cfg (DD pr) (codeOf Try.f25) (retQ Try.f25.results.toList R) (argE 0 [Sl.v p_0, vI k_1, vI m_2]) w
theorem E_eq (pr : Prims) (p_0 : Sl) (k_1 : Int) (m_2 : Int) (w : World) (R : Ending → World → Prop) : E pr p_0 k_1 m_2 w R = (
  pr.call1 .bool PP F.spec_IsPerm #[Sl.v p_0] w fun (ρ0 : Bool) ω1 =>
  bif ρ0 then (
  pr.call1 (.int .i64) PP F.spec_l20Up #[Sl.v p_0] ω1 fun (ρ2 : Int) ω3 =>
  bif decide (ρ2 > k_1) then (
  R (.returned (.bool true)) ω3)
  else (
  pr.call1 .sl PP F.spec_l3Reverse #[Sl.v p_0] ω3 fun (ρ4 : Sl) ω5 =>
  pr.call1 (.int .i64) PP F.spec_l20Up #[Sl.v ρ4] ω5 fun (ρ6 : Int) ω7 =>
  R (.returned (.bool (decide (ρ6 > m_2)))) ω7))
  else (
  R (.returned (.bool false)) ω1)) := by kernel_rfl
theorem E_s (p_0 : Sl) (k_1 : Int) (m_2 : Int) (w : World) (R : Ending → World → Prop) : E std p_0 k_1 m_2 w R = (
  call1 .bool PP F.spec_IsPerm #[Sl.v p_0] w fun (ρ0 : Bool) ω1 =>
  bif ρ0 then (
  call1 (.int .i64) PP F.spec_l20Up #[Sl.v p_0] ω1 fun (ρ2 : Int) ω3 =>
  bif decide (ρ2 > k_1) then (
  R (.returned (.bool true)) ω3)
  else (
  call1 .sl PP F.spec_l3Reverse #[Sl.v p_0] ω3 fun (ρ4 : Sl) ω5 =>
  call1 (.int .i64) PP F.spec_l20Up #[Sl.v ρ4] ω5 fun (ρ6 : Int) ω7 =>
  R (.returned (.bool (decide (ρ6 > m_2)))) ω7))
  else (
  R (.returned (.bool false)) ω1)) := E_eq std p_0 k_1 m_2 w R
theorem drawsOk : drawsOk PP cfg okD (codeOf Try.f25) = true := by kernel_rfl
theorem calls (p_0 : Sl) (k_1 : Int) (m_2 : Int) {w : World} {R : Ending → World → Prop} (h : E std p_0 k_1 m_2 w R) : Calls PP F.spec_HasLongRun #[Sl.v p_0, vI k_1, vI m_2] w R :=
  calls_of noCount mixed drawOk Try.func25 rfl (c := cfg) (args := [Sl.v p_0, vI k_1, vI m_2]) rfl (Nat.le_of_ble_eq_true (by kernel_rfl)) drawsOk h
end spec_HasLongRun

namespace laws_FnExactLongestUp
@[reducible] def cfg : Cfg := ⟨24, [], [], [], [2], [], [73, 46, 18, 22, 43, 45, 72, 88, 85, 80, 81, 70], [56, 63, 74, 86, 89, 64]⟩
def E (pr : Prims) (aP_0 : Sl) (w : World) (R : Ending → World → Prop) : Prop :=
  wpC pr PP cfg (DD pr) (codeOf Try.f3) (retQ Try.f3.results.toList R) (argE 0 [Sl.v aP_0]) w
theorem E_eq (pr : Prims) (aP_0 : Sl) (w : World) (R : Ending → World → Prop) : E pr aP_0 w R = (
  bif decide ((aP_0.n : Int) > 1048576) then (
  R (.returned (.bool true)) w)
  else (
  pr.call1 .sl PP F.laws_toIntS #[Sl.v aP_0] w fun (ρ0 : Sl) ω1 =>
  pr.call1 (.int .i64) PP F.spec_LongestUp #[Sl.v ρ0] ω1 fun (ρ2 : Int) ω3 =>
  pr.call1 .sl PP F.laws_toIntS #[Sl.v aP_0] ω3 fun (ρ4 : Sl) ω5 =>
  pr.call1 (.int .i64) PP F.impl_LongestUp #[Sl.v ρ4] ω5 fun (ρ6 : Int) ω7 =>
  bif ρ6 != ρ2 then (
  R (.returned (.bool false)) ω7)
  else (
  pr.call1 .sl PP F.laws_toIntS #[Sl.v aP_0] ω7 fun (ρ8 : Sl) ω9 =>
  pr.call1 .bool PP F.laws_eqIntS #[Sl.v ρ4, Sl.v ρ8] ω9 fun (ρ10 : Bool) ω11 =>
  bif !ρ10 then (
  R (.returned (.bool false)) ω11)
  else (
  R (.returned (.bool true)) ω11)))) := by kernel_rfl
theorem E_s (aP_0 : Sl) (w : World) (R : Ending → World → Prop) : E std aP_0 w R = (
  bif decide ((aP_0.n : Int) > 1048576) then (
  R (.returned (.bool true)) w)
  else (
  call1 .sl PP F.laws_toIntS #[Sl.v aP_0] w fun (ρ0 : Sl) ω1 =>
  call1 (.int .i64) PP F.spec_LongestUp #[Sl.v ρ0] ω1 fun (ρ2 : Int) ω3 =>
  call1 .sl PP F.laws_toIntS #[Sl.v aP_0] ω3 fun (ρ4 : Sl) ω5 =>
  call1 (.int .i64) PP F.impl_LongestUp #[Sl.v ρ4] ω5 fun (ρ6 : Int) ω7 =>
  bif ρ6 != ρ2 then (
  R (.returned (.bool false)) ω7)
  else (
  call1 .sl PP F.laws_toIntS #[Sl.v aP_0] ω7 fun (ρ8 : Sl) ω9 =>
  call1 .bool PP F.laws_eqIntS #[Sl.v ρ4, Sl.v ρ8] ω9 fun (ρ10 : Bool) ω11 =>
  bif !ρ10 then (
  R (.returned (.bool false)) ω11)
  else (
  R (.returned (.bool true)) ω11)))) := E_eq std aP_0 w R
theorem drawsOk : drawsOk PP cfg okD (codeOf Try.f3) = true := by kernel_rfl
theorem calls (aP_0 : Sl) {w : World} {R : Ending → World → Prop} (h : E std aP_0 w R) : Calls PP F.laws_FnExactLongestUp #[Sl.v aP_0] w R :=
  calls_of noCount mixed drawOk Try.func3 rfl (c := cfg) (args := [Sl.v aP_0]) rfl (Nat.le_of_ble_eq_true (by kernel_rfl)) drawsOk h
end laws_FnExactLongestUp

namespace laws_FnExactLongestDown
@[reducible] def cfg : Cfg := ⟨24, [], [], [], [2], [], [73, 46, 18, 22, 43, 45, 72, 88, 85, 80, 81, 70], [56, 63, 74, 86, 89, 64]⟩
def E (pr : Prims) (aP_0 : Sl) (w : World) (R : Ending → World → Prop) : Prop :=
  wpC pr PP cfg (DD pr) (codeOf Try.f7) (retQ Try.f7.results.toList R) (argE 0 [Sl.v aP_0]) w
theorem E_eq (pr : Prims) (aP_0 : Sl) (w : World) (R : Ending → World → Prop) : E pr aP_0 w R = (
  bif decide ((aP_0.n : Int) > 1048576) then (
  R (.returned (.bool true)) w)
  else (
  pr.call1 .sl PP F.laws_toIntS #[Sl.v aP_0] w fun (ρ0 : Sl) ω1 =>
  pr.call1 (.int .i64) PP F.spec_LongestDown #[Sl.v ρ0] ω1 fun (ρ2 : Int) ω3 =>
  pr.call1 .sl PP F.laws_toIntS #[Sl.v aP_0] ω3 fun (ρ4 : Sl) ω5 =>
  pr.call1 (.int .i64) PP F.impl_LongestDown #[Sl.v ρ4] ω5 fun (ρ6 : Int) ω7 =>
  bif ρ6 != ρ2 then (
  R (.returned (.bool false)) ω7)
  else (
  pr.call1 .sl PP F.laws_toIntS #[Sl.v aP_0] ω7 fun (ρ8 : Sl) ω9 =>
  pr.call1 .bool PP F.laws_eqIntS #[Sl.v ρ4, Sl.v ρ8] ω9 fun (ρ10 : Bool) ω11 =>
  bif !ρ10 then (
  R (.returned (.bool false)) ω11)
  else (
  R (.returned (.bool true)) ω11)))) := by kernel_rfl
theorem E_s (aP_0 : Sl) (w : World) (R : Ending → World → Prop) : E std aP_0 w R = (
  bif decide ((aP_0.n : Int) > 1048576) then (
  R (.returned (.bool true)) w)
  else (
  call1 .sl PP F.laws_toIntS #[Sl.v aP_0] w fun (ρ0 : Sl) ω1 =>
  call1 (.int .i64) PP F.spec_LongestDown #[Sl.v ρ0] ω1 fun (ρ2 : Int) ω3 =>
  call1 .sl PP F.laws_toIntS #[Sl.v aP_0] ω3 fun (ρ4 : Sl) ω5 =>
  call1 (.int .i64) PP F.impl_LongestDown #[Sl.v ρ4] ω5 fun (ρ6 : Int) ω7 =>
  bif ρ6 != ρ2 then (
  R (.returned (.bool false)) ω7)
  else (
  call1 .sl PP F.laws_toIntS #[Sl.v aP_0] ω7 fun (ρ8 : Sl) ω9 =>
  call1 .bool PP F.laws_eqIntS #[Sl.v ρ4, Sl.v ρ8] ω9 fun (ρ10 : Bool) ω11 =>
  bif !ρ10 then (
  R (.returned (.bool false)) ω11)
  else (
  R (.returned (.bool true)) ω11)))) := E_eq std aP_0 w R
theorem drawsOk : drawsOk PP cfg okD (codeOf Try.f7) = true := by kernel_rfl
theorem calls (aP_0 : Sl) {w : World} {R : Ending → World → Prop} (h : E std aP_0 w R) : Calls PP F.laws_FnExactLongestDown #[Sl.v aP_0] w R :=
  calls_of noCount mixed drawOk Try.func7 rfl (c := cfg) (args := [Sl.v aP_0]) rfl (Nat.le_of_ble_eq_true (by kernel_rfl)) drawsOk h
end laws_FnExactLongestDown

namespace laws_FnExactHasLongRun
@[reducible] def cfg : Cfg := ⟨32, [], [], [], [6], [], [73, 46, 18, 22, 43, 45, 72, 88, 85, 80, 81, 70], [56, 63, 74, 86, 89, 64]⟩
def E (pr : Prims) (aP_0 : Sl) (aK_1 : Int) (aM_2 : Int) (w : World) (R : Ending → World → Prop) : Prop :=
  wpC pr PP cfg (DD pr) (codeOf Try.f6) (retQ Try.f6.results.toList R) (argE 0 [Sl.v aP_0, vI aK_1, vI aM_2]) w
theorem E_eq (pr : Prims) (aP_0 : Sl) (aK_1 : Int) (aM_2 : Int) (w : World) (R : Ending → World → Prop) : E pr aP_0 aK_1 aM_2 w R = (
  bif decide ((aP_0.n : Int) > 1048576) then (
  R (.returned (.bool true)) w)
  else (
  pr.call1 .sl PP F.laws_toIntS #[Sl.v aP_0] w fun (ρ0 : Sl) ω1 =>
  pr.call1 .bool PP F.spec_HasLongRun #[Sl.v ρ0, vI aK_1, vI aM_2] ω1 fun (ρ2 : Bool) ω3 =>
  pr.call1 .sl PP F.laws_toIntS #[Sl.v aP_0] ω3 fun (ρ4 : Sl) ω5 =>
  pr.call1 .bool PP F.impl_HasLongRun #[Sl.v ρ4, vI aK_1, vI aM_2] ω5 fun (ρ6 : Bool) ω7 =>
  bif !(ρ6 == ρ2) then (
  R (.returned (.bool false)) ω7)
  else (
  pr.call1 .sl PP F.laws_toIntS #[Sl.v aP_0] ω7 fun (ρ8 : Sl) ω9 =>
  pr.call1 .bool PP F.laws_eqIntS #[Sl.v ρ4, Sl.v ρ8] ω9 fun (ρ10 : Bool) ω11 =>
  bif !ρ10 then (
  R (.returned (.bool false)) ω11)
  else (
  R (.returned (.bool true)) ω11)))) := by kernel_rfl
theorem E_s (aP_0 : Sl) (aK_1 : Int) (aM_2 : Int) (w : World) (R : Ending → World → Prop) : E std aP_0 aK_1 aM_2 w R = (
  bif decide ((aP_0.n : Int) > 1048576) then (
  R (.returned (.bool true)) w)
  else (
  call1 .sl PP F.laws_toIntS #[Sl.v aP_0] w fun (ρ0 : Sl) ω1 =>
  call1 .bool PP F.spec_HasLongRun #[Sl.v ρ0, vI aK_1, vI aM_2] ω1 fun (ρ2 : Bool) ω3 =>
  call1 .sl PP F.laws_toIntS #[Sl.v aP_0] ω3 fun (ρ4 : Sl) ω5 =>
  call1 .bool PP F.impl_HasLongRun #[Sl.v ρ4, vI aK_1, vI aM_2] ω5 fun (ρ6 : Bool) ω7 =>
  bif !(ρ6 == ρ2) then (
  R (.returned (.bool false)) ω7)
  else (
  call1 .sl PP F.laws_toIntS #[Sl.v aP_0] ω7 fun (ρ8 : Sl) ω9 =>
  call1 .bool PP F.laws_eqIntS #[Sl.v ρ4, Sl.v ρ8] ω9 fun (ρ10 : Bool) ω11 =>
  bif !ρ10 then (
  R (.returned (.bool false)) ω11)
  else (
  R (.returned (.bool true)) ω11)))) := E_eq std aP_0 aK_1 aM_2 w R
theorem drawsOk : drawsOk PP cfg okD (codeOf Try.f6) = true := by kernel_rfl
theorem calls (aP_0 : Sl) (aK_1 : Int) (aM_2 : Int) {w : World} {R : Ending → World → Prop} (h : E std aP_0 aK_1 aM_2 w R) : Calls PP F.laws_FnExactHasLongRun #[Sl.v aP_0, vI aK_1, vI aM_2] w R :=
  calls_of noCount mixed drawOk Try.func6 rfl (c := cfg) (args := [Sl.v aP_0, vI aK_1, vI aM_2]) rfl (Nat.le_of_ble_eq_true (by kernel_rfl)) drawsOk h
end laws_FnExactHasLongRun

namespace impl_stackPass
@[reducible] def cfg : Cfg := ⟨52, [(5, [3, 4, 6, 9, 10, 11]), (3, [3, 4, 9, 10, 11])], [(3, [3, 4, 6, 9, 10, 11]), (2, [3, 4, 6, 9, 10, 11]), (1, [3, 4, 9, 10, 11]), (0, [3, 4])], [], [2], [], [73, 46, 18, 22, 43, 45, 72, 88, 85, 80, 81, 70], [56, 63, 74, 86, 89, 64]⟩
def q4 (pr : Prims) (R : Ending → World → Prop) : Exit → Env → World → Prop := fun ex e w => normQ ex (fun e w => contE pr cfg (sub (codeOf Try.f51) [1, 1, 1]) (fun e w => wpC pr PP cfg (DD pr) (sub (codeOf Try.f51) [1, 1, 1]) (retQ Try.f51.results.toList R) e w) e w) (retQ Try.f51.results.toList R) e w
def q5 (pr : Prims) (R : Ending → World → Prop) : Exit → Env → World → Prop := fun ex e w => blockQ ex 0 (q4 pr R) e w
def q6 (pr : Prims) (k : Env → World → Prop) (Q : Exit → Env → World → Prop) : Exit → Env → World → Prop := fun ex e w => normQ ex (fun e w => contE pr cfg (sub (codeOf Try.f51) [1, 1, 0, 1, 0, 0, 1, 1, 1]) (fun e w => wpC pr PP cfg (DD pr) (sub (codeOf Try.f51) [1, 1, 0, 1, 0, 0, 1, 1, 1]) (fun ex e w => normQ ex (fun e' w' => k (Env.restr e' (lookN cfg.loops (keyOf (sub (codeOf Try.f51) [1, 1, 0, 1, 0, 0])))) w') Q e w) e w) e w) (fun ex e w => normQ ex (fun e' w' => k (Env.restr e' (lookN cfg.loops (keyOf (sub (codeOf Try.f51) [1, 1, 0, 1, 0, 0])))) w') Q e w) e w
def q7 (pr : Prims) (k : Env → World → Prop) (Q : Exit → Env → World → Prop) : Exit → Env → World → Prop := fun ex e w => blockQ ex 1 (q6 pr k Q) e w
def q10 (pr : Prims) (k : Env → World → Prop) (Q : Exit → Env → World → Prop) : Exit → Env → World → Prop := fun ex e w => normQ ex (fun e w => contE pr cfg (sub (codeOf Try.f51) [1, 1, 0, 1, 0, 0, 1, 1, 0, 0, 1, 1]) (fun e w => wpC pr PP cfg (DD pr) (sub (codeOf Try.f51) [1, 1, 0, 1, 0, 0, 1, 1, 0, 0, 1, 1]) (q7 pr k Q) e w) e w) (q7 pr k Q) e w
def q11 (pr : Prims) (k : Env → World → Prop) (Q : Exit → Env → World → Prop) : Exit → Env → World → Prop := fun ex e w => blockQ ex 2 (q10 pr k Q) e w
def emb3 (out_3 : Sl) (stack_4 : Sl) (t9 : Sl) (t10 : Int) (t11 : Int) : Env := [(3, Sl.v out_3), (4, Sl.v stack_4), (9, Sl.v t9), (10, vI t10), (11, vI t11)]
def emb5 (out_3 : Sl) (stack_4 : Sl) (v_6 : Int) (t9 : Sl) (t10 : Int) (t11 : Int) : Env := [(3, Sl.v out_3), (4, Sl.v stack_4), (6, vI v_6), (9, Sl.v t9), (10, vI t10), (11, vI t11)]
def x2 (out_3 : Sl) (stack_4 : Sl) (v_6 : Int) (t9 : Sl) (t10 : Int) (t11 : Int) : Env := [(3, Sl.v out_3), (4, Sl.v stack_4), (6, vI v_6), (9, Sl.v t9), (10, vI t10), (11, vI t11)]
def x0 (out_3 : Sl) (stack_4 : Sl) : Env := [(3, Sl.v out_3), (4, Sl.v stack_4)]
def S5 (pr : Prims) (Q : Exit → Env → World → Prop) : (Env → World → Prop) → Env → World → Prop := fun k e w => wpC pr PP cfg (DD pr) (sub (codeOf Try.f51) [1, 1, 0, 1, 0, 0, 1, 1, 0, 0, 1, 0, 0, 0]) (fun ex e w => normQ ex (fun e' w' => k (Env.restr e' (lookN cfg.loops (keyOf (sub (codeOf Try.f51) [1, 1, 0, 1, 0, 0, 1, 1, 0, 0, 1, 0, 0, 0])))) w') Q e w) e w
def S3 (pr : Prims) (Q : Exit → Env → World → Prop) : (Env → World → Prop) → Env → World → Prop := fun k e w => wpC pr PP cfg (DD pr) (sub (codeOf Try.f51) [1, 1, 0, 1, 0, 0]) (fun ex e w => normQ ex (fun e' w' => k (Env.restr e' (lookN cfg.loops (keyOf (sub (codeOf Try.f51) [1, 1, 0, 1, 0, 0])))) w') Q e w) e w
def B5 (pr : Prims) (out_3 : Sl) (stack_4 : Sl) (v_6 : Int) (t9 : Sl) (t10 : Int) (t11 : Int) (w : World) (k : Env → World → Prop) (Q : Exit → Env → World → Prop) : Prop :=
  S5 pr Q k (emb5 out_3 stack_4 v_6 t9 t10 t11) w
def L5 (pr : Prims) (out_3 : Sl) (stack_4 : Sl) (v_6 : Int) (t9 : Sl) (t10 : Int) (t11 : Int) (w : World) (Q : Exit → Env → World → Prop) : Prop :=
  pr.loop (S5 pr Q) (emb5 out_3 stack_4 v_6 t9 t10 t11) w
def B3 (pr : Prims) (out_3 : Sl) (stack_4 : Sl) (t9 : Sl) (t10 : Int) (t11 : Int) (w : World) (k : Env → World → Prop) (Q : Exit → Env → World → Prop) : Prop :=
  S3 pr Q k (emb3 out_3 stack_4 t9 t10 t11) w
def L3 (pr : Prims) (out_3 : Sl) (stack_4 : Sl) (t9 : Sl) (t10 : Int) (t11 : Int) (w : World) (Q : Exit → Env → World → Prop) : Prop :=
  pr.loop (S3 pr Q) (emb3 out_3 stack_4 t9 t10 t11) w
def E (pr : Prims) (p_0 : Sl) (w : World) (R : Ending → World → Prop) : Prop :=
  wpC pr PP cfg (DD pr) (codeOf Try.f51) (retQ Try.f51.results.toList R) (argE 0 [Sl.v p_0]) w
theorem B5_eq (pr : Prims) (out_3 : Sl) (stack_4 : Sl) (v_6 : Int) (t9 : Sl) (t10 : Int) (t11 : Int) (w : World) (k : Env → World → Prop) (Q : Exit → Env → World → Prop) : B5 pr out_3 stack_4 v_6 t9 t10 t11 w k Q = (
  bif decide ((stack_4.n : Int) > 0) then (
  pr.idxK 1 stack_4 (w64 ((stack_4.n : Int) - 1)) fun (a12 : Addr) =>
  pr.load1 (.int .i64) a12 w fun (ξ13 : Int) =>
  bif decide (ξ13 < v_6) then (
  pr.drewAll w fun ω14 =>
  pr.idxK 1 stack_4 (w64 ((stack_4.n : Int) - 1)) fun (a15 : Addr) =>
  pr.cutK 1 stack_4 none (some (w64 ((stack_4.n : Int) - 1))) fun (s16 : Sl) =>
  pr.load1 (.int .i64) a15 ω14 fun (ξ17 : Int) =>
  pr.sem1 .sl PP (Instr.buildSlice T_Sint 1 #[(0, vI ξ17)]) ω14 fun (ρ18 : Sl) ω19 =>
  pr.sem1 .sl PP (Builtin.append_ #[T_Sint, T_Sint] T_Sint #[Sl.v out_3, Sl.v ρ18]) ω19 fun (ρ20 : Sl) ω21 =>
  k (emb5 ρ20 s16 v_6 t9 t10 t11) ω21)
  else (
  Q (.exit 2) (x2 out_3 stack_4 v_6 t9 t10 t11) w))
  else (
  Q (.exit 2) (x2 out_3 stack_4 v_6 t9 t10 t11) w)) := by kernel_rfl
theorem B5_s (out_3 : Sl) (stack_4 : Sl) (v_6 : Int) (t9 : Sl) (t10 : Int) (t11 : Int) (w : World) (k : Env → World → Prop) (Q : Exit → Env → World → Prop) : B5 std out_3 stack_4 v_6 t9 t10 t11 w k Q = (
  bif decide ((stack_4.n : Int) > 0) then (
  idxK 1 stack_4 (w64 ((stack_4.n : Int) - 1)) fun (a12 : Addr) =>
  load1 (.int .i64) a12 w fun (ξ13 : Int) =>
  bif decide (ξ13 < v_6) then (
  drewAll w fun ω14 =>
  idxK 1 stack_4 (w64 ((stack_4.n : Int) - 1)) fun (a15 : Addr) =>
  cutK 1 stack_4 none (some (w64 ((stack_4.n : Int) - 1))) fun (s16 : Sl) =>
  load1 (.int .i64) a15 ω14 fun (ξ17 : Int) =>
  sem1 .sl PP (Instr.buildSlice T_Sint 1 #[(0, vI ξ17)]) ω14 fun (ρ18 : Sl) ω19 =>
  sem1 .sl PP (Builtin.append_ #[T_Sint, T_Sint] T_Sint #[Sl.v out_3, Sl.v ρ18]) ω19 fun (ρ20 : Sl) ω21 =>
  k (emb5 ρ20 s16 v_6 t9 t10 t11) ω21)
  else (
  Q (.exit 2) (x2 out_3 stack_4 v_6 t9 t10 t11) w))
  else (
  Q (.exit 2) (x2 out_3 stack_4 v_6 t9 t10 t11) w)) := B5_eq std out_3 stack_4 v_6 t9 t10 t11 w k Q
theorem L5_rule (out_3 : Sl) (stack_4 : Sl) (v_6 : Int) (t9 : Sl) (t10 : Int) (t11 : Int) (w : World) (Q : Exit → Env → World → Prop) (I : Sl → Sl → World → Prop) (μ : Sl → Sl → World → Nat) (h0 : I out_3 stack_4 w)
    (h : ∀ (out_3 : Sl) (stack_4 : Sl) (w' : World), I out_3 stack_4 w' → B5 std out_3 stack_4 v_6 t9 t10 t11 w' (fun e2 w2 => ∃ out_3_n stack_4_n, e2 = emb5 out_3_n stack_4_n v_6 t9 t10 t11 ∧ I out_3_n stack_4_n w2 ∧ μ out_3_n stack_4_n w2 < μ out_3 stack_4 w') Q) :
    L5 std out_3 stack_4 v_6 t9 t10 t11 w Q := by
  unfold L5
  refine LoopE.intro (σ := Sl × Sl) (step := S5 std Q) (fun s => emb5 s.1 s.2 v_6 t9 t10 t11) (fun s w => I s.1 s.2 w) (fun s w => μ s.1 s.2 w) (out_3, stack_4) rfl h0 ?_
  intro s w' hI
  have h1 := h s.1 s.2 w' hI
  unfold B5 at h1
  simp only [Prod.exists]
  exact h1
theorem A5_2_eq (pr : Prims) (out_3 : Sl) (stack_4 : Sl) (v_6 : Int) (t9 : Sl) (t10 : Int) (t11 : Int) (w : World) (k : Env → World → Prop) (Q : Exit → Env → World → Prop) : (q11 pr k Q) (.exit 2) (x2 out_3 stack_4 v_6 t9 t10 t11) w = (
  pr.sem1 .sl PP (Instr.buildSlice T_Sint 1 #[(0, vI v_6)]) w fun (ρ22 : Sl) ω23 =>
  pr.sem1 .sl PP (Builtin.append_ #[T_Sint, T_Sint] T_Sint #[Sl.v stack_4, Sl.v ρ22]) ω23 fun (ρ24 : Sl) ω25 =>
  k (emb3 out_3 ρ24 t9 t10 (w64 (t11 + 1))) ω25) := by kernel_rfl
theorem A5_2_s (out_3 : Sl) (stack_4 : Sl) (v_6 : Int) (t9 : Sl) (t10 : Int) (t11 : Int) (w : World) (k : Env → World → Prop) (Q : Exit → Env → World → Prop) : (q11 std k Q) (.exit 2) (x2 out_3 stack_4 v_6 t9 t10 t11) w = (
  sem1 .sl PP (Instr.buildSlice T_Sint 1 #[(0, vI v_6)]) w fun (ρ22 : Sl) ω23 =>
  sem1 .sl PP (Builtin.append_ #[T_Sint, T_Sint] T_Sint #[Sl.v stack_4, Sl.v ρ22]) ω23 fun (ρ24 : Sl) ω25 =>
  k (emb3 out_3 ρ24 t9 t10 (w64 (t11 + 1))) ω25) := A5_2_eq std out_3 stack_4 v_6 t9 t10 t11 w k Q
theorem B3_eq (pr : Prims) (out_3 : Sl) (stack_4 : Sl) (t9 : Sl) (t10 : Int) (t11 : Int) (w : World) (k : Env → World → Prop) (Q : Exit → Env → World → Prop) : B3 pr out_3 stack_4 t9 t10 t11 w k Q = (
  bif decide (t11 < t10) then (
  pr.idxK 1 t9 t11 fun (a8 : Addr) =>
  pr.load1 (.int .i64) a8 w fun (ξ9 : Int) =>
  L5 pr out_3 stack_4 ξ9 t9 t10 t11 w (q11 pr k Q))
  else (
  Q (.exit 0) (x0 out_3 stack_4) w)) := by kernel_rfl
theorem B3_s (out_3 : Sl) (stack_4 : Sl) (t9 : Sl) (t10 : Int) (t11 : Int) (w : World) (k : Env → World → Prop) (Q : Exit → Env → World → Prop) : B3 std out_3 stack_4 t9 t10 t11 w k Q = (
  bif decide (t11 < t10) then (
  idxK 1 t9 t11 fun (a8 : Addr) =>
  load1 (.int .i64) a8 w fun (ξ9 : Int) =>
  L5 std out_3 stack_4 ξ9 t9 t10 t11 w (q11 std k Q))
  else (
  Q (.exit 0) (x0 out_3 stack_4) w)) := B3_eq std out_3 stack_4 t9 t10 t11 w k Q
theorem L3_rule (out_3 : Sl) (stack_4 : Sl) (t9 : Sl) (t10 : Int) (t11 : Int) (w : World) (Q : Exit → Env → World → Prop) (I : Sl → Sl → Int → World → Prop) (μ : Sl → Sl → Int → World → Nat) (h0 : I out_3 stack_4 t11 w)
    (h : ∀ (out_3 : Sl) (stack_4 : Sl) (t11 : Int) (w' : World), I out_3 stack_4 t11 w' → B3 std out_3 stack_4 t9 t10 t11 w' (fun e2 w2 => ∃ out_3_n stack_4_n t11_n, e2 = emb3 out_3_n stack_4_n t9 t10 t11_n ∧ I out_3_n stack_4_n t11_n w2 ∧ μ out_3_n stack_4_n t11_n w2 < μ out_3 stack_4 t11 w') Q) :
    L3 std out_3 stack_4 t9 t10 t11 w Q := by
  unfold L3
  refine LoopE.intro (σ := Sl × Sl × Int) (step := S3 std Q) (fun s => emb3 s.1 s.2.1 t9 t10 s.2.2) (fun s w => I s.1 s.2.1 s.2.2 w) (fun s w => μ s.1 s.2.1 s.2.2 w) (out_3, stack_4, t11) rfl h0 ?_
  intro s w' hI
  have h1 := h s.1 s.2.1 s.2.2 w' hI
  unfold B3 at h1
  simp only [Prod.exists]
  exact h1
theorem A3_0_eq (pr : Prims) (out_3 : Sl) (stack_4 : Sl) (w : World) (R : Ending → World → Prop) : (q5 pr R) (.exit 0) (x0 out_3 stack_4) w = (
  pr.call0  PP F.slices_Reverse___int_int_ #[Sl.v stack_4] w fun ω26 =>
  pr.sem1 .sl PP (Builtin.append_ #[T_Sint, T_Sint] T_Sint #[Sl.v out_3, Sl.v stack_4]) ω26 fun (ρ27 : Sl) ω28 =>
  R (.returned (Sl.v ρ27)) ω28) := by kernel_rfl
theorem A3_0_s (out_3 : Sl) (stack_4 : Sl) (w : World) (R : Ending → World → Prop) : (q5 std R) (.exit 0) (x0 out_3 stack_4) w = (
  call0  PP F.slices_Reverse___int_int_ #[Sl.v stack_4] w fun ω26 =>
  sem1 .sl PP (Builtin.append_ #[T_Sint, T_Sint] T_Sint #[Sl.v out_3, Sl.v stack_4]) ω26 fun (ρ27 : Sl) ω28 =>
  R (.returned (Sl.v ρ27)) ω28) := A3_0_eq std out_3 stack_4 w R
theorem E_eq (pr : Prims) (p_0 : Sl) (w : World) (R : Ending → World → Prop) : E pr p_0 w R = (
  pr.sem1 .sl PP (Instr.buildSlice T_Sint 0 #[]) w fun (ρ0 : Sl) ω1 =>
  pr.sem1 .sl PP (Instr.buildSlice T_Sint 0 #[]) ω1 fun (ρ2 : Sl) ω3 =>
  L3 pr ρ0 ρ2 p_0 (p_0.n : Int) 0 ω3 (q5 pr R)) := by kernel_rfl
theorem E_s (p_0 : Sl) (w : World) (R : Ending → World → Prop) : E std p_0 w R = (
  sem1 .sl PP (Instr.buildSlice T_Sint 0 #[]) w fun (ρ0 : Sl) ω1 =>
  sem1 .sl PP (Instr.buildSlice T_Sint 0 #[]) ω1 fun (ρ2 : Sl) ω3 =>
  L3 std ρ0 ρ2 p_0 (p_0.n : Int) 0 ω3 (q5 std R)) := E_eq std p_0 w R
theorem drawsOk : drawsOk PP cfg okD (codeOf Try.f51) = true := by kernel_rfl
theorem calls (p_0 : Sl) {w : World} {R : Ending → World → Prop} (h : E std p_0 w R) : Calls PP F.impl_stackPass #[Sl.v p_0] w R :=
  calls_of noCount mixed drawOk Try.func51 rfl (c := cfg) (args := [Sl.v p_0]) rfl (Nat.le_of_ble_eq_true (by kernel_rfl)) drawsOk h
end impl_stackPass

namespace impl_StackPass
@[reducible] def cfg : Cfg := ⟨8, [], [], [], [2], [], [73, 46, 18, 22, 43, 45, 72, 88, 85, 80, 81, 70], [56, 63, 74, 86, 89, 64]⟩
def E (pr : Prims) (p_0 : Sl) (w : World) (R : Ending → World → Prop) : Prop :=
  wpC pr PP cfg (DD pr) (codeOf Try.f20) (retQ Try.f20.results.toList R) (argE 0 [Sl.v p_0]) w
theorem E_eq (pr : Prims) (p_0 : Sl) (w : World) (R : Ending → World → Prop) : E pr p_0 w R = (
  pr.call1 .bool PP F.impl_IsPerm #[Sl.v p_0] w fun (ρ0 : Bool) ω1 =>
  bif !ρ0 then (
  R (.returned (Sl.v Sl.nil)) ω1)
  else (
  pr.call1 .sl PP F.impl_stackPass #[Sl.v p_0] ω1 fun (ρ2 : Sl) ω3 =>
  R (.returned (Sl.v ρ2)) ω3)) := by kernel_rfl
theorem E_s (p_0 : Sl) (w : World) (R : Ending → World → Prop) : E std p_0 w R = (
  call1 .bool PP F.impl_IsPerm #[Sl.v p_0] w fun (ρ0 : Bool) ω1 =>
  bif !ρ0 then (
  R (.returned (Sl.v Sl.nil)) ω1)
  else (
  call1 .sl PP F.impl_stackPass #[Sl.v p_0] ω1 fun (ρ2 : Sl) ω3 =>
  R (.returned (Sl.v ρ2)) ω3)) := E_eq std p_0 w R
theorem drawsOk : drawsOk PP cfg okD (codeOf Try.f20) = true := by kernel_rfl
theorem calls (p_0 : Sl) {w : World} {R : Ending → World → Prop} (h : E std p_0 w R) : Calls PP F.impl_StackPass #[Sl.v p_0] w R :=
  calls_of noCount mixed drawOk Try.func20 rfl (c := cfg) (args := [Sl.v p_0]) rfl (Nat.le_of_ble_eq_true (by kernel_rfl)) drawsOk h
end impl_StackPass

namespace impl_IsStackSorted
@[reducible] def cfg : Cfg := ⟨10, [], [], [], [2], [], [73, 46, 18, 22, 43, 45, 72, 88, 85, 80, 81, 70], [56, 63, 74, 86, 89, 64]⟩
def E (pr : Prims) (p_0 : Sl) (w : World) (R : Ending → World → Prop) : Prop :=
  wpC pr PP cfg (DD pr) (codeOf Try.f24) (retQ Try.f24.results.toList R) (argE 0 [Sl.v p_0]) w
theorem E_eq (pr : Prims) (p_0 : Sl) (w : World) (R : Ending → World → Prop) : E pr p_0 w R = (
  pr.call1 .bool PP F.impl_IsPerm #[Sl.v p_0] w fun (ρ0 : Bool) ω1 =>
  bif ρ0 then (
  pr.call1 .sl PP F.impl_stackPass #[Sl.v p_0] ω1 fun (ρ2 : Sl) ω3 =>
  pr.call1 .bool PP F.impl_isRising #[Sl.v ρ2] ω3 fun (ρ4 : Bool) ω5 =>
  R (.returned (.bool ρ4)) ω5)
  else (
  R (.returned (.bool false)) ω1)) := by kernel_rfl
theorem E_s (p_0 : Sl) (w : World) (R : Ending → World → Prop) : E std p_0 w R = (
  call1 .bool PP F.impl_IsPerm #[Sl.v p_0] w fun (ρ0 : Bool) ω1 =>
  bif ρ0 then (
  call1 .sl PP F.impl_stackPass #[Sl.v p_0] ω1 fun (ρ2 : Sl) ω3 =>
  call1 .bool PP F.impl_isRising #[Sl.v ρ2] ω3 fun (ρ4 : Bool) ω5 =>
  R (.returned (.bool ρ4)) ω5)
  else (
  R (.returned (.bool false)) ω1)) := E_eq std p_0 w R
theorem drawsOk : drawsOk PP cfg okD (codeOf Try.f24) = true := by kernel_rfl
theorem calls (p_0 : Sl) {w : World} {R : Ending → World → Prop} (h : E std p_0 w R) : Calls PP F.impl_IsStackSorted #[Sl.v p_0] w R :=
  calls_of noCount mixed drawOk Try.func24 rfl (c := cfg) (args := [Sl.v p_0]) rfl (Nat.le_of_ble_eq_true (by kernel_rfl)) drawsOk h
end impl_IsStackSorted

namespace impl_isRising
@[reducible] def cfg : Cfg := ⟨5, [], [], [], [2], [], [73, 46, 18, 22, 43, 45, 72, 88, 85, 80, 81, 70], [56, 63, 74, 86, 89, 64]⟩
def E (pr : Prims) (p_0 : Sl) (w : World) (R : Ending → World → Prop) : Prop :=
  wpC pr PP cfg (DD pr) (codeOf Try.f53) (retQ Try.f53.results.toList R) (argE 0 [Sl.v p_0]) w
theorem E_eq (pr : Prims) (p_0 : Sl) (w : World) (R : Ending → World → Prop) : E pr p_0 w R = (
  pr.call1 .bool PP F.slices_IsSorted___int_int_ #[Sl.v p_0] w fun (ρ0 : Bool) ω1 =>
  R (.returned (.bool ρ0)) ω1) := by kernel_rfl
theorem E_s (p_0 : Sl) (w : World) (R : Ending → World → Prop) : E std p_0 w R = (
  call1 .bool PP F.slices_IsSorted___int_int_ #[Sl.v p_0] w fun (ρ0 : Bool) ω1 =>
  R (.returned (.bool ρ0)) ω1) := E_eq std p_0 w R
theorem drawsOk : drawsOk PP cfg okD (codeOf Try.f53) = true := by kernel_rfl
theorem calls (p_0 : Sl) {w : World} {R : Ending → World → Prop} (h : E std p_0 w R) : Calls PP F.impl_isRising #[Sl.v p_0] w R :=
  calls_of noCount mixed drawOk Try.func53 rfl (c := cfg) (args := [Sl.v p_0]) rfl (Nat.le_of_ble_eq_true (by kernel_rfl)) drawsOk h
end impl_isRising

namespace impl_timesOf
@[reducible] def cfg : Cfg := ⟨15, [(2, [0, 1, 5])], [(1, [0, 1, 5]), (0, [5])], [], [4], [], [73, 46, 18, 22, 43, 45, 72, 88, 85, 80, 81, 70], [56, 63, 74, 86, 89, 64]⟩
def q0 (pr : Prims) (R : Ending → World → Prop) : Exit → Env → World → Prop := fun ex e w => normQ ex (fun e w => contE pr cfg (sub (codeOf Try.f58) [1, 1, 1]) (fun e w => wpC pr PP cfg (DD pr) (sub (codeOf Try.f58) [1, 1, 1]) (retQ Try.f58.results.toList R) e w) e w) (retQ Try.f58.results.toList R) e w
def q1 (pr : Prims) (R : Ending → World → Prop) : Exit → Env → World → Prop := fun ex e w => blockQ ex 0 (q0 pr R) e w
def emb2 (p_0 : Sl) (pass_1 : Value) (many_5 : Int) : Env := [(0, Sl.v p_0), (1, pass_1), (5, vI many_5)]
def x0 (many_5 : Int) : Env := [(5, vI many_5)]
def S2 (pr : Prims) (Q : Exit → Env → World → Prop) : (Env → World → Prop) → Env → World → Prop := fun k e w => wpC pr PP cfg (DD pr) (sub (codeOf Try.f58) [1, 1, 0, 0, 0]) (fun ex e w => normQ ex (fun e' w' => k (Env.restr e' (lookN cfg.loops (keyOf (sub (codeOf Try.f58) [1, 1, 0, 0, 0])))) w') Q e w) e w
def B2 (pr : Prims) (p_0 : Sl) (pass_1 : Value) (many_5 : Int) (w : World) (k : Env → World → Prop) (Q : Exit → Env → World → Prop) : Prop :=
  S2 pr Q k (emb2 p_0 pass_1 many_5) w
def L2 (pr : Prims) (p_0 : Sl) (pass_1 : Value) (many_5 : Int) (w : World) (Q : Exit → Env → World → Prop) : Prop :=
  pr.loop (S2 pr Q) (emb2 p_0 pass_1 many_5) w
def E (pr : Prims) (p_0 : Sl) (pass_1 : Value) (w : World) (R : Ending → World → Prop) : Prop :=
  wpC pr PP cfg (DD pr) (codeOf Try.f58) (retQ Try.f58.results.toList R) (argE 0 [Sl.v p_0, pass_1]) w
theorem B2_eq (pr : Prims) (p_0 : Sl) (pass_1 : Value) (many_5 : Int) (w : World) (k : Env → World → Prop) (Q : Exit → Env → World → Prop) : B2 pr p_0 pass_1 many_5 w k Q = (
  pr.call1 .bool PP F.impl_isRising #[Sl.v p_0] w fun (ρ2 : Bool) ω3 =>
  bif !ρ2 then (
  pr.callV1 .sl PP (pass_1) [Sl.v p_0] ω3 fun (ρ4 : Sl) ω5 =>
  k (emb2 ρ4 pass_1 (w64 (many_5 + 1))) ω5)
  else (
  Q (.exit 0) (x0 many_5) ω3)) := by kernel_rfl
theorem B2_s (p_0 : Sl) (pass_1 : Value) (many_5 : Int) (w : World) (k : Env → World → Prop) (Q : Exit → Env → World → Prop) : B2 std p_0 pass_1 many_5 w k Q = (
  call1 .bool PP F.impl_isRising #[Sl.v p_0] w fun (ρ2 : Bool) ω3 =>
  bif !ρ2 then (
  callV1 .sl PP (pass_1) [Sl.v p_0] ω3 fun (ρ4 : Sl) ω5 =>
  k (emb2 ρ4 pass_1 (w64 (many_5 + 1))) ω5)
  else (
  Q (.exit 0) (x0 many_5) ω3)) := B2_eq std p_0 pass_1 many_5 w k Q
theorem L2_rule (p_0 : Sl) (pass_1 : Value) (many_5 : Int) (w : World) (Q : Exit → Env → World → Prop) (I : Sl → Int → World → Prop) (μ : Sl → Int → World → Nat) (h0 : I p_0 many_5 w)
    (h : ∀ (p_0 : Sl) (many_5 : Int) (w' : World), I p_0 many_5 w' → B2 std p_0 pass_1 many_5 w' (fun e2 w2 => ∃ p_0_n many_5_n, e2 = emb2 p_0_n pass_1 many_5_n ∧ I p_0_n many_5_n w2 ∧ μ p_0_n many_5_n w2 < μ p_0 many_5 w') Q) :
    L2 std p_0 pass_1 many_5 w Q := by
  unfold L2
  refine LoopE.intro (σ := Sl × Int) (step := S2 std Q) (fun s => emb2 s.1 pass_1 s.2) (fun s w => I s.1 s.2 w) (fun s w => μ s.1 s.2 w) (p_0, many_5) rfl h0 ?_
  intro s w' hI
  have h1 := h s.1 s.2 w' hI
  unfold B2 at h1
  simp only [Prod.exists]
  exact h1
theorem A2_0_eq (pr : Prims) (many_5 : Int) (w : World) (R : Ending → World → Prop) : (q1 pr R) (.exit 0) (x0 many_5) w = (
  R (.returned (vI many_5)) w) := by kernel_rfl
theorem A2_0_s (many_5 : Int) (w : World) (R : Ending → World → Prop) : (q1 std R) (.exit 0) (x0 many_5) w = (
  R (.returned (vI many_5)) w) := A2_0_eq std many_5 w R
theorem E_eq (pr : Prims) (p_0 : Sl) (pass_1 : Value) (w : World) (R : Ending → World → Prop) : E pr p_0 pass_1 w R = (
  L2 pr p_0 pass_1 0 w (q1 pr R)) := by kernel_rfl
theorem E_s (p_0 : Sl) (pass_1 : Value) (w : World) (R : Ending → World → Prop) : E std p_0 pass_1 w R = (
  L2 std p_0 pass_1 0 w (q1 std R)) := E_eq std p_0 pass_1 w R
theorem drawsOk : drawsOk PP cfg okD (codeOf Try.f58) = true := by kernel_rfl
theorem calls (p_0 : Sl) (pass_1 : Value) {w : World} {R : Ending → World → Prop} (h : E std p_0 pass_1 w R) : Calls PP F.impl_timesOf #[Sl.v p_0, pass_1] w R :=
  calls_of noCount mixed drawOk Try.func58 rfl (c := cfg) (args := [Sl.v p_0, pass_1]) rfl (Nat.le_of_ble_eq_true (by kernel_rfl)) drawsOk h
end impl_timesOf

namespace impl_StackTimes
@[reducible] def cfg : Cfg := ⟨8, [], [], [], [2], [], [73, 46, 18, 22, 43, 45, 72, 88, 85, 80, 81, 70], [56, 63, 74, 86, 89, 64]⟩
def E (pr : Prims) (p_0 : Sl) (w : World) (R : Ending → World → Prop) : Prop :=
  wpC pr PP cfg (DD pr) (codeOf Try.f32) (retQ Try.f32.results.toList R) (argE 0 [Sl.v p_0]) w
theorem E_eq (pr : Prims) (p_0 : Sl) (w : World) (R : Ending → World → Prop) : E pr p_0 w R = (
  pr.call1 .bool PP F.impl_IsPerm #[Sl.v p_0] w fun (ρ0 : Bool) ω1 =>
  bif !ρ0 then (
  R (.returned (vI (-1))) ω1)
  else (
  pr.call1 (.int .i64) PP F.impl_timesOf #[Sl.v p_0, .func (.func F.impl_stackPass) #[] #[]] ω1 fun (ρ2 : Int) ω3 =>
  R (.returned (vI ρ2)) ω3)) := by kernel_rfl
theorem E_s (p_0 : Sl) (w : World) (R : Ending → World → Prop) : E std p_0 w R = (
  call1 .bool PP F.impl_IsPerm #[Sl.v p_0] w fun (ρ0 : Bool) ω1 =>
  bif !ρ0 then (
  R (.returned (vI (-1))) ω1)
  else (
  call1 (.int .i64) PP F.impl_timesOf #[Sl.v p_0, .func (.func F.impl_stackPass) #[] #[]] ω1 fun (ρ2 : Int) ω3 =>
  R (.returned (vI ρ2)) ω3)) := E_eq std p_0 w R
theorem drawsOk : drawsOk PP cfg okD (codeOf Try.f32) = true := by kernel_rfl
theorem calls (p_0 : Sl) {w : World} {R : Ending → World → Prop} (h : E std p_0 w R) : Calls PP F.impl_StackTimes #[Sl.v p_0] w R :=
  calls_of noCount mixed drawOk Try.func32 rfl (c := cfg) (args := [Sl.v p_0]) rfl (Nat.le_of_ble_eq_true (by kernel_rfl)) drawsOk h
end impl_StackTimes

namespace spec_l21Pass
@[reducible] def cfg : Cfg := ⟨55, [(6, [0, 3, 4, 5]), (4, [0, 3, 4, 5])], [(3, [0, 3, 4, 5]), (2, [0, 3, 4, 5]), (1, [0, 3, 4, 5]), (0, [3, 4])], [], [2], [6], [73, 46, 18, 22, 43, 45, 72, 88, 85, 80, 81, 70], [56, 63, 74, 86, 89, 64]⟩
def q4 (pr : Prims) (R : Ending → World → Prop) : Exit → Env → World → Prop := fun ex e w => normQ ex (fun e w => contE pr cfg (sub (codeOf Try.f50) [1, 1, 1, 1]) (fun e w => wpC pr PP cfg (DD pr) (sub (codeOf Try.f50) [1, 1, 1, 1]) (retQ Try.f50.results.toList R) e w) e w) (retQ Try.f50.results.toList R) e w
def q5 (pr : Prims) (R : Ending → World → Prop) : Exit → Env → World → Prop := fun ex e w => blockQ ex 0 (q4 pr R) e w
def q6 (pr : Prims) (k : Env → World → Prop) (Q : Exit → Env → World → Prop) : Exit → Env → World → Prop := fun ex e w => normQ ex (fun e w => contE pr cfg (sub (codeOf Try.f50) [1, 1, 1, 0, 1, 0, 0, 1, 1]) (fun e w => wpC pr PP cfg (DD pr) (sub (codeOf Try.f50) [1, 1, 1, 0, 1, 0, 0, 1, 1]) (fun ex e w => normQ ex (fun e' w' => k (Env.restr e' (lookN cfg.loops (keyOf (sub (codeOf Try.f50) [1, 1, 1, 0, 1, 0, 0])))) w') Q e w) e w) e w) (fun ex e w => normQ ex (fun e' w' => k (Env.restr e' (lookN cfg.loops (keyOf (sub (codeOf Try.f50) [1, 1, 1, 0, 1, 0, 0])))) w') Q e w) e w
def q7 (pr : Prims) (k : Env → World → Prop) (Q : Exit → Env → World → Prop) : Exit → Env → World → Prop := fun ex e w => blockQ ex 1 (q6 pr k Q) e w
def q8 (pr : Prims) (k : Env → World → Prop) (Q : Exit → Env → World → Prop) : Exit → Env → World → Prop := fun ex e w => normQ ex (fun e w => contE pr cfg (sub (codeOf Try.f50) [1, 1, 1, 0, 1, 0, 0, 1, 0, 0, 1]) (fun e w => wpC pr PP cfg (DD pr) (sub (codeOf Try.f50) [1, 1, 1, 0, 1, 0, 0, 1, 0, 0, 1]) (q7 pr k Q) e w) e w) (q7 pr k Q) e w
def q9 (pr : Prims) (k : Env → World → Prop) (Q : Exit → Env → World → Prop) : Exit → Env → World → Prop := fun ex e w => blockQ ex 2 (q8 pr k Q) e w
def emb4 (p_0 : Sl) (out_3 : Sl) (stack_4 : Sl) (k_5 : Int) : Env := [(0, Sl.v p_0), (3, Sl.v out_3), (4, Sl.v stack_4), (5, vI k_5)]
def emb6 (p_0 : Sl) (out_3 : Sl) (stack_4 : Sl) (k_5 : Int) : Env := [(0, Sl.v p_0), (3, Sl.v out_3), (4, Sl.v stack_4), (5, vI k_5)]
def x2 (p_0 : Sl) (out_3 : Sl) (stack_4 : Sl) (k_5 : Int) : Env := [(0, Sl.v p_0), (3, Sl.v out_3), (4, Sl.v stack_4), (5, vI k_5)]
def x0 (out_3 : Sl) (stack_4 : Sl) : Env := [(3, Sl.v out_3), (4, Sl.v stack_4)]
def S6 (pr : Prims) (Q : Exit → Env → World → Prop) : (Env → World → Prop) → Env → World → Prop := fun k e w => wpC pr PP cfg (DD pr) (sub (codeOf Try.f50) [1, 1, 1, 0, 1, 0, 0, 1, 0, 0, 0, 0, 0]) (fun ex e w => normQ ex (fun e' w' => k (Env.restr e' (lookN cfg.loops (keyOf (sub (codeOf Try.f50) [1, 1, 1, 0, 1, 0, 0, 1, 0, 0, 0, 0, 0])))) w') Q e w) e w
def S4 (pr : Prims) (Q : Exit → Env → World → Prop) : (Env → World → Prop) → Env → World → Prop := fun k e w => wpC pr PP cfg (DD pr) (sub (codeOf Try.f50) [1, 1, 1, 0, 1, 0, 0]) (fun ex e w => normQ ex (fun e' w' => k (Env.restr e' (lookN cfg.loops (keyOf (sub (codeOf Try.f50) [1, 1, 1, 0, 1, 0, 0])))) w') Q e w) e w
def B6 (pr : Prims) (p_0 : Sl) (out_3 : Sl) (stack_4 : Sl) (k_5 : Int) (w : World) (k : Env → World → Prop) (Q : Exit → Env → World → Prop) : Prop :=
  S6 pr Q k (emb6 p_0 out_3 stack_4 k_5) w
def L6 (pr : Prims) (p_0 : Sl) (out_3 : Sl) (stack_4 : Sl) (k_5 : Int) (w : World) (Q : Exit → Env → World → Prop) : Prop :=
  pr.loop (S6 pr Q) (emb6 p_0 out_3 stack_4 k_5) w
def B4 (pr : Prims) (p_0 : Sl) (out_3 : Sl) (stack_4 : Sl) (k_5 : Int) (w : World) (k : Env → World → Prop) (Q : Exit → Env → World → Prop) : Prop :=
  S4 pr Q k (emb4 p_0 out_3 stack_4 k_5) w
def L4 (pr : Prims) (p_0 : Sl) (out_3 : Sl) (stack_4 : Sl) (k_5 : Int) (w : World) (Q : Exit → Env → World → Prop) : Prop :=
  pr.loop (S4 pr Q) (emb4 p_0 out_3 stack_4 k_5) w
def E (pr : Prims) (p_0 : Sl) (w : World) (R : Ending → World → Prop) : Prop :=
  wpC pr PP cfg (DD pr) (codeOf Try.f50) (retQ Try.f50.results.toList R) (argE 0 [Sl.v p_0]) w
theorem B6_eq (pr : Prims) (p_0 : Sl) (out_3 : Sl) (stack_4 : Sl) (k_5 : Int) (w : World) (k : Env → World → Prop) (Q : Exit → Env → World → Prop) : B6 pr p_0 out_3 stack_4 k_5 w k Q = (
  bif decide ((stack_4.n : Int) > 0) then (
  pr.idxK 1 stack_4 (w64 ((stack_4.n : Int) - 1)) fun (a10 : Addr) =>
  pr.load1 (.int .i64) a10 w fun (ξ11 : Int) =>
  pr.idxK 1 p_0 k_5 fun (a12 : Addr) =>
  pr.load1 (.int .i64) a12 w fun (ξ13 : Int) =>
  pr.drewAll w fun ω14 =>
  bif decide (ξ11 < ξ13) then (
  pr.idxK 1 stack_4 (w64 ((stack_4.n : Int) - 1)) fun (a15 : Addr) =>
  pr.load1 (.int .i64) a15 ω14 fun (ξ16 : Int) =>
  pr.sem1 .sl PP (Instr.buildSlice T_Sint 1 #[(0, vI ξ16)]) ω14 fun (ρ17 : Sl) ω18 =>
  pr.sem1 .sl PP (Builtin.append_ #[T_Sint, T_Sint] T_Sint #[Sl.v out_3, Sl.v ρ17]) ω18 fun (ρ19 : Sl) ω20 =>
  pr.cutK 1 stack_4 none (some (w64 ((stack_4.n : Int) - 1))) fun (s21 : Sl) =>
  k (emb6 p_0 ρ19 s21 k_5) ω20)
  else (
  Q (.exit 2) (x2 p_0 out_3 stack_4 k_5) ω14))
  else (
  pr.drewAll w fun ω22 =>
  Q (.exit 2) (x2 p_0 out_3 stack_4 k_5) ω22)) := by kernel_rfl
theorem B6_s (p_0 : Sl) (out_3 : Sl) (stack_4 : Sl) (k_5 : Int) (w : World) (k : Env → World → Prop) (Q : Exit → Env → World → Prop) : B6 std p_0 out_3 stack_4 k_5 w k Q = (
  bif decide ((stack_4.n : Int) > 0) then (
  idxK 1 stack_4 (w64 ((stack_4.n : Int) - 1)) fun (a10 : Addr) =>
  load1 (.int .i64) a10 w fun (ξ11 : Int) =>
  idxK 1 p_0 k_5 fun (a12 : Addr) =>
  load1 (.int .i64) a12 w fun (ξ13 : Int) =>
  drewAll w fun ω14 =>
  bif decide (ξ11 < ξ13) then (
  idxK 1 stack_4 (w64 ((stack_4.n : Int) - 1)) fun (a15 : Addr) =>
  load1 (.int .i64) a15 ω14 fun (ξ16 : Int) =>
  sem1 .sl PP (Instr.buildSlice T_Sint 1 #[(0, vI ξ16)]) ω14 fun (ρ17 : Sl) ω18 =>
  sem1 .sl PP (Builtin.append_ #[T_Sint, T_Sint] T_Sint #[Sl.v out_3, Sl.v ρ17]) ω18 fun (ρ19 : Sl) ω20 =>
  cutK 1 stack_4 none (some (w64 ((stack_4.n : Int) - 1))) fun (s21 : Sl) =>
  k (emb6 p_0 ρ19 s21 k_5) ω20)
  else (
  Q (.exit 2) (x2 p_0 out_3 stack_4 k_5) ω14))
  else (
  drewAll w fun ω22 =>
  Q (.exit 2) (x2 p_0 out_3 stack_4 k_5) ω22)) := B6_eq std p_0 out_3 stack_4 k_5 w k Q
theorem L6_rule (p_0 : Sl) (out_3 : Sl) (stack_4 : Sl) (k_5 : Int) (w : World) (Q : Exit → Env → World → Prop) (I : Sl → Sl → World → Prop) (μ : Sl → Sl → World → Nat) (h0 : I out_3 stack_4 w)
    (h : ∀ (out_3 : Sl) (stack_4 : Sl) (w' : World), I out_3 stack_4 w' → B6 std p_0 out_3 stack_4 k_5 w' (fun e2 w2 => ∃ out_3_n stack_4_n, e2 = emb6 p_0 out_3_n stack_4_n k_5 ∧ I out_3_n stack_4_n w2 ∧ μ out_3_n stack_4_n w2 < μ out_3 stack_4 w') Q) :
    L6 std p_0 out_3 stack_4 k_5 w Q := by
  unfold L6
  refine LoopE.intro (σ := Sl × Sl) (step := S6 std Q) (fun s => emb6 p_0 s.1 s.2 k_5) (fun s w => I s.1 s.2 w) (fun s w => μ s.1 s.2 w) (out_3, stack_4) rfl h0 ?_
  intro s w' hI
  have h1 := h s.1 s.2 w' hI
  unfold B6 at h1
  simp only [Prod.exists]
  exact h1
theorem A6_2_eq (pr : Prims) (p_0 : Sl) (out_3 : Sl) (stack_4 : Sl) (k_5 : Int) (w : World) (k : Env → World → Prop) (Q : Exit → Env → World → Prop) : (q9 pr k Q) (.exit 2) (x2 p_0 out_3 stack_4 k_5) w = (
  pr.idxK 1 p_0 k_5 fun (a23 : Addr) =>
  pr.load1 (.int .i64) a23 w fun (ξ24 : Int) =>
  pr.sem1 .sl PP (Instr.buildSlice T_Sint 1 #[(0, vI ξ24)]) w fun (ρ25 : Sl) ω26 =>
  pr.sem1 .sl PP (Builtin.append_ #[T_Sint, T_Sint] T_Sint #[Sl.v stack_4, Sl.v ρ25]) ω26 fun (ρ27 : Sl) ω28 =>
  k (emb4 p_0 out_3 ρ27 (w64 (k_5 + 1))) ω28) := by kernel_rfl
theorem A6_2_s (p_0 : Sl) (out_3 : Sl) (stack_4 : Sl) (k_5 : Int) (w : World) (k : Env → World → Prop) (Q : Exit → Env → World → Prop) : (q9 std k Q) (.exit 2) (x2 p_0 out_3 stack_4 k_5) w = (
  idxK 1 p_0 k_5 fun (a23 : Addr) =>
  load1 (.int .i64) a23 w fun (ξ24 : Int) =>
  sem1 .sl PP (Instr.buildSlice T_Sint 1 #[(0, vI ξ24)]) w fun (ρ25 : Sl) ω26 =>
  sem1 .sl PP (Builtin.append_ #[T_Sint, T_Sint] T_Sint #[Sl.v stack_4, Sl.v ρ25]) ω26 fun (ρ27 : Sl) ω28 =>
  k (emb4 p_0 out_3 ρ27 (w64 (k_5 + 1))) ω28) := A6_2_eq std p_0 out_3 stack_4 k_5 w k Q
theorem B4_eq (pr : Prims) (p_0 : Sl) (out_3 : Sl) (stack_4 : Sl) (k_5 : Int) (w : World) (k : Env → World → Prop) (Q : Exit → Env → World → Prop) : B4 pr p_0 out_3 stack_4 k_5 w k Q = (
  bif decide (k_5 < (p_0.n : Int)) then (
  L6 pr p_0 out_3 stack_4 k_5 w (q9 pr k Q))
  else (
  Q (.exit 0) (x0 out_3 stack_4) w)) := by kernel_rfl
theorem B4_s (p_0 : Sl) (out_3 : Sl) (stack_4 : Sl) (k_5 : Int) (w : World) (k : Env → World → Prop) (Q : Exit → Env → World → Prop) : B4 std p_0 out_3 stack_4 k_5 w k Q = (
  bif decide (k_5 < (p_0.n : Int)) then (
  L6 std p_0 out_3 stack_4 k_5 w (q9 std k Q))
  else (
  Q (.exit 0) (x0 out_3 stack_4) w)) := B4_eq std p_0 out_3 stack_4 k_5 w k Q
theorem L4_rule (p_0 : Sl) (out_3 : Sl) (stack_4 : Sl) (k_5 : Int) (w : World) (Q : Exit → Env → World → Prop) (I : Sl → Sl → Int → World → Prop) (μ : Sl → Sl → Int → World → Nat) (h0 : I out_3 stack_4 k_5 w)
    (h : ∀ (out_3 : Sl) (stack_4 : Sl) (k_5 : Int) (w' : World), I out_3 stack_4 k_5 w' → B4 std p_0 out_3 stack_4 k_5 w' (fun e2 w2 => ∃ out_3_n stack_4_n k_5_n, e2 = emb4 p_0 out_3_n stack_4_n k_5_n ∧ I out_3_n stack_4_n k_5_n w2 ∧ μ out_3_n stack_4_n k_5_n w2 < μ out_3 stack_4 k_5 w') Q) :
    L4 std p_0 out_3 stack_4 k_5 w Q := by
  unfold L4
  refine LoopE.intro (σ := Sl × Sl × Int) (step := S4 std Q) (fun s => emb4 p_0 s.1 s.2.1 s.2.2) (fun s w => I s.1 s.2.1 s.2.2 w) (fun s w => μ s.1 s.2.1 s.2.2 w) (out_3, stack_4, k_5) rfl h0 ?_
  intro s w' hI
  have h1 := h s.1 s.2.1 s.2.2 w' hI
  unfold B4 at h1
  simp only [Prod.exists]
  exact h1
theorem A4_0_eq (pr : Prims) (out_3 : Sl) (stack_4 : Sl) (w : World) (R : Ending → World → Prop) : (q5 pr R) (.exit 0) (x0 out_3 stack_4) w = (
  pr.call1 .sl PP F.spec_l3Reverse #[Sl.v stack_4] w fun (ρ29 : Sl) ω30 =>
  pr.sem1 .sl PP (Builtin.append_ #[T_Sint, T_Sint] T_Sint #[Sl.v out_3, Sl.v ρ29]) ω30 fun (ρ31 : Sl) ω32 =>
  R (.returned (Sl.v ρ31)) ω32) := by kernel_rfl
theorem A4_0_s (out_3 : Sl) (stack_4 : Sl) (w : World) (R : Ending → World → Prop) : (q5 std R) (.exit 0) (x0 out_3 stack_4) w = (
  call1 .sl PP F.spec_l3Reverse #[Sl.v stack_4] w fun (ρ29 : Sl) ω30 =>
  sem1 .sl PP (Builtin.append_ #[T_Sint, T_Sint] T_Sint #[Sl.v out_3, Sl.v ρ29]) ω30 fun (ρ31 : Sl) ω32 =>
  R (.returned (Sl.v ρ31)) ω32) := A4_0_eq std out_3 stack_4 w R
theorem E_eq (pr : Prims) (p_0 : Sl) (w : World) (R : Ending → World → Prop) : E pr p_0 w R = (
  pr.sem1 .sl PP (Instr.buildSlice T_Sint 0 #[]) w fun (ρ0 : Sl) ω1 =>
  pr.sem1 .sl PP (Instr.buildSlice T_Sint 0 #[]) ω1 fun (ρ2 : Sl) ω3 =>
  L4 pr p_0 ρ0 ρ2 0 ω3 (q5 pr R)) := by kernel_rfl
theorem E_s (p_0 : Sl) (w : World) (R : Ending → World → Prop) : E std p_0 w R = (
  sem1 .sl PP (Instr.buildSlice T_Sint 0 #[]) w fun (ρ0 : Sl) ω1 =>
  sem1 .sl PP (Instr.buildSlice T_Sint 0 #[]) ω1 fun (ρ2 : Sl) ω3 =>
  L4 std p_0 ρ0 ρ2 0 ω3 (q5 std R)) := E_eq std p_0 w R
theorem drawsOk : drawsOk PP cfg okD (codeOf Try.f50) = true := by kernel_rfl
theorem calls (p_0 : Sl) {w : World} {R : Ending → World → Prop} (h : E std p_0 w R) : Calls PP F.spec_l21Pass #[Sl.v p_0] w R :=
  calls_of noCount mixed drawOk Try.func50 rfl (c := cfg) (args := [Sl.v p_0]) rfl (Nat.le_of_ble_eq_true (by kernel_rfl)) drawsOk h
end spec_l21Pass

namespace spec_StackPass
@[reducible] def cfg : Cfg := ⟨9, [], [], [], [2], [], [73, 46, 18, 22, 43, 45, 72, 88, 85, 80, 81, 70], [56, 63, 74, 86, 89, 64]⟩
def E (pr : Prims) (p_0 : Sl) (w : World) (R : Ending → World → Prop) : Prop :=
  wpC pr PP cfg (DD pr) (codeOf Try.f19) (retQ Try.f19.results.toList R) (argE 0 [Sl.v p_0]) w
theorem E_eq (pr : Prims) (p_0 : Sl) (w : World) (R : Ending → World → Prop) : E pr p_0 w R = (
  pr.call1 .bool PP F.spec_IsPerm #[Sl.v p_0] w fun (ρ0 : Bool) ω1 =>
  bif !ρ0 then (
  pr.sem1 .sl PP (Instr.buildSlice T_Sint 0 #[]) ω1 fun (ρ2 : Sl) ω3 =>
  R (.returned (Sl.v ρ2)) ω3)
  else (
  pr.call1 .sl PP F.spec_l21Pass #[Sl.v p_0] ω1 fun (ρ4 : Sl) ω5 =>
  R (.returned (Sl.v ρ4)) ω5)) := by kernel_rfl
theorem E_s (p_0 : Sl) (w : World) (R : Ending → World → Prop) : E std p_0 w R = (
  call1 .bool PP F.spec_IsPerm #[Sl.v p_0] w fun (ρ0 : Bool) ω1 =>
  bif !ρ0 then (
  sem1 .sl PP (Instr.buildSlice T_Sint 0 #[]) ω1 fun (ρ2 : Sl) ω3 =>
  R (.returned (Sl.v ρ2)) ω3)
  else (
  call1 .sl PP F.spec_l21Pass #[Sl.v p_0] ω1 fun (ρ4 : Sl) ω5 =>
  R (.returned (Sl.v ρ4)) ω5)) := E_eq std p_0 w R
theorem drawsOk : drawsOk PP cfg okD (codeOf Try.f19) = true := by kernel_rfl
theorem calls (p_0 : Sl) {w : World} {R : Ending → World → Prop} (h : E std p_0 w R) : Calls PP F.spec_StackPass #[Sl.v p_0] w R :=
  calls_of noCount mixed drawOk Try.func19 rfl (c := cfg) (args := [Sl.v p_0]) rfl (Nat.le_of_ble_eq_true (by kernel_rfl)) drawsOk h
end spec_StackPass

namespace spec_IsStackSorted
@[reducible] def cfg : Cfg := ⟨10, [], [], [], [2], [], [73, 46, 18, 22, 43, 45, 72, 88, 85, 80, 81, 70], [56, 63, 74, 86, 89, 64]⟩
def E (pr : Prims) (p_0 : Sl) (w : World) (R : Ending → World → Prop) : Prop :=
  wpC pr PP cfg (DD pr) (codeOf Try.f23) (retQ Try.f23.results.toList R) (argE 0 [Sl.v p_0]) w
theorem E_eq (pr : Prims) (p_0 : Sl) (w : World) (R : Ending → World → Prop) : E pr p_0 w R = (
  pr.call1 .bool PP F.spec_IsPerm #[Sl.v p_0] w fun (ρ0 : Bool) ω1 =>
  bif ρ0 then (
  pr.call1 .sl PP F.spec_l21Pass #[Sl.v p_0] ω1 fun (ρ2 : Sl) ω3 =>
  pr.call1 .bool PP F.spec_l13Straight #[Sl.v ρ2] ω3 fun (ρ4 : Bool) ω5 =>
  R (.returned (.bool ρ4)) ω5)
  else (
  R (.returned (.bool false)) ω1)) := by kernel_rfl
theorem E_s (p_0 : Sl) (w : World) (R : Ending → World → Prop) : E std p_0 w R = (
  call1 .bool PP F.spec_IsPerm #[Sl.v p_0] w fun (ρ0 : Bool) ω1 =>
  bif ρ0 then (
  call1 .sl PP F.spec_l21Pass #[Sl.v p_0] ω1 fun (ρ2 : Sl) ω3 =>
  call1 .bool PP F.spec_l13Straight #[Sl.v ρ2] ω3 fun (ρ4 : Bool) ω5 =>
  R (.returned (.bool ρ4)) ω5)
  else (
  R (.returned (.bool false)) ω1)) := E_eq std p_0 w R
theorem drawsOk : drawsOk PP cfg okD (codeOf Try.f23) = true := by kernel_rfl
theorem calls (p_0 : Sl) {w : World} {R : Ending → World → Prop} (h : E std p_0 w R) : Calls PP F.spec_IsStackSorted #[Sl.v p_0] w R :=
  calls_of noCount mixed drawOk Try.func23 rfl (c := cfg) (args := [Sl.v p_0]) rfl (Nat.le_of_ble_eq_true (by kernel_rfl)) drawsOk h
end spec_IsStackSorted

namespace spec_StackTimes
@[reducible] def cfg : Cfg := ⟨15, [(4, [0, 3])], [(1, [0, 3]), (0, [3])], [], [2], [], [73, 46, 18, 22, 43, 45, 72, 88, 85, 80, 81, 70], [56, 63, 74, 86, 89, 64]⟩
def q2 (pr : Prims) (R : Ending → World → Prop) : Exit → Env → World → Prop := fun ex e w => normQ ex (fun e w => contE pr cfg (sub (codeOf Try.f31) [1, 1, 1, 1]) (fun e w => wpC pr PP cfg (DD pr) (sub (codeOf Try.f31) [1, 1, 1, 1]) (retQ Try.f31.results.toList R) e w) e w) (retQ Try.f31.results.toList R) e w
def q3 (pr : Prims) (R : Ending → World → Prop) : Exit → Env → World → Prop := fun ex e w => blockQ ex 0 (q2 pr R) e w
def emb4 (p_0 : Sl) (n_3 : Int) : Env := [(0, Sl.v p_0), (3, vI n_3)]
def x0 (n_3 : Int) : Env := [(3, vI n_3)]
def S4 (pr : Prims) (Q : Exit → Env → World → Prop) : (Env → World → Prop) → Env → World → Prop := fun k e w => wpC pr PP cfg (DD pr) (sub (codeOf Try.f31) [1, 1, 1, 0, 0, 0]) (fun ex e w => normQ ex (fun e' w' => k (Env.restr e' (lookN cfg.loops (keyOf (sub (codeOf Try.f31) [1, 1, 1, 0, 0, 0])))) w') Q e w) e w
def B4 (pr : Prims) (p_0 : Sl) (n_3 : Int) (w : World) (k : Env → World → Prop) (Q : Exit → Env → World → Prop) : Prop :=
  S4 pr Q k (emb4 p_0 n_3) w
def L4 (pr : Prims) (p_0 : Sl) (n_3 : Int) (w : World) (Q : Exit → Env → World → Prop) : Prop :=
  pr.loop (S4 pr Q) (emb4 p_0 n_3) w
def E (pr : Prims) (p_0 : Sl) (w : World) (R : Ending → World → Prop) : Prop :=
  wpC pr PP cfg (DD pr) (codeOf Try.f31) (retQ Try.f31.results.toList R) (argE 0 [Sl.v p_0]) w
theorem B4_eq (pr : Prims) (p_0 : Sl) (n_3 : Int) (w : World) (k : Env → World → Prop) (Q : Exit → Env → World → Prop) : B4 pr p_0 n_3 w k Q = (
  pr.call1 .bool PP F.spec_l13Straight #[Sl.v p_0] w fun (ρ4 : Bool) ω5 =>
  bif !ρ4 then (
  pr.call1 .sl PP F.spec_l21Pass #[Sl.v p_0] ω5 fun (ρ6 : Sl) ω7 =>
  k (emb4 ρ6 (w64 (n_3 + 1))) ω7)
  else (
  Q (.exit 0) (x0 n_3) ω5)) := by kernel_rfl
theorem B4_s (p_0 : Sl) (n_3 : Int) (w : World) (k : Env → World → Prop) (Q : Exit → Env → World → Prop) : B4 std p_0 n_3 w k Q = (
  call1 .bool PP F.spec_l13Straight #[Sl.v p_0] w fun (ρ4 : Bool) ω5 =>
  bif !ρ4 then (
  call1 .sl PP F.spec_l21Pass #[Sl.v p_0] ω5 fun (ρ6 : Sl) ω7 =>
  k (emb4 ρ6 (w64 (n_3 + 1))) ω7)
  else (
  Q (.exit 0) (x0 n_3) ω5)) := B4_eq std p_0 n_3 w k Q
theorem L4_rule (p_0 : Sl) (n_3 : Int) (w : World) (Q : Exit → Env → World → Prop) (I : Sl → Int → World → Prop) (μ : Sl → Int → World → Nat) (h0 : I p_0 n_3 w)
    (h : ∀ (p_0 : Sl) (n_3 : Int) (w' : World), I p_0 n_3 w' → B4 std p_0 n_3 w' (fun e2 w2 => ∃ p_0_n n_3_n, e2 = emb4 p_0_n n_3_n ∧ I p_0_n n_3_n w2 ∧ μ p_0_n n_3_n w2 < μ p_0 n_3 w') Q) :
    L4 std p_0 n_3 w Q := by
  unfold L4
  refine LoopE.intro (σ := Sl × Int) (step := S4 std Q) (fun s => emb4 s.1 s.2) (fun s w => I s.1 s.2 w) (fun s w => μ s.1 s.2 w) (p_0, n_3) rfl h0 ?_
  intro s w' hI
  have h1 := h s.1 s.2 w' hI
  unfold B4 at h1
  simp only [Prod.exists]
  exact h1
theorem A4_0_eq (pr : Prims) (n_3 : Int) (w : World) (R : Ending → World → Prop) : (q3 pr R) (.exit 0) (x0 n_3) w = (
  R (.returned (vI n_3)) w) := by kernel_rfl
theorem A4_0_s (n_3 : Int) (w : World) (R : Ending → World → Prop) : (q3 std R) (.exit 0) (x0 n_3) w = (
  R (.returned (vI n_3)) w) := A4_0_eq std n_3 w R
theorem E_eq (pr : Prims) (p_0 : Sl) (w : World) (R : Ending → World → Prop) : E pr p_0 w R = (
  pr.call1 .bool PP F.spec_IsPerm #[Sl.v p_0] w fun (ρ0 : Bool) ω1 =>
  bif !ρ0 then (
  R (.returned (vI (-1))) ω1)
  else (
  L4 pr p_0 0 ω1 (q3 pr R))) := by kernel_rfl
theorem E_s (p_0 : Sl) (w : World) (R : Ending → World → Prop) : E std p_0 w R = (
  call1 .bool PP F.spec_IsPerm #[Sl.v p_0] w fun (ρ0 : Bool) ω1 =>
  bif !ρ0 then (
  R (.returned (vI (-1))) ω1)
  else (
  L4 std p_0 0 ω1 (q3 std R))) := E_eq std p_0 w R
theorem drawsOk : drawsOk PP cfg okD (codeOf Try.f31) = true := by kernel_rfl
theorem calls (p_0 : Sl) {w : World} {R : Ending → World → Prop} (h : E std p_0 w R) : Calls PP F.spec_StackTimes #[Sl.v p_0] w R :=
  calls_of noCount mixed drawOk Try.func31 rfl (c := cfg) (args := [Sl.v p_0]) rfl (Nat.le_of_ble_eq_true (by kernel_rfl)) drawsOk h
end spec_StackTimes

namespace spec_l13Straight
@[reducible] def cfg : Cfg := ⟨8, [], [], [], [2], [], [73, 46, 18, 22, 43, 45, 72, 88, 85, 80, 81, 70], [56, 63, 74, 86, 89, 64]⟩
def E (pr : Prims) (p_0 : Sl) (w : World) (R : Ending → World → Prop) : Prop :=
  wpC pr PP cfg (DD pr) (codeOf Try.f52) (retQ Try.f52.results.toList R) (argE 0 [Sl.v p_0]) w
theorem E_eq (pr : Prims) (p_0 : Sl) (w : World) (R : Ending → World → Prop) : E pr p_0 w R = (
  pr.call1 .sl PP F.spec_IdentityPerm #[vI (p_0.n : Int)] w fun (ρ0 : Sl) ω1 =>
  pr.call1 .bool PP F.spec_l2Same #[Sl.v p_0, Sl.v ρ0] ω1 fun (ρ2 : Bool) ω3 =>
  R (.returned (.bool ρ2)) ω3) := by kernel_rfl
theorem E_s (p_0 : Sl) (w : World) (R : Ending → World → Prop) : E std p_0 w R = (
  call1 .sl PP F.spec_IdentityPerm #[vI (p_0.n : Int)] w fun (ρ0 : Sl) ω1 =>
  call1 .bool PP F.spec_l2Same #[Sl.v p_0, Sl.v ρ0] ω1 fun (ρ2 : Bool) ω3 =>
  R (.returned (.bool ρ2)) ω3) := E_eq std p_0 w R
theorem drawsOk : drawsOk PP cfg okD (codeOf Try.f52) = true := by kernel_rfl
theorem calls (p_0 : Sl) {w : World} {R : Ending → World → Prop} (h : E std p_0 w R) : Calls PP F.spec_l13Straight #[Sl.v p_0] w R :=
  calls_of noCount mixed drawOk Try.func52 rfl (c := cfg) (args := [Sl.v p_0]) rfl (Nat.le_of_ble_eq_true (by kernel_rfl)) drawsOk h
end spec_l13Straight

namespace laws_FnExactStackPass
@[reducible] def cfg : Cfg := ⟨66, [], [], [], [2], [], [73, 46, 18, 22, 43, 45, 72, 88, 85, 80, 81, 70], [56, 63, 74, 86, 89, 64]⟩
def E (pr : Prims) (aP_0 : Sl) (w : World) (R : Ending → World → Prop) : Prop :=
  wpC pr PP cfg (DD pr) (codeOf Try.f4) (retQ Try.f4.results.toList R) (argE 0 [Sl.v aP_0]) w
theorem E_eq (pr : Prims) (aP_0 : Sl) (w : World) (R : Ending → World → Prop) : E pr aP_0 w R = (
  bif decide ((aP_0.n : Int) > 1048576) then (
  R (.returned (.bool true)) w)
  else (
  pr.call1 .sl PP F.laws_toIntS #[Sl.v aP_0] w fun (ρ0 : Sl) ω1 =>
  pr.call1 .sl PP F.spec_StackPass #[Sl.v ρ0] ω1 fun (ρ2 : Sl) ω3 =>
  pr.call1 .sl PP F.laws_toIntS #[Sl.v aP_0] ω3 fun (ρ4 : Sl) ω5 =>
  pr.call1 .sl PP F.impl_StackPass #[Sl.v ρ4] ω5 fun (ρ6 : Sl) ω7 =>
  pr.call1 .bool PP F.laws_eqIntS #[Sl.v ρ6, Sl.v ρ2] ω7 fun (ρ8 : Bool) ω9 =>
  bif !ρ8 then (
  R (.returned (.bool false)) ω9)
  else (
  pr.call1 .sl PP F.laws_toIntS #[Sl.v aP_0] ω9 fun (ρ10 : Sl) ω11 =>
  pr.call1 .bool PP F.laws_eqIntS #[Sl.v ρ4, Sl.v ρ10] ω11 fun (ρ12 : Bool) ω13 =>
  bif !ρ12 then (
  R (.returned (.bool false)) ω13)
  else (
  pr.call1 (.int .i64) PP F.laws_markIntS #[Sl.v ρ4, vI 1] ω13 fun (ρ14 : Int) ω15 =>
  bif decide (ρ14 < 0) then (
  R (.returned (.bool false)) ω15)
  else (
  pr.call1 .bool PP F.laws_eqIntS #[Sl.v ρ6, Sl.v ρ2] ω15 fun (ρ16 : Bool) ω17 =>
  bif !ρ16 then (
  R (.returned (.bool false)) ω17)
  else (
  pr.call1 (.int .i64) PP F.laws_markIntS #[Sl.v ρ6, vI 1] ω17 fun (ρ18 : Int) ω19 =>
  pr.call1 (.int .i64) PP F.laws_heldIntS #[Sl.v ρ6, vI 1] ω19 fun (ρ20 : Int) ω21 =>
  bif decide (ρ20 < 0) then (
  R (.returned (.bool false)) ω21)
  else (
  bif ρ20 != ρ18 then (
  R (.returned (.bool false)) ω21)
  else (
  pr.call1 .sl PP F.laws_toIntS #[Sl.v aP_0] ω21 fun (ρ22 : Sl) ω23 =>
  pr.call1 .sl PP F.impl_StackPass #[Sl.v ρ22] ω23 fun (ρ24 : Sl) ω25 =>
  pr.call1 .bool PP F.laws_eqIntS #[Sl.v ρ24, Sl.v ρ2] ω25 fun (ρ26 : Bool) ω27 =>
  bif !ρ26 then (
  R (.returned (.bool false)) ω27)
  else (
  pr.call1 (.int .i64) PP F.laws_heldIntS #[Sl.v ρ6, vI 1] ω27 fun (ρ28 : Int) ω29 =>
  bif decide (ρ28 < 0) then (
  R (.returned (.bool false)) ω29)
  else (
  bif ρ28 != ρ18 then (
  R (.returned (.bool false)) ω29)
  else (
  R (.returned (.bool true)) ω29))))))))))) := by kernel_rfl
theorem E_s (aP_0 : Sl) (w : World) (R : Ending → World → Prop) : E std aP_0 w R = (
  bif decide ((aP_0.n : Int) > 1048576) then (
  R (.returned (.bool true)) w)
  else (
  call1 .sl PP F.laws_toIntS #[Sl.v aP_0] w fun (ρ0 : Sl) ω1 =>
  call1 .sl PP F.spec_StackPass #[Sl.v ρ0] ω1 fun (ρ2 : Sl) ω3 =>
  call1 .sl PP F.laws_toIntS #[Sl.v aP_0] ω3 fun (ρ4 : Sl) ω5 =>
  call1 .sl PP F.impl_StackPass #[Sl.v ρ4] ω5 fun (ρ6 : Sl) ω7 =>
  call1 .bool PP F.laws_eqIntS #[Sl.v ρ6, Sl.v ρ2] ω7 fun (ρ8 : Bool) ω9 =>
  bif !ρ8 then (
  R (.returned (.bool false)) ω9)
  else (
  call1 .sl PP F.laws_toIntS #[Sl.v aP_0] ω9 fun (ρ10 : Sl) ω11 =>
  call1 .bool PP F.laws_eqIntS #[Sl.v ρ4, Sl.v ρ10] ω11 fun (ρ12 : Bool) ω13 =>
  bif !ρ12 then (
  R (.returned (.bool false)) ω13)
  else (
  call1 (.int .i64) PP F.laws_markIntS #[Sl.v ρ4, vI 1] ω13 fun (ρ14 : Int) ω15 =>
  bif decide (ρ14 < 0) then (
  R (.returned (.bool false)) ω15)
  else (
  call1 .bool PP F.laws_eqIntS #[Sl.v ρ6, Sl.v ρ2] ω15 fun (ρ16 : Bool) ω17 =>
  bif !ρ16 then (
  R (.returned (.bool false)) ω17)
  else (
  call1 (.int .i64) PP F.laws_markIntS #[Sl.v ρ6, vI 1] ω17 fun (ρ18 : Int) ω19 =>
  call1 (.int .i64) PP F.laws_heldIntS #[Sl.v ρ6, vI 1] ω19 fun (ρ20 : Int) ω21 =>
  bif decide (ρ20 < 0) then (
  R (.returned (.bool false)) ω21)
  else (
  bif ρ20 != ρ18 then (
  R (.returned (.bool false)) ω21)
  else (
  call1 .sl PP F.laws_toIntS #[Sl.v aP_0] ω21 fun (ρ22 : Sl) ω23 =>
  call1 .sl PP F.impl_StackPass #[Sl.v ρ22] ω23 fun (ρ24 : Sl) ω25 =>
  call1 .bool PP F.laws_eqIntS #[Sl.v ρ24, Sl.v ρ2] ω25 fun (ρ26 : Bool) ω27 =>
  bif !ρ26 then (
  R (.returned (.bool false)) ω27)
  else (
  call1 (.int .i64) PP F.laws_heldIntS #[Sl.v ρ6, vI 1] ω27 fun (ρ28 : Int) ω29 =>
  bif decide (ρ28 < 0) then (
  R (.returned (.bool false)) ω29)
  else (
  bif ρ28 != ρ18 then (
  R (.returned (.bool false)) ω29)
  else (
  R (.returned (.bool true)) ω29))))))))))) := E_eq std aP_0 w R
theorem drawsOk : drawsOk PP cfg okD (codeOf Try.f4) = true := by kernel_rfl
theorem calls (aP_0 : Sl) {w : World} {R : Ending → World → Prop} (h : E std aP_0 w R) : Calls PP F.laws_FnExactStackPass #[Sl.v aP_0] w R :=
  calls_of noCount mixed drawOk Try.func4 rfl (c := cfg) (args := [Sl.v aP_0]) rfl (Nat.le_of_ble_eq_true (by kernel_rfl)) drawsOk h
end laws_FnExactStackPass

namespace laws_FnExactIsStackSorted
@[reducible] def cfg : Cfg := ⟨24, [], [], [], [2], [], [73, 46, 18, 22, 43, 45, 72, 88, 85, 80, 81, 70], [56, 63, 74, 86, 89, 64]⟩
def E (pr : Prims) (aP_0 : Sl) (w : World) (R : Ending → World → Prop) : Prop :=
  wpC pr PP cfg (DD pr) (codeOf Try.f5) (retQ Try.f5.results.toList R) (argE 0 [Sl.v aP_0]) w
theorem E_eq (pr : Prims) (aP_0 : Sl) (w : World) (R : Ending → World → Prop) : E pr aP_0 w R = (
  bif decide ((aP_0.n : Int) > 1048576) then (
  R (.returned (.bool true)) w)
  else (
  pr.call1 .sl PP F.laws_toIntS #[Sl.v aP_0] w fun (ρ0 : Sl) ω1 =>
  pr.call1 .bool PP F.spec_IsStackSorted #[Sl.v ρ0] ω1 fun (ρ2 : Bool) ω3 =>
  pr.call1 .sl PP F.laws_toIntS #[Sl.v aP_0] ω3 fun (ρ4 : Sl) ω5 =>
  pr.call1 .bool PP F.impl_IsStackSorted #[Sl.v ρ4] ω5 fun (ρ6 : Bool) ω7 =>
  bif !(ρ6 == ρ2) then (
  R (.returned (.bool false)) ω7)
  else (
  pr.call1 .sl PP F.laws_toIntS #[Sl.v aP_0] ω7 fun (ρ8 : Sl) ω9 =>
  pr.call1 .bool PP F.laws_eqIntS #[Sl.v ρ4, Sl.v ρ8] ω9 fun (ρ10 : Bool) ω11 =>
  bif !ρ10 then (
  R (.returned (.bool false)) ω11)
  else (
  R (.returned (.bool true)) ω11)))) := by kernel_rfl
theorem E_s (aP_0 : Sl) (w : World) (R : Ending → World → Prop) : E std aP_0 w R = (
  bif decide ((aP_0.n : Int) > 1048576) then (
  R (.returned (.bool true)) w)
  else (
  call1 .sl PP F.laws_toIntS #[Sl.v aP_0] w fun (ρ0 : Sl) ω1 =>
  call1 .bool PP F.spec_IsStackSorted #[Sl.v ρ0] ω1 fun (ρ2 : Bool) ω3 =>
  call1 .sl PP F.laws_toIntS #[Sl.v aP_0] ω3 fun (ρ4 : Sl) ω5 =>
  call1 .bool PP F.impl_IsStackSorted #[Sl.v ρ4] ω5 fun (ρ6 : Bool) ω7 =>
  bif !(ρ6 == ρ2) then (
  R (.returned (.bool false)) ω7)
  else (
  call1 .sl PP F.laws_toIntS #[Sl.v aP_0] ω7 fun (ρ8 : Sl) ω9 =>
  call1 .bool PP F.laws_eqIntS #[Sl.v ρ4, Sl.v ρ8] ω9 fun (ρ10 : Bool) ω11 =>
  bif !ρ10 then (
  R (.returned (.bool false)) ω11)
  else (
  R (.returned (.bool true)) ω11)))) := E_eq std aP_0 w R
theorem drawsOk : drawsOk PP cfg okD (codeOf Try.f5) = true := by kernel_rfl
theorem calls (aP_0 : Sl) {w : World} {R : Ending → World → Prop} (h : E std aP_0 w R) : Calls PP F.laws_FnExactIsStackSorted #[Sl.v aP_0] w R :=
  calls_of noCount mixed drawOk Try.func5 rfl (c := cfg) (args := [Sl.v aP_0]) rfl (Nat.le_of_ble_eq_true (by kernel_rfl)) drawsOk h
end laws_FnExactIsStackSorted

namespace laws_FnExactStackTimes
@[reducible] def cfg : Cfg := ⟨24, [], [], [], [2], [], [73, 46, 18, 22, 43, 45, 72, 88, 85, 80, 81, 70], [56, 63, 74, 86, 89, 64]⟩
def E (pr : Prims) (aP_0 : Sl) (w : World) (R : Ending → World → Prop) : Prop :=
  wpC pr PP cfg (DD pr) (codeOf Try.f9) (retQ Try.f9.results.toList R) (argE 0 [Sl.v aP_0]) w
theorem E_eq (pr : Prims) (aP_0 : Sl) (w : World) (R : Ending → World → Prop) : E pr aP_0 w R = (
  bif decide ((aP_0.n : Int) > 1048576) then (
  R (.returned (.bool true)) w)
  else (
  pr.call1 .sl PP F.laws_toIntS #[Sl.v aP_0] w fun (ρ0 : Sl) ω1 =>
  pr.call1 (.int .i64) PP F.spec_StackTimes #[Sl.v ρ0] ω1 fun (ρ2 : Int) ω3 =>
  pr.call1 .sl PP F.laws_toIntS #[Sl.v aP_0] ω3 fun (ρ4 : Sl) ω5 =>
  pr.call1 (.int .i64) PP F.impl_StackTimes #[Sl.v ρ4] ω5 fun (ρ6 : Int) ω7 =>
  bif ρ6 != ρ2 then (
  R (.returned (.bool false)) ω7)
  else (
  pr.call1 .sl PP F.laws_toIntS #[Sl.v aP_0] ω7 fun (ρ8 : Sl) ω9 =>
  pr.call1 .bool PP F.laws_eqIntS #[Sl.v ρ4, Sl.v ρ8] ω9 fun (ρ10 : Bool) ω11 =>
  bif !ρ10 then (
  R (.returned (.bool false)) ω11)
  else (
  R (.returned (.bool true)) ω11)))) := by kernel_rfl
theorem E_s (aP_0 : Sl) (w : World) (R : Ending → World → Prop) : E std aP_0 w R = (
  bif decide ((aP_0.n : Int) > 1048576) then (
  R (.returned (.bool true)) w)
  else (
  call1 .sl PP F.laws_toIntS #[Sl.v aP_0] w fun (ρ0 : Sl) ω1 =>
  call1 (.int .i64) PP F.spec_StackTimes #[Sl.v ρ0] ω1 fun (ρ2 : Int) ω3 =>
  call1 .sl PP F.laws_toIntS #[Sl.v aP_0] ω3 fun (ρ4 : Sl) ω5 =>
  call1 (.int .i64) PP F.impl_StackTimes #[Sl.v ρ4] ω5 fun (ρ6 : Int) ω7 =>
  bif ρ6 != ρ2 then (
  R (.returned (.bool false)) ω7)
  else (
  call1 .sl PP F.laws_toIntS #[Sl.v aP_0] ω7 fun (ρ8 : Sl) ω9 =>
  call1 .bool PP F.laws_eqIntS #[Sl.v ρ4, Sl.v ρ8] ω9 fun (ρ10 : Bool) ω11 =>
  bif !ρ10 then (
  R (.returned (.bool false)) ω11)
  else (
  R (.returned (.bool true)) ω11)))) := E_eq std aP_0 w R
theorem drawsOk : drawsOk PP cfg okD (codeOf Try.f9) = true := by kernel_rfl
theorem calls (aP_0 : Sl) {w : World} {R : Ending → World → Prop} (h : E std aP_0 w R) : Calls PP F.laws_FnExactStackTimes #[Sl.v aP_0] w R :=
  calls_of noCount mixed drawOk Try.func9 rfl (c := cfg) (args := [Sl.v aP_0]) rfl (Nat.le_of_ble_eq_true (by kernel_rfl)) drawsOk h
end laws_FnExactStackTimes

namespace slices_Reverse___int_int_
@[reducible] def cfg : Cfg := ⟨28, [(1, [0, 2, 3])], [(1, [0, 2, 3]), (0, [])], [], [], [], [73, 46, 18, 22, 43, 45, 72, 88, 85, 80, 81, 70], [56, 63, 74, 86, 89, 64]⟩
def q0 (pr : Prims) (R : Ending → World → Prop) : Exit → Env → World → Prop := fun ex e w => blockQ ex 0 (retQ Try.f76.results.toList R) e w
def emb1 (s_0 : Sl) (i_2 : Int) (j_3 : Int) : Env := [(0, Sl.v s_0), (2, vI i_2), (3, vI j_3)]
def x0 : Env := []
def S1 (pr : Prims) (Q : Exit → Env → World → Prop) : (Env → World → Prop) → Env → World → Prop := fun k e w => wpC pr PP cfg (DD pr) (sub (codeOf Try.f76) [1, 0, 0]) (fun ex e w => normQ ex (fun e' w' => k (Env.restr e' (lookN cfg.loops (keyOf (sub (codeOf Try.f76) [1, 0, 0])))) w') Q e w) e w
def B1 (pr : Prims) (s_0 : Sl) (i_2 : Int) (j_3 : Int) (w : World) (k : Env → World → Prop) (Q : Exit → Env → World → Prop) : Prop :=
  S1 pr Q k (emb1 s_0 i_2 j_3) w
def L1 (pr : Prims) (s_0 : Sl) (i_2 : Int) (j_3 : Int) (w : World) (Q : Exit → Env → World → Prop) : Prop :=
  pr.loop (S1 pr Q) (emb1 s_0 i_2 j_3) w
def E (pr : Prims) (s_0 : Sl) (w : World) (R : Ending → World → Prop) : Prop :=
  wpC pr PP cfg (DD pr) (codeOf Try.f76) (retQ Try.f76.results.toList R) (argE 0 [Sl.v s_0]) w
theorem B1_eq (pr : Prims) (s_0 : Sl) (i_2 : Int) (j_3 : Int) (w : World) (k : Env → World → Prop) (Q : Exit → Env → World → Prop) : B1 pr s_0 i_2 j_3 w k Q = (
  bif decide (i_2 < j_3) then (
  pr.drewAll w fun ω1 =>
  pr.idxK 1 s_0 j_3 fun (a2 : Addr) =>
  pr.idxK 1 s_0 i_2 fun (a3 : Addr) =>
  (pr.load1 (.int .i64) a2 ω1 fun (ξ4 : Int) =>
  pr.load1 (.int .i64) a3 ω1 fun (ξ5 : Int) =>
  pr.idxK 1 s_0 i_2 fun (a6 : Addr) =>
  pr.storeC a6 (vI ξ4) ω1 fun ω7 =>
  pr.idxK 1 s_0 j_3 fun (a8 : Addr) =>
  pr.storeC a8 (vI ξ5) ω7 fun ω9 =>
  k (emb1 s_0 (w64 (i_2 + 1)) (w64 (j_3 - 1))) ω9) ∧
  (pr.load1 (.int .i64) a3 ω1 fun (ξ10 : Int) =>
  pr.load1 (.int .i64) a2 ω1 fun (ξ11 : Int) =>
  pr.idxK 1 s_0 i_2 fun (a12 : Addr) =>
  pr.storeC a12 (vI ξ11) ω1 fun ω13 =>
  pr.idxK 1 s_0 j_3 fun (a14 : Addr) =>
  pr.storeC a14 (vI ξ10) ω13 fun ω15 =>
  k (emb1 s_0 (w64 (i_2 + 1)) (w64 (j_3 - 1))) ω15))
  else (
  Q (.exit 0) (x0) w)) := by kernel_rfl
theorem B1_s (s_0 : Sl) (i_2 : Int) (j_3 : Int) (w : World) (k : Env → World → Prop) (Q : Exit → Env → World → Prop) : B1 std s_0 i_2 j_3 w k Q = (
  bif decide (i_2 < j_3) then (
  drewAll w fun ω1 =>
  idxK 1 s_0 j_3 fun (a2 : Addr) =>
  idxK 1 s_0 i_2 fun (a3 : Addr) =>
  (load1 (.int .i64) a2 ω1 fun (ξ4 : Int) =>
  load1 (.int .i64) a3 ω1 fun (ξ5 : Int) =>
  idxK 1 s_0 i_2 fun (a6 : Addr) =>
  storeC a6 (vI ξ4) ω1 fun ω7 =>
  idxK 1 s_0 j_3 fun (a8 : Addr) =>
  storeC a8 (vI ξ5) ω7 fun ω9 =>
  k (emb1 s_0 (w64 (i_2 + 1)) (w64 (j_3 - 1))) ω9) ∧
  (load1 (.int .i64) a3 ω1 fun (ξ10 : Int) =>
  load1 (.int .i64) a2 ω1 fun (ξ11 : Int) =>
  idxK 1 s_0 i_2 fun (a12 : Addr) =>
  storeC a12 (vI ξ11) ω1 fun ω13 =>
  idxK 1 s_0 j_3 fun (a14 : Addr) =>
  storeC a14 (vI ξ10) ω13 fun ω15 =>
  k (emb1 s_0 (w64 (i_2 + 1)) (w64 (j_3 - 1))) ω15))
  else (
  Q (.exit 0) (x0) w)) := B1_eq std s_0 i_2 j_3 w k Q
theorem L1_rule (s_0 : Sl) (i_2 : Int) (j_3 : Int) (w : World) (Q : Exit → Env → World → Prop) (I : Int → Int → World → Prop) (μ : Int → Int → World → Nat) (h0 : I i_2 j_3 w)
    (h : ∀ (i_2 : Int) (j_3 : Int) (w' : World), I i_2 j_3 w' → B1 std s_0 i_2 j_3 w' (fun e2 w2 => ∃ i_2_n j_3_n, e2 = emb1 s_0 i_2_n j_3_n ∧ I i_2_n j_3_n w2 ∧ μ i_2_n j_3_n w2 < μ i_2 j_3 w') Q) :
    L1 std s_0 i_2 j_3 w Q := by
  unfold L1
  refine LoopE.intro (σ := Int × Int) (step := S1 std Q) (fun s => emb1 s_0 s.1 s.2) (fun s w => I s.1 s.2 w) (fun s w => μ s.1 s.2 w) (i_2, j_3) rfl h0 ?_
  intro s w' hI
  have h1 := h s.1 s.2 w' hI
  unfold B1 at h1
  simp only [Prod.exists]
  exact h1
theorem A1_0_eq (pr : Prims) (w : World) (R : Ending → World → Prop) : (q0 pr R) (.exit 0) (x0) w = (
  R (.returned (.tuple #[])) w) := by kernel_rfl
theorem A1_0_s (w : World) (R : Ending → World → Prop) : (q0 std R) (.exit 0) (x0) w = (
  R (.returned (.tuple #[])) w) := A1_0_eq std w R
theorem E_eq (pr : Prims) (s_0 : Sl) (w : World) (R : Ending → World → Prop) : E pr s_0 w R = (
  L1 pr s_0 0 (w64 ((s_0.n : Int) - 1)) w (q0 pr R)) := by kernel_rfl
theorem E_s (s_0 : Sl) (w : World) (R : Ending → World → Prop) : E std s_0 w R = (
  L1 std s_0 0 (w64 ((s_0.n : Int) - 1)) w (q0 std R)) := E_eq std s_0 w R
theorem drawsOk : drawsOk PP cfg okD (codeOf Try.f76) = true := by kernel_rfl
theorem calls (s_0 : Sl) {w : World} {R : Ending → World → Prop} (h : E std s_0 w R) : Calls PP F.slices_Reverse___int_int_ #[Sl.v s_0] w R :=
  calls_of noCount mixed drawOk Try.func76 rfl (c := cfg) (args := [Sl.v s_0]) rfl (Nat.le_of_ble_eq_true (by kernel_rfl)) drawsOk h
end slices_Reverse___int_int_

namespace slices_Clone___int_int_
@[reducible] def cfg : Cfg := ⟨8, [], [], [], [2], [], [73, 46, 18, 22, 43, 45, 72, 88, 85, 80, 81, 70], [56, 63, 74, 86, 89, 64]⟩
def E (pr : Prims) (s_0 : Sl) (w : World) (R : Ending → World → Prop) : Prop :=
  wpC pr PP cfg (DD pr) (codeOf Try.f78) (retQ Try.f78.results.toList R) (argE 0 [Sl.v s_0]) w
theorem E_eq (pr : Prims) (s_0 : Sl) (w : World) (R : Ending → World → Prop) : E pr s_0 w R = (
  bif s_0.a.isNone then (
  R (.returned (Sl.v Sl.nil)) w)
  else (
  pr.sem1 .sl PP (Instr.buildSlice T_Sint 0 #[]) w fun (ρ0 : Sl) ω1 =>
  pr.sem1 .sl PP (Builtin.append_ #[T_Sint, T_Sint] T_Sint #[Sl.v ρ0, Sl.v s_0]) ω1 fun (ρ2 : Sl) ω3 =>
  R (.returned (Sl.v ρ2)) ω3)) := by kernel_rfl
theorem E_s (s_0 : Sl) (w : World) (R : Ending → World → Prop) : E std s_0 w R = (
  bif s_0.a.isNone then (
  R (.returned (Sl.v Sl.nil)) w)
  else (
  sem1 .sl PP (Instr.buildSlice T_Sint 0 #[]) w fun (ρ0 : Sl) ω1 =>
  sem1 .sl PP (Builtin.append_ #[T_Sint, T_Sint] T_Sint #[Sl.v ρ0, Sl.v s_0]) ω1 fun (ρ2 : Sl) ω3 =>
  R (.returned (Sl.v ρ2)) ω3)) := E_eq std s_0 w R
theorem drawsOk : drawsOk PP cfg okD (codeOf Try.f78) = true := by kernel_rfl
theorem calls (s_0 : Sl) {w : World} {R : Ending → World → Prop} (h : E std s_0 w R) : Calls PP F.slices_Clone___int_int_ #[Sl.v s_0] w R :=
  calls_of noCount mixed drawOk Try.func78 rfl (c := cfg) (args := [Sl.v s_0]) rfl (Nat.le_of_ble_eq_true (by kernel_rfl)) drawsOk h
end slices_Clone___int_int_

namespace slices_IsSorted___int_int_
@[reducible] def cfg : Cfg := ⟨21, [(2, [0, 3])], [(1, [0, 3]), (0, [])], [], [2], [4], [73, 46, 18, 22, 43, 45, 72, 88, 85, 80, 81, 70], [56, 63, 74, 86, 89, 64]⟩
def q0 (pr : Prims) (R : Ending → World → Prop) : Exit → Env → World → Prop := fun ex e w => normQ ex (fun e w => contE pr cfg (sub (codeOf Try.f77) [1, 1]) (fun e w => wpC pr PP cfg (DD pr) (sub (codeOf Try.f77) [1, 1]) (retQ Try.f77.results.toList R) e w) e w) (retQ Try.f77.results.toList R) e w
def q1 (pr : Prims) (R : Ending → World → Prop) : Exit → Env → World → Prop := fun ex e w => blockQ ex 0 (q0 pr R) e w
def emb2 (x_0 : Sl) (i_3 : Int) : Env := [(0, Sl.v x_0), (3, vI i_3)]
def x0 : Env := []
def S2 (pr : Prims) (Q : Exit → Env → World → Prop) : (Env → World → Prop) → Env → World → Prop := fun k e w => wpC pr PP cfg (DD pr) (sub (codeOf Try.f77) [1, 0, 1, 0, 0]) (fun ex e w => normQ ex (fun e' w' => k (Env.restr e' (lookN cfg.loops (keyOf (sub (codeOf Try.f77) [1, 0, 1, 0, 0])))) w') Q e w) e w
def B2 (pr : Prims) (x_0 : Sl) (i_3 : Int) (w : World) (k : Env → World → Prop) (Q : Exit → Env → World → Prop) : Prop :=
  S2 pr Q k (emb2 x_0 i_3) w
def L2 (pr : Prims) (x_0 : Sl) (i_3 : Int) (w : World) (Q : Exit → Env → World → Prop) : Prop :=
  pr.loop (S2 pr Q) (emb2 x_0 i_3) w
def E (pr : Prims) (x_0 : Sl) (w : World) (R : Ending → World → Prop) : Prop :=
  wpC pr PP cfg (DD pr) (codeOf Try.f77) (retQ Try.f77.results.toList R) (argE 0 [Sl.v x_0]) w
theorem B2_eq (pr : Prims) (x_0 : Sl) (i_3 : Int) (w : World) (k : Env → World → Prop) (Q : Exit → Env → World → Prop) : B2 pr x_0 i_3 w k Q = (
  bif decide (i_3 > 0) then (
  pr.idxK 1 x_0 i_3 fun (a2 : Addr) =>
  pr.load1 (.int .i64) a2 w fun (ξ3 : Int) =>
  pr.idxK 1 x_0 (w64 (i_3 - 1)) fun (a4 : Addr) =>
  pr.load1 (.int .i64) a4 w fun (ξ5 : Int) =>
  pr.pcall1 .bool PP F.cmp_Less_int_ #[vI ξ3, vI ξ5] fun (ρ6 : Bool) =>
  pr.drewAll w fun ω7 =>
  bif ρ6 then (
  Q .ret [(2, .bool false)] ω7)
  else (
  k (emb2 x_0 (w64 (i_3 - 1))) ω7))
  else (
  Q (.exit 0) (x0) w)) := by kernel_rfl
theorem B2_s (x_0 : Sl) (i_3 : Int) (w : World) (k : Env → World → Prop) (Q : Exit → Env → World → Prop) : B2 std x_0 i_3 w k Q = (
  bif decide (i_3 > 0) then (
  idxK 1 x_0 i_3 fun (a2 : Addr) =>
  load1 (.int .i64) a2 w fun (ξ3 : Int) =>
  idxK 1 x_0 (w64 (i_3 - 1)) fun (a4 : Addr) =>
  load1 (.int .i64) a4 w fun (ξ5 : Int) =>
  pcall1 .bool PP F.cmp_Less_int_ #[vI ξ3, vI ξ5] fun (ρ6 : Bool) =>
  drewAll w fun ω7 =>
  bif ρ6 then (
  Q .ret [(2, .bool false)] ω7)
  else (
  k (emb2 x_0 (w64 (i_3 - 1))) ω7))
  else (
  Q (.exit 0) (x0) w)) := B2_eq std x_0 i_3 w k Q
theorem L2_rule (x_0 : Sl) (i_3 : Int) (w : World) (Q : Exit → Env → World → Prop) (I : Int → World → Prop) (μ : Int → World → Nat) (h0 : I i_3 w)
    (h : ∀ (i_3 : Int) (w' : World), I i_3 w' → B2 std x_0 i_3 w' (fun e2 w2 => ∃ i_3_n, e2 = emb2 x_0 i_3_n ∧ I i_3_n w2 ∧ μ i_3_n w2 < μ i_3 w') Q) :
    L2 std x_0 i_3 w Q := by
  unfold L2
  refine LoopE.intro (σ := Int) (step := S2 std Q) (fun s => emb2 x_0 s) (fun s w => I s w) (fun s w => μ s w) i_3 rfl h0 ?_
  intro s w' hI
  have h1 := h s w' hI
  unfold B2 at h1
  exact h1
theorem A2_0_eq (pr : Prims) (w : World) (R : Ending → World → Prop) : (q1 pr R) (.exit 0) (x0) w = (
  R (.returned (.bool true)) w) := by kernel_rfl
theorem A2_0_s (w : World) (R : Ending → World → Prop) : (q1 std R) (.exit 0) (x0) w = (
  R (.returned (.bool true)) w) := A2_0_eq std w R
theorem R2_eq (pr : Prims) (v2 : Value) (w : World) (R : Ending → World → Prop) : (q1 pr R) .ret [(2, v2)] w = (
  R (.returned (v2)) w) := by kernel_rfl
theorem R2_s (v2 : Value) (w : World) (R : Ending → World → Prop) : (q1 std R) .ret [(2, v2)] w = (
  R (.returned (v2)) w) := R2_eq std v2 w R
theorem E_eq (pr : Prims) (x_0 : Sl) (w : World) (R : Ending → World → Prop) : E pr x_0 w R = (
  L2 pr x_0 (w64 ((x_0.n : Int) - 1)) w (q1 pr R)) := by kernel_rfl
theorem E_s (x_0 : Sl) (w : World) (R : Ending → World → Prop) : E std x_0 w R = (
  L2 std x_0 (w64 ((x_0.n : Int) - 1)) w (q1 std R)) := E_eq std x_0 w R
theorem drawsOk : drawsOk PP cfg okD (codeOf Try.f77) = true := by kernel_rfl
theorem calls (x_0 : Sl) {w : World} {R : Ending → World → Prop} (h : E std x_0 w R) : Calls PP F.slices_IsSorted___int_int_ #[Sl.v x_0] w R :=
  calls_of noCount mixed drawOk Try.func77 rfl (c := cfg) (args := [Sl.v x_0]) rfl (Nat.le_of_ble_eq_true (by kernel_rfl)) drawsOk h
end slices_IsSorted___int_int_

namespace cmp_Less_int_
@[reducible] def cfg : Cfg := ⟨17, [], [], [], [4], [], [73, 46, 18, 22, 43, 45, 72, 88, 85, 80, 81, 70], [56, 63, 74, 86, 89, 64]⟩
def E (pr : Prims) (x_0 : Int) (y_1 : Int) (w : World) (R : Ending → World → Prop) : Prop :=
  wpC pr PP cfg (DD pr) (codeOf Try.f86) (retQ Try.f86.results.toList R) (argE 0 [vI x_0, vI y_1]) w
theorem E_eq (pr : Prims) (x_0 : Int) (y_1 : Int) (w : World) (R : Ending → World → Prop) : E pr x_0 y_1 w R = (
  pr.pcall1 .bool PP F.cmp_isNaN_int_ #[vI x_0] fun (ρ0 : Bool) =>
  bif ρ0 then (
  pr.pcall1 .bool PP F.cmp_isNaN_int_ #[vI y_1] fun (ρ1 : Bool) =>
  bif !ρ1 then (
  R (.returned (.bool true)) w)
  else (
  R (.returned (.bool (decide (x_0 < y_1)))) w))
  else (
  R (.returned (.bool (decide (x_0 < y_1)))) w)) := by kernel_rfl
theorem E_s (x_0 : Int) (y_1 : Int) (w : World) (R : Ending → World → Prop) : E std x_0 y_1 w R = (
  pcall1 .bool PP F.cmp_isNaN_int_ #[vI x_0] fun (ρ0 : Bool) =>
  bif ρ0 then (
  pcall1 .bool PP F.cmp_isNaN_int_ #[vI y_1] fun (ρ1 : Bool) =>
  bif !ρ1 then (
  R (.returned (.bool true)) w)
  else (
  R (.returned (.bool (decide (x_0 < y_1)))) w))
  else (
  R (.returned (.bool (decide (x_0 < y_1)))) w)) := E_eq std x_0 y_1 w R
theorem drawsOk : drawsOk PP cfg okD (codeOf Try.f86) = true := by kernel_rfl
theorem calls (x_0 : Int) (y_1 : Int) {w : World} {R : Ending → World → Prop} (h : E std x_0 y_1 w R) : Calls PP F.cmp_Less_int_ #[vI x_0, vI y_1] w R :=
  calls_of noCount mixed drawOk Try.func86 rfl (c := cfg) (args := [vI x_0, vI y_1]) rfl (Nat.le_of_ble_eq_true (by kernel_rfl)) drawsOk h
end cmp_Less_int_

namespace cmp_isNaN_int_
@[reducible] def cfg : Cfg := ⟨6, [], [], [], [2], [], [73, 46, 18, 22, 43, 45, 72, 88, 85, 80, 81, 70], [56, 63, 74, 86, 89, 64]⟩
def E (pr : Prims) (x_0 : Int) (w : World) (R : Ending → World → Prop) : Prop :=
  wpC pr PP cfg (DD pr) (codeOf Try.f89) (retQ Try.f89.results.toList R) (argE 0 [vI x_0]) w
theorem E_eq (pr : Prims) (x_0 : Int) (w : World) (R : Ending → World → Prop) : E pr x_0 w R = (
  R (.returned (.bool (x_0 != x_0))) w) := by kernel_rfl
theorem E_s (x_0 : Int) (w : World) (R : Ending → World → Prop) : E std x_0 w R = (
  R (.returned (.bool (x_0 != x_0))) w) := E_eq std x_0 w R
theorem drawsOk : drawsOk PP cfg okD (codeOf Try.f89) = true := by kernel_rfl
theorem calls (x_0 : Int) {w : World} {R : Ending → World → Prop} (h : E std x_0 w R) : Calls PP F.cmp_isNaN_int_ #[vI x_0] w R :=
  calls_of noCount mixed drawOk Try.func89 rfl (c := cfg) (args := [vI x_0]) rfl (Nat.le_of_ble_eq_true (by kernel_rfl)) drawsOk h
end cmp_isNaN_int_

namespace spec_IdentityPerm
@[reducible] def cfg : Cfg := ⟨20, [(3, [0, 3, 4])], [(1, [0, 3, 4]), (0, [3])], [], [2], [], [73, 46, 18, 22, 43, 45, 72, 88, 85, 80, 81, 70], [56, 63, 74, 86, 89, 64]⟩
def q2 (pr : Prims) (R : Ending → World → Prop) : Exit → Env → World → Prop := fun ex e w => normQ ex (fun e w => contE pr cfg (sub (codeOf Try.f60) [1, 1, 1]) (fun e w => wpC pr PP cfg (DD pr) (sub (codeOf Try.f60) [1, 1, 1]) (retQ Try.f60.results.toList R) e w) e w) (retQ Try.f60.results.toList R) e w
def q3 (pr : Prims) (R : Ending → World → Prop) : Exit → Env → World → Prop := fun ex e w => blockQ ex 0 (q2 pr R) e w
def emb3 (n_0 : Int) (out_3 : Sl) (k_4 : Int) : Env := [(0, vI n_0), (3, Sl.v out_3), (4, vI k_4)]
def x0 (out_3 : Sl) : Env := [(3, Sl.v out_3)]
def S3 (pr : Prims) (Q : Exit → Env → World → Prop) : (Env → World → Prop) → Env → World → Prop := fun k e w => wpC pr PP cfg (DD pr) (sub (codeOf Try.f60) [1, 1, 0, 1, 0, 0]) (fun ex e w => normQ ex (fun e' w' => k (Env.restr e' (lookN cfg.loops (keyOf (sub (codeOf Try.f60) [1, 1, 0, 1, 0, 0])))) w') Q e w) e w
def B3 (pr : Prims) (n_0 : Int) (out_3 : Sl) (k_4 : Int) (w : World) (k : Env → World → Prop) (Q : Exit → Env → World → Prop) : Prop :=
  S3 pr Q k (emb3 n_0 out_3 k_4) w
def L3 (pr : Prims) (n_0 : Int) (out_3 : Sl) (k_4 : Int) (w : World) (Q : Exit → Env → World → Prop) : Prop :=
  pr.loop (S3 pr Q) (emb3 n_0 out_3 k_4) w
def E (pr : Prims) (n_0 : Int) (w : World) (R : Ending → World → Prop) : Prop :=
  wpC pr PP cfg (DD pr) (codeOf Try.f60) (retQ Try.f60.results.toList R) (argE 0 [vI n_0]) w
theorem B3_eq (pr : Prims) (n_0 : Int) (out_3 : Sl) (k_4 : Int) (w : World) (k : Env → World → Prop) (Q : Exit → Env → World → Prop) : B3 pr n_0 out_3 k_4 w k Q = (
  bif decide (k_4 ≤ n_0) then (
  bif decide (n_0 ≤ 8) then (
  pr.sem1 .sl PP (Instr.buildSlice T_Sint 1 #[(0, vI k_4)]) w fun (ρ4 : Sl) ω5 =>
  pr.sem1 .sl PP (Builtin.append_ #[T_Sint, T_Sint] T_Sint #[Sl.v out_3, Sl.v ρ4]) ω5 fun (ρ6 : Sl) ω7 =>
  k (emb3 n_0 ρ6 (w64 (k_4 + 1))) ω7)
  else (
  Q (.exit 0) (x0 out_3) w))
  else (
  Q (.exit 0) (x0 out_3) w)) := by kernel_rfl
theorem B3_s (n_0 : Int) (out_3 : Sl) (k_4 : Int) (w : World) (k : Env → World → Prop) (Q : Exit → Env → World → Prop) : B3 std n_0 out_3 k_4 w k Q = (
  bif decide (k_4 ≤ n_0) then (
  bif decide (n_0 ≤ 8) then (
  sem1 .sl PP (Instr.buildSlice T_Sint 1 #[(0, vI k_4)]) w fun (ρ4 : Sl) ω5 =>
  sem1 .sl PP (Builtin.append_ #[T_Sint, T_Sint] T_Sint #[Sl.v out_3, Sl.v ρ4]) ω5 fun (ρ6 : Sl) ω7 =>
  k (emb3 n_0 ρ6 (w64 (k_4 + 1))) ω7)
  else (
  Q (.exit 0) (x0 out_3) w))
  else (
  Q (.exit 0) (x0 out_3) w)) := B3_eq std n_0 out_3 k_4 w k Q
theorem L3_rule (n_0 : Int) (out_3 : Sl) (k_4 : Int) (w : World) (Q : Exit → Env → World → Prop) (I : Sl → Int → World → Prop) (μ : Sl → Int → World → Nat) (h0 : I out_3 k_4 w)
    (h : ∀ (out_3 : Sl) (k_4 : Int) (w' : World), I out_3 k_4 w' → B3 std n_0 out_3 k_4 w' (fun e2 w2 => ∃ out_3_n k_4_n, e2 = emb3 n_0 out_3_n k_4_n ∧ I out_3_n k_4_n w2 ∧ μ out_3_n k_4_n w2 < μ out_3 k_4 w') Q) :
    L3 std n_0 out_3 k_4 w Q := by
  unfold L3
  refine LoopE.intro (σ := Sl × Int) (step := S3 std Q) (fun s => emb3 n_0 s.1 s.2) (fun s w => I s.1 s.2 w) (fun s w => μ s.1 s.2 w) (out_3, k_4) rfl h0 ?_
  intro s w' hI
  have h1 := h s.1 s.2 w' hI
  unfold B3 at h1
  simp only [Prod.exists]
  exact h1
theorem A3_0_eq (pr : Prims) (out_3 : Sl) (w : World) (R : Ending → World → Prop) : (q3 pr R) (.exit 0) (x0 out_3) w = (
  R (.returned (Sl.v out_3)) w) := by kernel_rfl
theorem A3_0_s (out_3 : Sl) (w : World) (R : Ending → World → Prop) : (q3 std R) (.exit 0) (x0 out_3) w = (
  R (.returned (Sl.v out_3)) w) := A3_0_eq std out_3 w R
theorem E_eq (pr : Prims) (n_0 : Int) (w : World) (R : Ending → World → Prop) : E pr n_0 w R = (
  pr.sem1 .sl PP (Instr.buildSlice T_Sint 0 #[]) w fun (ρ0 : Sl) ω1 =>
  L3 pr n_0 ρ0 1 ω1 (q3 pr R)) := by kernel_rfl
theorem E_s (n_0 : Int) (w : World) (R : Ending → World → Prop) : E std n_0 w R = (
  sem1 .sl PP (Instr.buildSlice T_Sint 0 #[]) w fun (ρ0 : Sl) ω1 =>
  L3 std n_0 ρ0 1 ω1 (q3 std R)) := E_eq std n_0 w R
theorem drawsOk : drawsOk PP cfg okD (codeOf Try.f60) = true := by kernel_rfl
theorem calls (n_0 : Int) {w : World} {R : Ending → World → Prop} (h : E std n_0 w R) : Calls PP F.spec_IdentityPerm #[vI n_0] w R :=
  calls_of noCount mixed drawOk Try.func60 rfl (c := cfg) (args := [vI n_0]) rfl (Nat.le_of_ble_eq_true (by kernel_rfl)) drawsOk h
end spec_IdentityPerm

namespace spec_l2Same
@[reducible] def cfg : Cfg := ⟨26, [(4, [0, 1, 5])], [(1, [0, 1, 5]), (0, [])], [], [4], [6], [73, 46, 18, 22, 43, 45, 72, 88, 85, 80, 81, 70], [56, 63, 74, 86, 89, 64]⟩
def q0 (pr : Prims) (R : Ending → World → Prop) : Exit → Env → World → Prop := fun ex e w => normQ ex (fun e w => contE pr cfg (sub (codeOf Try.f70) [1, 1, 1]) (fun e w => wpC pr PP cfg (DD pr) (sub (codeOf Try.f70) [1, 1, 1]) (retQ Try.f70.results.toList R) e w) e w) (retQ Try.f70.results.toList R) e w
def q1 (pr : Prims) (R : Ending → World → Prop) : Exit → Env → World → Prop := fun ex e w => blockQ ex 0 (q0 pr R) e w
def emb4 (a_0 : Sl) (b_1 : Sl) (k_5 : Int) : Env := [(0, Sl.v a_0), (1, Sl.v b_1), (5, vI k_5)]
def x0 : Env := []
def S4 (pr : Prims) (Q : Exit → Env → World → Prop) : (Env → World → Prop) → Env → World → Prop := fun k e w => wpC pr PP cfg (DD pr) (sub (codeOf Try.f70) [1, 1, 0, 1, 0, 0]) (fun ex e w => normQ ex (fun e' w' => k (Env.restr e' (lookN cfg.loops (keyOf (sub (codeOf Try.f70) [1, 1, 0, 1, 0, 0])))) w') Q e w) e w
def B4 (pr : Prims) (a_0 : Sl) (b_1 : Sl) (k_5 : Int) (w : World) (k : Env → World → Prop) (Q : Exit → Env → World → Prop) : Prop :=
  S4 pr Q k (emb4 a_0 b_1 k_5) w
def L4 (pr : Prims) (a_0 : Sl) (b_1 : Sl) (k_5 : Int) (w : World) (Q : Exit → Env → World → Prop) : Prop :=
  pr.loop (S4 pr Q) (emb4 a_0 b_1 k_5) w
def E (pr : Prims) (a_0 : Sl) (b_1 : Sl) (w : World) (R : Ending → World → Prop) : Prop :=
  wpC pr PP cfg (DD pr) (codeOf Try.f70) (retQ Try.f70.results.toList R) (argE 0 [Sl.v a_0, Sl.v b_1]) w
theorem B4_eq (pr : Prims) (a_0 : Sl) (b_1 : Sl) (k_5 : Int) (w : World) (k : Env → World → Prop) (Q : Exit → Env → World → Prop) : B4 pr a_0 b_1 k_5 w k Q = (
  bif decide (k_5 < (a_0.n : Int)) then (
  pr.idxK 1 a_0 k_5 fun (a2 : Addr) =>
  pr.load1 (.int .i64) a2 w fun (ξ3 : Int) =>
  pr.idxK 1 b_1 k_5 fun (a4 : Addr) =>
  pr.load1 (.int .i64) a4 w fun (ξ5 : Int) =>
  pr.drewAll w fun ω6 =>
  bif ξ3 != ξ5 then (
  Q .ret [(4, .bool false)] ω6)
  else (
  k (emb4 a_0 b_1 (w64 (k_5 + 1))) ω6))
  else (
  Q (.exit 0) (x0) w)) := by kernel_rfl
theorem B4_s (a_0 : Sl) (b_1 : Sl) (k_5 : Int) (w : World) (k : Env → World → Prop) (Q : Exit → Env → World → Prop) : B4 std a_0 b_1 k_5 w k Q = (
  bif decide (k_5 < (a_0.n : Int)) then (
  idxK 1 a_0 k_5 fun (a2 : Addr) =>
  load1 (.int .i64) a2 w fun (ξ3 : Int) =>
  idxK 1 b_1 k_5 fun (a4 : Addr) =>
  load1 (.int .i64) a4 w fun (ξ5 : Int) =>
  drewAll w fun ω6 =>
  bif ξ3 != ξ5 then (
  Q .ret [(4, .bool false)] ω6)
  else (
  k (emb4 a_0 b_1 (w64 (k_5 + 1))) ω6))
  else (
  Q (.exit 0) (x0) w)) := B4_eq std a_0 b_1 k_5 w k Q
theorem L4_rule (a_0 : Sl) (b_1 : Sl) (k_5 : Int) (w : World) (Q : Exit → Env → World → Prop) (I : Int → World → Prop) (μ : Int → World → Nat) (h0 : I k_5 w)
    (h : ∀ (k_5 : Int) (w' : World), I k_5 w' → B4 std a_0 b_1 k_5 w' (fun e2 w2 => ∃ k_5_n, e2 = emb4 a_0 b_1 k_5_n ∧ I k_5_n w2 ∧ μ k_5_n w2 < μ k_5 w') Q) :
    L4 std a_0 b_1 k_5 w Q := by
  unfold L4
  refine LoopE.intro (σ := Int) (step := S4 std Q) (fun s => emb4 a_0 b_1 s) (fun s w => I s w) (fun s w => μ s w) k_5 rfl h0 ?_
  intro s w' hI
  have h1 := h s w' hI
  unfold B4 at h1
  exact h1
theorem A4_0_eq (pr : Prims) (w : World) (R : Ending → World → Prop) : (q1 pr R) (.exit 0) (x0) w = (
  R (.returned (.bool true)) w) := by kernel_rfl
theorem A4_0_s (w : World) (R : Ending → World → Prop) : (q1 std R) (.exit 0) (x0) w = (
  R (.returned (.bool true)) w) := A4_0_eq std w R
theorem R4_eq (pr : Prims) (v4 : Value) (w : World) (R : Ending → World → Prop) : (q1 pr R) .ret [(4, v4)] w = (
  R (.returned (v4)) w) := by kernel_rfl
theorem R4_s (v4 : Value) (w : World) (R : Ending → World → Prop) : (q1 std R) .ret [(4, v4)] w = (
  R (.returned (v4)) w) := R4_eq std v4 w R
theorem E_eq (pr : Prims) (a_0 : Sl) (b_1 : Sl) (w : World) (R : Ending → World → Prop) : E pr a_0 b_1 w R = (
  bif (a_0.n : Int) != (b_1.n : Int) then (
  R (.returned (.bool false)) w)
  else (
  L4 pr a_0 b_1 0 w (q1 pr R))) := by kernel_rfl
theorem E_s (a_0 : Sl) (b_1 : Sl) (w : World) (R : Ending → World → Prop) : E std a_0 b_1 w R = (
  bif (a_0.n : Int) != (b_1.n : Int) then (
  R (.returned (.bool false)) w)
  else (
  L4 std a_0 b_1 0 w (q1 std R))) := E_eq std a_0 b_1 w R
theorem drawsOk : drawsOk PP cfg okD (codeOf Try.f70) = true := by kernel_rfl
theorem calls (a_0 : Sl) (b_1 : Sl) {w : World} {R : Ending → World → Prop} (h : E std a_0 b_1 w R) : Calls PP F.spec_l2Same #[Sl.v a_0, Sl.v b_1] w R :=
  calls_of noCount mixed drawOk Try.func70 rfl (c := cfg) (args := [Sl.v a_0, Sl.v b_1]) rfl (Nat.le_of_ble_eq_true (by kernel_rfl)) drawsOk h
end spec_l2Same

end Go.Proofs.Ytliabbhfagfagaa
