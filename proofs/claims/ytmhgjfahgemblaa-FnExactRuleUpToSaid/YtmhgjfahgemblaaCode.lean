/- What each function does, step by step, written by a program (Gen.lean); each equation is checked by the kernel. -/
import Derived.Test.YtmhgjfahgemblaaHead
namespace Go.Proofs.Ytmhgjfahgemblaa
open Go
set_option linter.unusedVariables false
set_option maxRecDepth 100000
namespace spec_l1In
@[reducible] def cfg : Cfg := ⟨15, [], [], [], [6], [], [62, 10, 22, 58, 24, 44, 18, 70, 43, 85, 25, 71, 59, 37, 63], [82, 113, 102, 38, 103, 26, 60]⟩
def E (pr : Prims) (x_0 : Int) (lo_1 : Int) (hi_2 : Int) (w : World) (R : Ending → World → Prop) : Prop :=
  wpC pr PP cfg (DD pr) (codeOf Try.f26) (retQ Try.f26.results.toList R) (argE 0 [vI x_0, vI lo_1, vI hi_2]) w
theorem E_eq (pr : Prims) (x_0 : Int) (lo_1 : Int) (hi_2 : Int) (w : World) (R : Ending → World → Prop) : E pr x_0 lo_1 hi_2 w R = (
  bif decide (x_0 ≥ lo_1) then (
  R (.returned (.bool (decide (x_0 ≤ hi_2)))) w)
  else (
  R (.returned (.bool false)) w)) := by kernel_rfl
theorem E_s (x_0 : Int) (lo_1 : Int) (hi_2 : Int) (w : World) (R : Ending → World → Prop) : E std x_0 lo_1 hi_2 w R = (
  bif decide (x_0 ≥ lo_1) then (
  R (.returned (.bool (decide (x_0 ≤ hi_2)))) w)
  else (
  R (.returned (.bool false)) w)) := E_eq std x_0 lo_1 hi_2 w R
theorem drawsOk : drawsOk PP cfg okD (codeOf Try.f26) = true := by kernel_rfl
theorem calls (x_0 : Int) (lo_1 : Int) (hi_2 : Int) {w : World} {R : Ending → World → Prop} (h : E std x_0 lo_1 hi_2 w R) : Calls PP F.spec_l1In #[vI x_0, vI lo_1, vI hi_2] w R :=
  calls_of noCount mixed drawOk Try.func26 rfl (c := cfg) (args := [vI x_0, vI lo_1, vI hi_2]) rfl (Nat.le_of_ble_eq_true (by kernel_rfl)) drawsOk h
end spec_l1In

namespace spec_l1Bit
@[reducible] def cfg : Cfg := ⟨4, [], [], [], [2], [], [62, 10, 22, 58, 24, 44, 18, 70, 43, 85, 25, 71, 59, 37, 63], [82, 113, 102, 38, 103, 26, 60]⟩
def E (pr : Prims) (on_0 : Bool) (w : World) (R : Ending → World → Prop) : Prop :=
  wpC pr PP cfg (DD pr) (codeOf Try.f103) (retQ Try.f103.results.toList R) (argE 0 [.bool on_0]) w
theorem E_eq (pr : Prims) (on_0 : Bool) (w : World) (R : Ending → World → Prop) : E pr on_0 w R = (
  bif on_0 then (
  R (.returned (vI 1)) w)
  else (
  R (.returned (vI 0)) w)) := by kernel_rfl
theorem E_s (on_0 : Bool) (w : World) (R : Ending → World → Prop) : E std on_0 w R = (
  bif on_0 then (
  R (.returned (vI 1)) w)
  else (
  R (.returned (vI 0)) w)) := E_eq std on_0 w R
theorem drawsOk : drawsOk PP cfg okD (codeOf Try.f103) = true := by kernel_rfl
theorem calls (on_0 : Bool) {w : World} {R : Ending → World → Prop} (h : E std on_0 w R) : Calls PP F.spec_l1Bit #[.bool on_0] w R :=
  calls_of noCount mixed drawOk Try.func103 rfl (c := cfg) (args := [.bool on_0]) rfl (Nat.le_of_ble_eq_true (by kernel_rfl)) drawsOk h
end spec_l1Bit

namespace impl_isPerm
@[reducible] def cfg : Cfg := ⟨34, [(3, [0, 3, 10, 11, 12])], [(1, [0, 3, 10, 11, 12]), (0, [])], [], [2], [], [62, 10, 22, 58, 24, 44, 18, 70, 43, 85, 25, 71, 59, 37, 63], [82, 113, 102, 38, 103, 26, 60]⟩
def q2 (pr : Prims) (R : Ending → World → Prop) : Exit → Env → World → Prop := fun ex e w => normQ ex (fun e w => contE pr cfg (sub (codeOf Try.f64) [1, 1, 1]) (fun e w => wpC pr PP cfg (DD pr) (sub (codeOf Try.f64) [1, 1, 1]) (retQ Try.f64.results.toList R) e w) e w) (retQ Try.f64.results.toList R) e w
def q3 (pr : Prims) (R : Ending → World → Prop) : Exit → Env → World → Prop := fun ex e w => blockQ ex 0 (q2 pr R) e w
def emb3 (p_0 : Sl) (seen_3 : Sl) (t10 : Sl) (t11 : Int) (t12 : Int) : Env := [(0, Sl.v p_0), (3, Sl.v seen_3), (10, Sl.v t10), (11, vI t11), (12, vI t12)]
def x0 : Env := []
def S3 (pr : Prims) (Q : Exit → Env → World → Prop) : (Env → World → Prop) → Env → World → Prop := fun k e w => wpC pr PP cfg (DD pr) (sub (codeOf Try.f64) [1, 1, 0, 1, 0, 0]) (fun ex e w => normQ ex (fun e' w' => k (Env.restr e' (lookN cfg.loops (keyOf (sub (codeOf Try.f64) [1, 1, 0, 1, 0, 0])))) w') Q e w) e w
def B3 (pr : Prims) (p_0 : Sl) (seen_3 : Sl) (t10 : Sl) (t11 : Int) (t12 : Int) (w : World) (k : Env → World → Prop) (Q : Exit → Env → World → Prop) : Prop :=
  S3 pr Q k (emb3 p_0 seen_3 t10 t11 t12) w
def L3 (pr : Prims) (p_0 : Sl) (seen_3 : Sl) (t10 : Sl) (t11 : Int) (t12 : Int) (w : World) (Q : Exit → Env → World → Prop) : Prop :=
  pr.loop (S3 pr Q) (emb3 p_0 seen_3 t10 t11 t12) w
def E (pr : Prims) (p_0 : Sl) (w : World) (R : Ending → World → Prop) : Prop :=
  wpC pr PP cfg (DD pr) (codeOf Try.f64) (retQ Try.f64.results.toList R) (argE 0 [Sl.v p_0]) w
theorem B3_eq (pr : Prims) (p_0 : Sl) (seen_3 : Sl) (t10 : Sl) (t11 : Int) (t12 : Int) (w : World) (k : Env → World → Prop) (Q : Exit → Env → World → Prop) : B3 pr p_0 seen_3 t10 t11 t12 w k Q = (
  bif decide (t12 < t11) then (
  pr.idxK 1 t10 t12 fun (a4 : Addr) =>
  pr.load1 (.int .i64) a4 w fun (ξ5 : Int) =>
  bif decide (ξ5 < 1) then (
  Q .ret [(2, .bool false)] w)
  else (
  bif decide (ξ5 > (p_0.n : Int)) then (
  Q .ret [(2, .bool false)] w)
  else (
  pr.idxK 1 seen_3 ξ5 fun (a6 : Addr) =>
  pr.load1 .bool a6 w fun (ξ7 : Bool) =>
  bif ξ7 then (
  Q .ret [(2, .bool false)] w)
  else (
  pr.idxK 1 seen_3 ξ5 fun (a8 : Addr) =>
  pr.storeC a8 (.bool true) w fun ω9 =>
  k (emb3 p_0 seen_3 t10 t11 (w64 (t12 + 1))) ω9))))
  else (
  Q (.exit 0) (x0) w)) := by kernel_rfl
theorem B3_s (p_0 : Sl) (seen_3 : Sl) (t10 : Sl) (t11 : Int) (t12 : Int) (w : World) (k : Env → World → Prop) (Q : Exit → Env → World → Prop) : B3 std p_0 seen_3 t10 t11 t12 w k Q = (
  bif decide (t12 < t11) then (
  idxK 1 t10 t12 fun (a4 : Addr) =>
  load1 (.int .i64) a4 w fun (ξ5 : Int) =>
  bif decide (ξ5 < 1) then (
  Q .ret [(2, .bool false)] w)
  else (
  bif decide (ξ5 > (p_0.n : Int)) then (
  Q .ret [(2, .bool false)] w)
  else (
  idxK 1 seen_3 ξ5 fun (a6 : Addr) =>
  load1 .bool a6 w fun (ξ7 : Bool) =>
  bif ξ7 then (
  Q .ret [(2, .bool false)] w)
  else (
  idxK 1 seen_3 ξ5 fun (a8 : Addr) =>
  storeC a8 (.bool true) w fun ω9 =>
  k (emb3 p_0 seen_3 t10 t11 (w64 (t12 + 1))) ω9))))
  else (
  Q (.exit 0) (x0) w)) := B3_eq std p_0 seen_3 t10 t11 t12 w k Q
theorem L3_rule (p_0 : Sl) (seen_3 : Sl) (t10 : Sl) (t11 : Int) (t12 : Int) (w : World) (Q : Exit → Env → World → Prop) (I : Int → World → Prop) (μ : Int → World → Nat) (h0 : I t12 w)
    (h : ∀ (t12 : Int) (w' : World), I t12 w' → B3 std p_0 seen_3 t10 t11 t12 w' (fun e2 w2 => ∃ t12_n, e2 = emb3 p_0 seen_3 t10 t11 t12_n ∧ I t12_n w2 ∧ μ t12_n w2 < μ t12 w') Q) :
    L3 std p_0 seen_3 t10 t11 t12 w Q := by
  unfold L3
  refine LoopE.intro (σ := Int) (step := S3 std Q) (fun s => emb3 p_0 seen_3 t10 t11 s) (fun s w => I s w) (fun s w => μ s w) t12 rfl h0 ?_
  intro s w' hI
  have h1 := h s w' hI
  unfold B3 at h1
  exact h1
theorem A3_0_eq (pr : Prims) (w : World) (R : Ending → World → Prop) : (q3 pr R) (.exit 0) (x0) w = (
  R (.returned (.bool true)) w) := by kernel_rfl
theorem A3_0_s (w : World) (R : Ending → World → Prop) : (q3 std R) (.exit 0) (x0) w = (
  R (.returned (.bool true)) w) := A3_0_eq std w R
theorem R3_eq (pr : Prims) (v2 : Value) (w : World) (R : Ending → World → Prop) : (q3 pr R) .ret [(2, v2)] w = (
  R (.returned (v2)) w) := by kernel_rfl
theorem R3_s (v2 : Value) (w : World) (R : Ending → World → Prop) : (q3 std R) .ret [(2, v2)] w = (
  R (.returned (v2)) w) := R3_eq std v2 w R
theorem E_eq (pr : Prims) (p_0 : Sl) (w : World) (R : Ending → World → Prop) : E pr p_0 w R = (
  pr.sem1 .sl PP (Instr.makeSlice T_Sbool (vI (w64 ((p_0.n : Int) + 1))) (vI (w64 ((p_0.n : Int) + 1)))) w fun (ρ0 : Sl) ω1 =>
  L3 pr p_0 ρ0 p_0 (p_0.n : Int) 0 ω1 (q3 pr R)) := by kernel_rfl
theorem E_s (p_0 : Sl) (w : World) (R : Ending → World → Prop) : E std p_0 w R = (
  sem1 .sl PP (Instr.makeSlice T_Sbool (vI (w64 ((p_0.n : Int) + 1))) (vI (w64 ((p_0.n : Int) + 1)))) w fun (ρ0 : Sl) ω1 =>
  L3 std p_0 ρ0 p_0 (p_0.n : Int) 0 ω1 (q3 std R)) := E_eq std p_0 w R
theorem drawsOk : drawsOk PP cfg okD (codeOf Try.f64) = true := by kernel_rfl
theorem calls (p_0 : Sl) {w : World} {R : Ending → World → Prop} (h : E std p_0 w R) : Calls PP F.impl_isPerm #[Sl.v p_0] w R :=
  calls_of noCount mixed drawOk Try.func64 rfl (c := cfg) (args := [Sl.v p_0]) rfl (Nat.le_of_ble_eq_true (by kernel_rfl)) drawsOk h
end impl_isPerm

namespace impl_IsPerm
@[reducible] def cfg : Cfg := ⟨10, [], [], [], [2], [], [62, 10, 22, 58, 24, 44, 18, 70, 43, 85, 25, 71, 59, 37, 63], [82, 113, 102, 38, 103, 26, 60]⟩
def E (pr : Prims) (p_0 : Sl) (w : World) (R : Ending → World → Prop) : Prop :=
  wpC pr PP cfg (DD pr) (codeOf Try.f32) (retQ Try.f32.results.toList R) (argE 0 [Sl.v p_0]) w
theorem E_eq (pr : Prims) (p_0 : Sl) (w : World) (R : Ending → World → Prop) : E pr p_0 w R = (
  bif decide ((p_0.n : Int) ≤ 8) then (
  pr.call1 .bool PP F.impl_isPerm #[Sl.v p_0] w fun (ρ0 : Bool) ω1 =>
  R (.returned (.bool ρ0)) ω1)
  else (
  R (.returned (.bool false)) w)) := by kernel_rfl
theorem E_s (p_0 : Sl) (w : World) (R : Ending → World → Prop) : E std p_0 w R = (
  bif decide ((p_0.n : Int) ≤ 8) then (
  call1 .bool PP F.impl_isPerm #[Sl.v p_0] w fun (ρ0 : Bool) ω1 =>
  R (.returned (.bool ρ0)) ω1)
  else (
  R (.returned (.bool false)) w)) := E_eq std p_0 w R
theorem drawsOk : drawsOk PP cfg okD (codeOf Try.f32) = true := by kernel_rfl
theorem calls (p_0 : Sl) {w : World} {R : Ending → World → Prop} (h : E std p_0 w R) : Calls PP F.impl_IsPerm #[Sl.v p_0] w R :=
  calls_of noCount mixed drawOk Try.func32 rfl (c := cfg) (args := [Sl.v p_0]) rfl (Nat.le_of_ble_eq_true (by kernel_rfl)) drawsOk h
end impl_IsPerm

namespace spec_IsPerm
@[reducible] def cfg : Cfg := ⟨36, [(2, [0, 3])], [(1, [0, 3]), (0, [0])], [], [2], [4], [62, 10, 22, 58, 24, 44, 18, 70, 43, 85, 25, 71, 59, 37, 63], [82, 113, 102, 38, 103, 26, 60]⟩
def q0 (pr : Prims) (R : Ending → World → Prop) : Exit → Env → World → Prop := fun ex e w => normQ ex (fun e w => contE pr cfg (sub (codeOf Try.f25) [1, 1]) (fun e w => wpC pr PP cfg (DD pr) (sub (codeOf Try.f25) [1, 1]) (retQ Try.f25.results.toList R) e w) e w) (retQ Try.f25.results.toList R) e w
def q1 (pr : Prims) (R : Ending → World → Prop) : Exit → Env → World → Prop := fun ex e w => blockQ ex 0 (q0 pr R) e w
def emb2 (p_0 : Sl) (k_3 : Int) : Env := [(0, Sl.v p_0), (3, vI k_3)]
def x0 (p_0 : Sl) : Env := [(0, Sl.v p_0)]
def S2 (pr : Prims) (Q : Exit → Env → World → Prop) : (Env → World → Prop) → Env → World → Prop := fun k e w => wpC pr PP cfg (DD pr) (sub (codeOf Try.f25) [1, 0, 1, 0, 0]) (fun ex e w => normQ ex (fun e' w' => k (Env.restr e' (lookN cfg.loops (keyOf (sub (codeOf Try.f25) [1, 0, 1, 0, 0])))) w') Q e w) e w
def B2 (pr : Prims) (p_0 : Sl) (k_3 : Int) (w : World) (k : Env → World → Prop) (Q : Exit → Env → World → Prop) : Prop :=
  S2 pr Q k (emb2 p_0 k_3) w
def L2 (pr : Prims) (p_0 : Sl) (k_3 : Int) (w : World) (Q : Exit → Env → World → Prop) : Prop :=
  pr.loop (S2 pr Q) (emb2 p_0 k_3) w
def E (pr : Prims) (p_0 : Sl) (w : World) (R : Ending → World → Prop) : Prop :=
  wpC pr PP cfg (DD pr) (codeOf Try.f25) (retQ Try.f25.results.toList R) (argE 0 [Sl.v p_0]) w
theorem B2_eq (pr : Prims) (p_0 : Sl) (k_3 : Int) (w : World) (k : Env → World → Prop) (Q : Exit → Env → World → Prop) : B2 pr p_0 k_3 w k Q = (
  bif decide (k_3 < (p_0.n : Int)) then (
  bif decide ((p_0.n : Int) ≤ 8) then (
  pr.idxK 1 p_0 k_3 fun (a2 : Addr) =>
  pr.load1 (.int .i64) a2 w fun (ξ3 : Int) =>
  pr.pcall1 .bool PP F.spec_l1In #[vI ξ3, vI 1, vI (p_0.n : Int)] fun (ρ4 : Bool) =>
  bif !ρ4 then (
  pr.drewAll w fun ω5 =>
  Q .ret [(2, .bool false)] ω5)
  else (
  pr.cutK 1 p_0 none (some k_3) fun (s6 : Sl) =>
  pr.idxK 1 p_0 k_3 fun (a7 : Addr) =>
  pr.load1 (.int .i64) a7 w fun (ξ8 : Int) =>
  pr.qcall1 .bool PP F.spec_l2Has #[Sl.v s6, vI ξ8] w fun (ρ9 : Bool) =>
  pr.drewAll w fun ω10 =>
  bif ρ9 then (
  Q .ret [(2, .bool false)] ω10)
  else (
  k (emb2 p_0 (w64 (k_3 + 1))) ω10)))
  else (
  Q (.exit 0) (x0 p_0) w))
  else (
  Q (.exit 0) (x0 p_0) w)) := by kernel_rfl
theorem B2_s (p_0 : Sl) (k_3 : Int) (w : World) (k : Env → World → Prop) (Q : Exit → Env → World → Prop) : B2 std p_0 k_3 w k Q = (
  bif decide (k_3 < (p_0.n : Int)) then (
  bif decide ((p_0.n : Int) ≤ 8) then (
  idxK 1 p_0 k_3 fun (a2 : Addr) =>
  load1 (.int .i64) a2 w fun (ξ3 : Int) =>
  pcall1 .bool PP F.spec_l1In #[vI ξ3, vI 1, vI (p_0.n : Int)] fun (ρ4 : Bool) =>
  bif !ρ4 then (
  drewAll w fun ω5 =>
  Q .ret [(2, .bool false)] ω5)
  else (
  cutK 1 p_0 none (some k_3) fun (s6 : Sl) =>
  idxK 1 p_0 k_3 fun (a7 : Addr) =>
  load1 (.int .i64) a7 w fun (ξ8 : Int) =>
  qcall1 .bool PP F.spec_l2Has #[Sl.v s6, vI ξ8] w fun (ρ9 : Bool) =>
  drewAll w fun ω10 =>
  bif ρ9 then (
  Q .ret [(2, .bool false)] ω10)
  else (
  k (emb2 p_0 (w64 (k_3 + 1))) ω10)))
  else (
  Q (.exit 0) (x0 p_0) w))
  else (
  Q (.exit 0) (x0 p_0) w)) := B2_eq std p_0 k_3 w k Q
theorem L2_rule (p_0 : Sl) (k_3 : Int) (w : World) (Q : Exit → Env → World → Prop) (I : Int → World → Prop) (μ : Int → World → Nat) (h0 : I k_3 w)
    (h : ∀ (k_3 : Int) (w' : World), I k_3 w' → B2 std p_0 k_3 w' (fun e2 w2 => ∃ k_3_n, e2 = emb2 p_0 k_3_n ∧ I k_3_n w2 ∧ μ k_3_n w2 < μ k_3 w') Q) :
    L2 std p_0 k_3 w Q := by
  unfold L2
  refine LoopE.intro (σ := Int) (step := S2 std Q) (fun s => emb2 p_0 s) (fun s w => I s w) (fun s w => μ s w) k_3 rfl h0 ?_
  intro s w' hI
  have h1 := h s w' hI
  unfold B2 at h1
  exact h1
theorem A2_0_eq (pr : Prims) (p_0 : Sl) (w : World) (R : Ending → World → Prop) : (q1 pr R) (.exit 0) (x0 p_0) w = (
  R (.returned (.bool (decide ((p_0.n : Int) ≤ 8)))) w) := by kernel_rfl
theorem A2_0_s (p_0 : Sl) (w : World) (R : Ending → World → Prop) : (q1 std R) (.exit 0) (x0 p_0) w = (
  R (.returned (.bool (decide ((p_0.n : Int) ≤ 8)))) w) := A2_0_eq std p_0 w R
theorem R2_eq (pr : Prims) (v2 : Value) (w : World) (R : Ending → World → Prop) : (q1 pr R) .ret [(2, v2)] w = (
  R (.returned (v2)) w) := by kernel_rfl
theorem R2_s (v2 : Value) (w : World) (R : Ending → World → Prop) : (q1 std R) .ret [(2, v2)] w = (
  R (.returned (v2)) w) := R2_eq std v2 w R
theorem E_eq (pr : Prims) (p_0 : Sl) (w : World) (R : Ending → World → Prop) : E pr p_0 w R = (
  L2 pr p_0 0 w (q1 pr R)) := by kernel_rfl
theorem E_s (p_0 : Sl) (w : World) (R : Ending → World → Prop) : E std p_0 w R = (
  L2 std p_0 0 w (q1 std R)) := E_eq std p_0 w R
theorem drawsOk : drawsOk PP cfg okD (codeOf Try.f25) = true := by kernel_rfl
theorem calls (p_0 : Sl) {w : World} {R : Ending → World → Prop} (h : E std p_0 w R) : Calls PP F.spec_IsPerm #[Sl.v p_0] w R :=
  calls_of noCount mixed drawOk Try.func25 rfl (c := cfg) (args := [Sl.v p_0]) rfl (Nat.le_of_ble_eq_true (by kernel_rfl)) drawsOk h
end spec_IsPerm

namespace spec_l2Has
@[reducible] def cfg : Cfg := ⟨18, [(2, [0, 1, 5])], [(1, [0, 1, 5]), (0, [])], [], [4], [], [62, 10, 22, 58, 24, 44, 18, 70, 43, 85, 25, 71, 59, 37, 63], [82, 113, 102, 38, 103, 26, 60]⟩
def q0 (pr : Prims) (R : Ending → World → Prop) : Exit → Env → World → Prop := fun ex e w => normQ ex (fun e w => contE pr cfg (sub (codeOf Try.f59) [1, 1]) (fun e w => wpC pr PP cfg (DD pr) (sub (codeOf Try.f59) [1, 1]) (retQ Try.f59.results.toList R) e w) e w) (retQ Try.f59.results.toList R) e w
def q1 (pr : Prims) (R : Ending → World → Prop) : Exit → Env → World → Prop := fun ex e w => blockQ ex 0 (q0 pr R) e w
def emb2 (list_0 : Sl) (n_1 : Int) (k_5 : Int) : Env := [(0, Sl.v list_0), (1, vI n_1), (5, vI k_5)]
def x0 : Env := []
def S2 (pr : Prims) (Q : Exit → Env → World → Prop) : (Env → World → Prop) → Env → World → Prop := fun k e w => wpC pr PP cfg (DD pr) (sub (codeOf Try.f59) [1, 0, 1, 0, 0]) (fun ex e w => normQ ex (fun e' w' => k (Env.restr e' (lookN cfg.loops (keyOf (sub (codeOf Try.f59) [1, 0, 1, 0, 0])))) w') Q e w) e w
def B2 (pr : Prims) (list_0 : Sl) (n_1 : Int) (k_5 : Int) (w : World) (k : Env → World → Prop) (Q : Exit → Env → World → Prop) : Prop :=
  S2 pr Q k (emb2 list_0 n_1 k_5) w
def L2 (pr : Prims) (list_0 : Sl) (n_1 : Int) (k_5 : Int) (w : World) (Q : Exit → Env → World → Prop) : Prop :=
  pr.loop (S2 pr Q) (emb2 list_0 n_1 k_5) w
def E (pr : Prims) (list_0 : Sl) (n_1 : Int) (w : World) (R : Ending → World → Prop) : Prop :=
  wpC pr PP cfg (DD pr) (codeOf Try.f59) (retQ Try.f59.results.toList R) (argE 0 [Sl.v list_0, vI n_1]) w
theorem B2_eq (pr : Prims) (list_0 : Sl) (n_1 : Int) (k_5 : Int) (w : World) (k : Env → World → Prop) (Q : Exit → Env → World → Prop) : B2 pr list_0 n_1 k_5 w k Q = (
  bif decide (k_5 < (list_0.n : Int)) then (
  pr.idxK 1 list_0 k_5 fun (a2 : Addr) =>
  pr.load1 (.int .i64) a2 w fun (ξ3 : Int) =>
  bif ξ3 == n_1 then (
  Q .ret [(4, .bool true)] w)
  else (
  k (emb2 list_0 n_1 (w64 (k_5 + 1))) w))
  else (
  Q (.exit 0) (x0) w)) := by kernel_rfl
theorem B2_s (list_0 : Sl) (n_1 : Int) (k_5 : Int) (w : World) (k : Env → World → Prop) (Q : Exit → Env → World → Prop) : B2 std list_0 n_1 k_5 w k Q = (
  bif decide (k_5 < (list_0.n : Int)) then (
  idxK 1 list_0 k_5 fun (a2 : Addr) =>
  load1 (.int .i64) a2 w fun (ξ3 : Int) =>
  bif ξ3 == n_1 then (
  Q .ret [(4, .bool true)] w)
  else (
  k (emb2 list_0 n_1 (w64 (k_5 + 1))) w))
  else (
  Q (.exit 0) (x0) w)) := B2_eq std list_0 n_1 k_5 w k Q
theorem L2_rule (list_0 : Sl) (n_1 : Int) (k_5 : Int) (w : World) (Q : Exit → Env → World → Prop) (I : Int → World → Prop) (μ : Int → World → Nat) (h0 : I k_5 w)
    (h : ∀ (k_5 : Int) (w' : World), I k_5 w' → B2 std list_0 n_1 k_5 w' (fun e2 w2 => ∃ k_5_n, e2 = emb2 list_0 n_1 k_5_n ∧ I k_5_n w2 ∧ μ k_5_n w2 < μ k_5 w') Q) :
    L2 std list_0 n_1 k_5 w Q := by
  unfold L2
  refine LoopE.intro (σ := Int) (step := S2 std Q) (fun s => emb2 list_0 n_1 s) (fun s w => I s w) (fun s w => μ s w) k_5 rfl h0 ?_
  intro s w' hI
  have h1 := h s w' hI
  unfold B2 at h1
  exact h1
theorem A2_0_eq (pr : Prims) (w : World) (R : Ending → World → Prop) : (q1 pr R) (.exit 0) (x0) w = (
  R (.returned (.bool false)) w) := by kernel_rfl
theorem A2_0_s (w : World) (R : Ending → World → Prop) : (q1 std R) (.exit 0) (x0) w = (
  R (.returned (.bool false)) w) := A2_0_eq std w R
theorem R2_eq (pr : Prims) (v4 : Value) (w : World) (R : Ending → World → Prop) : (q1 pr R) .ret [(4, v4)] w = (
  R (.returned (v4)) w) := by kernel_rfl
theorem R2_s (v4 : Value) (w : World) (R : Ending → World → Prop) : (q1 std R) .ret [(4, v4)] w = (
  R (.returned (v4)) w) := R2_eq std v4 w R
theorem E_eq (pr : Prims) (list_0 : Sl) (n_1 : Int) (w : World) (R : Ending → World → Prop) : E pr list_0 n_1 w R = (
  L2 pr list_0 n_1 0 w (q1 pr R)) := by kernel_rfl
theorem E_s (list_0 : Sl) (n_1 : Int) (w : World) (R : Ending → World → Prop) : E std list_0 n_1 w R = (
  L2 std list_0 n_1 0 w (q1 std R)) := E_eq std list_0 n_1 w R
theorem drawsOk : drawsOk PP cfg okD (codeOf Try.f59) = true := by kernel_rfl
theorem calls (list_0 : Sl) (n_1 : Int) {w : World} {R : Ending → World → Prop} (h : E std list_0 n_1 w R) : Calls PP F.spec_l2Has #[Sl.v list_0, vI n_1] w R :=
  calls_of noCount mixed drawOk Try.func59 rfl (c := cfg) (args := [Sl.v list_0, vI n_1]) rfl (Nat.le_of_ble_eq_true (by kernel_rfl)) drawsOk h
end spec_l2Has

namespace laws_toIntS
@[reducible] def cfg : Cfg := ⟨22, [(3, [0, 3, 4])], [(1, [0, 3, 4]), (0, [3])], [], [2], [], [62, 10, 22, 58, 24, 44, 18, 70, 43, 85, 25, 71, 59, 37, 63], [82, 113, 102, 38, 103, 26, 60]⟩
def q2 (pr : Prims) (R : Ending → World → Prop) : Exit → Env → World → Prop := fun ex e w => normQ ex (fun e w => contE pr cfg (sub (codeOf Try.f8) [1, 1, 1]) (fun e w => wpC pr PP cfg (DD pr) (sub (codeOf Try.f8) [1, 1, 1]) (retQ Try.f8.results.toList R) e w) e w) (retQ Try.f8.results.toList R) e w
def q3 (pr : Prims) (R : Ending → World → Prop) : Exit → Env → World → Prop := fun ex e w => blockQ ex 0 (q2 pr R) e w
def emb3 (a_0 : Sl) (out_3 : Sl) (i_4 : Int) : Env := [(0, Sl.v a_0), (3, Sl.v out_3), (4, vI i_4)]
def x0 (out_3 : Sl) : Env := [(3, Sl.v out_3)]
def S3 (pr : Prims) (Q : Exit → Env → World → Prop) : (Env → World → Prop) → Env → World → Prop := fun k e w => wpC pr PP cfg (DD pr) (sub (codeOf Try.f8) [1, 1, 0, 1, 0, 0]) (fun ex e w => normQ ex (fun e' w' => k (Env.restr e' (lookN cfg.loops (keyOf (sub (codeOf Try.f8) [1, 1, 0, 1, 0, 0])))) w') Q e w) e w
def B3 (pr : Prims) (a_0 : Sl) (out_3 : Sl) (i_4 : Int) (w : World) (k : Env → World → Prop) (Q : Exit → Env → World → Prop) : Prop :=
  S3 pr Q k (emb3 a_0 out_3 i_4) w
def L3 (pr : Prims) (a_0 : Sl) (out_3 : Sl) (i_4 : Int) (w : World) (Q : Exit → Env → World → Prop) : Prop :=
  pr.loop (S3 pr Q) (emb3 a_0 out_3 i_4) w
def E (pr : Prims) (a_0 : Sl) (w : World) (R : Ending → World → Prop) : Prop :=
  wpC pr PP cfg (DD pr) (codeOf Try.f8) (retQ Try.f8.results.toList R) (argE 0 [Sl.v a_0]) w
theorem B3_eq (pr : Prims) (a_0 : Sl) (out_3 : Sl) (i_4 : Int) (w : World) (k : Env → World → Prop) (Q : Exit → Env → World → Prop) : B3 pr a_0 out_3 i_4 w k Q = (
  bif decide (i_4 < (a_0.n : Int)) then (
  pr.idxK 1 a_0 i_4 fun (a4 : Addr) =>
  pr.load1 (.int .i64) a4 w fun (ξ5 : Int) =>
  pr.idxK 1 out_3 i_4 fun (a6 : Addr) =>
  pr.storeC a6 (vI ξ5) w fun ω7 =>
  k (emb3 a_0 out_3 (w64 (i_4 + 1))) ω7)
  else (
  Q (.exit 0) (x0 out_3) w)) := by kernel_rfl
theorem B3_s (a_0 : Sl) (out_3 : Sl) (i_4 : Int) (w : World) (k : Env → World → Prop) (Q : Exit → Env → World → Prop) : B3 std a_0 out_3 i_4 w k Q = (
  bif decide (i_4 < (a_0.n : Int)) then (
  idxK 1 a_0 i_4 fun (a4 : Addr) =>
  load1 (.int .i64) a4 w fun (ξ5 : Int) =>
  idxK 1 out_3 i_4 fun (a6 : Addr) =>
  storeC a6 (vI ξ5) w fun ω7 =>
  k (emb3 a_0 out_3 (w64 (i_4 + 1))) ω7)
  else (
  Q (.exit 0) (x0 out_3) w)) := B3_eq std a_0 out_3 i_4 w k Q
theorem L3_rule (a_0 : Sl) (out_3 : Sl) (i_4 : Int) (w : World) (Q : Exit → Env → World → Prop) (I : Int → World → Prop) (μ : Int → World → Nat) (h0 : I i_4 w)
    (h : ∀ (i_4 : Int) (w' : World), I i_4 w' → B3 std a_0 out_3 i_4 w' (fun e2 w2 => ∃ i_4_n, e2 = emb3 a_0 out_3 i_4_n ∧ I i_4_n w2 ∧ μ i_4_n w2 < μ i_4 w') Q) :
    L3 std a_0 out_3 i_4 w Q := by
  unfold L3
  refine LoopE.intro (σ := Int) (step := S3 std Q) (fun s => emb3 a_0 out_3 s) (fun s w => I s w) (fun s w => μ s w) i_4 rfl h0 ?_
  intro s w' hI
  have h1 := h s w' hI
  unfold B3 at h1
  exact h1
theorem A3_0_eq (pr : Prims) (out_3 : Sl) (w : World) (R : Ending → World → Prop) : (q3 pr R) (.exit 0) (x0 out_3) w = (
  R (.returned (Sl.v out_3)) w) := by kernel_rfl
theorem A3_0_s (out_3 : Sl) (w : World) (R : Ending → World → Prop) : (q3 std R) (.exit 0) (x0 out_3) w = (
  R (.returned (Sl.v out_3)) w) := A3_0_eq std out_3 w R
theorem E_eq (pr : Prims) (a_0 : Sl) (w : World) (R : Ending → World → Prop) : E pr a_0 w R = (
  pr.sem1 .sl PP (Instr.makeSlice T_Sint (vI (a_0.n : Int)) (vI (a_0.n : Int))) w fun (ρ0 : Sl) ω1 =>
  L3 pr a_0 ρ0 0 ω1 (q3 pr R)) := by kernel_rfl
theorem E_s (a_0 : Sl) (w : World) (R : Ending → World → Prop) : E std a_0 w R = (
  sem1 .sl PP (Instr.makeSlice T_Sint (vI (a_0.n : Int)) (vI (a_0.n : Int))) w fun (ρ0 : Sl) ω1 =>
  L3 std a_0 ρ0 0 ω1 (q3 std R)) := E_eq std a_0 w R
theorem drawsOk : drawsOk PP cfg okD (codeOf Try.f8) = true := by kernel_rfl
theorem calls (a_0 : Sl) {w : World} {R : Ending → World → Prop} (h : E std a_0 w R) : Calls PP F.laws_toIntS #[Sl.v a_0] w R :=
  calls_of noCount mixed drawOk Try.func8 rfl (c := cfg) (args := [Sl.v a_0]) rfl (Nat.le_of_ble_eq_true (by kernel_rfl)) drawsOk h
end laws_toIntS

namespace laws_eqIntS
@[reducible] def cfg : Cfg := ⟨26, [(4, [0, 1, 5])], [(1, [0, 1, 5]), (0, [])], [], [4], [6], [62, 10, 22, 58, 24, 44, 18, 70, 43, 85, 25, 71, 59, 37, 63], [82, 113, 102, 38, 103, 26, 60]⟩
def q0 (pr : Prims) (R : Ending → World → Prop) : Exit → Env → World → Prop := fun ex e w => normQ ex (fun e w => contE pr cfg (sub (codeOf Try.f10) [1, 1, 1]) (fun e w => wpC pr PP cfg (DD pr) (sub (codeOf Try.f10) [1, 1, 1]) (retQ Try.f10.results.toList R) e w) e w) (retQ Try.f10.results.toList R) e w
def q1 (pr : Prims) (R : Ending → World → Prop) : Exit → Env → World → Prop := fun ex e w => blockQ ex 0 (q0 pr R) e w
def emb4 (a_0 : Sl) (b_1 : Sl) (i_5 : Int) : Env := [(0, Sl.v a_0), (1, Sl.v b_1), (5, vI i_5)]
def x0 : Env := []
def S4 (pr : Prims) (Q : Exit → Env → World → Prop) : (Env → World → Prop) → Env → World → Prop := fun k e w => wpC pr PP cfg (DD pr) (sub (codeOf Try.f10) [1, 1, 0, 1, 0, 0]) (fun ex e w => normQ ex (fun e' w' => k (Env.restr e' (lookN cfg.loops (keyOf (sub (codeOf Try.f10) [1, 1, 0, 1, 0, 0])))) w') Q e w) e w
def B4 (pr : Prims) (a_0 : Sl) (b_1 : Sl) (i_5 : Int) (w : World) (k : Env → World → Prop) (Q : Exit → Env → World → Prop) : Prop :=
  S4 pr Q k (emb4 a_0 b_1 i_5) w
def L4 (pr : Prims) (a_0 : Sl) (b_1 : Sl) (i_5 : Int) (w : World) (Q : Exit → Env → World → Prop) : Prop :=
  pr.loop (S4 pr Q) (emb4 a_0 b_1 i_5) w
def E (pr : Prims) (a_0 : Sl) (b_1 : Sl) (w : World) (R : Ending → World → Prop) : Prop :=
  wpC pr PP cfg (DD pr) (codeOf Try.f10) (retQ Try.f10.results.toList R) (argE 0 [Sl.v a_0, Sl.v b_1]) w
theorem B4_eq (pr : Prims) (a_0 : Sl) (b_1 : Sl) (i_5 : Int) (w : World) (k : Env → World → Prop) (Q : Exit → Env → World → Prop) : B4 pr a_0 b_1 i_5 w k Q = (
  bif decide (i_5 < (a_0.n : Int)) then (
  pr.idxK 1 a_0 i_5 fun (a2 : Addr) =>
  pr.load1 (.int .i64) a2 w fun (ξ3 : Int) =>
  pr.idxK 1 b_1 i_5 fun (a4 : Addr) =>
  pr.load1 (.int .i64) a4 w fun (ξ5 : Int) =>
  pr.drewAll w fun ω6 =>
  bif ξ3 != ξ5 then (
  Q .ret [(4, .bool false)] ω6)
  else (
  k (emb4 a_0 b_1 (w64 (i_5 + 1))) ω6))
  else (
  Q (.exit 0) (x0) w)) := by kernel_rfl
theorem B4_s (a_0 : Sl) (b_1 : Sl) (i_5 : Int) (w : World) (k : Env → World → Prop) (Q : Exit → Env → World → Prop) : B4 std a_0 b_1 i_5 w k Q = (
  bif decide (i_5 < (a_0.n : Int)) then (
  idxK 1 a_0 i_5 fun (a2 : Addr) =>
  load1 (.int .i64) a2 w fun (ξ3 : Int) =>
  idxK 1 b_1 i_5 fun (a4 : Addr) =>
  load1 (.int .i64) a4 w fun (ξ5 : Int) =>
  drewAll w fun ω6 =>
  bif ξ3 != ξ5 then (
  Q .ret [(4, .bool false)] ω6)
  else (
  k (emb4 a_0 b_1 (w64 (i_5 + 1))) ω6))
  else (
  Q (.exit 0) (x0) w)) := B4_eq std a_0 b_1 i_5 w k Q
theorem L4_rule (a_0 : Sl) (b_1 : Sl) (i_5 : Int) (w : World) (Q : Exit → Env → World → Prop) (I : Int → World → Prop) (μ : Int → World → Nat) (h0 : I i_5 w)
    (h : ∀ (i_5 : Int) (w' : World), I i_5 w' → B4 std a_0 b_1 i_5 w' (fun e2 w2 => ∃ i_5_n, e2 = emb4 a_0 b_1 i_5_n ∧ I i_5_n w2 ∧ μ i_5_n w2 < μ i_5 w') Q) :
    L4 std a_0 b_1 i_5 w Q := by
  unfold L4
  refine LoopE.intro (σ := Int) (step := S4 std Q) (fun s => emb4 a_0 b_1 s) (fun s w => I s w) (fun s w => μ s w) i_5 rfl h0 ?_
  intro s w' hI
  have h1 := h s w' hI
  unfold B4 at h1
  exact h1
theorem A4_0_eq (pr : Prims) (w : World) (R : Ending → World → Prop) : (q1 pr R) (.exit 0) (x0) w = (
  R (.returned (.bool true)) w) := by kernel_rfl
theorem A4_0_s (w : World) (R : Ending → World → Prop) : (q1 std R) (.exit 0) (x0) w = (
  R (.returned (.bool true)) w) := A4_0_eq std w R
theorem R4_eq (pr : Prims) (v4 : Value) (w : World) (R : Ending → World → Prop) : (q1 pr R) .ret [(4, v4)] w = (
  R (.returned (v4)) w) := by kernel_rfl
theorem R4_s (v4 : Value) (w : World) (R : Ending → World → Prop) : (q1 std R) .ret [(4, v4)] w = (
  R (.returned (v4)) w) := R4_eq std v4 w R
theorem E_eq (pr : Prims) (a_0 : Sl) (b_1 : Sl) (w : World) (R : Ending → World → Prop) : E pr a_0 b_1 w R = (
  bif (a_0.n : Int) != (b_1.n : Int) then (
  R (.returned (.bool false)) w)
  else (
  L4 pr a_0 b_1 0 w (q1 pr R))) := by kernel_rfl
theorem E_s (a_0 : Sl) (b_1 : Sl) (w : World) (R : Ending → World → Prop) : E std a_0 b_1 w R = (
  bif (a_0.n : Int) != (b_1.n : Int) then (
  R (.returned (.bool false)) w)
  else (
  L4 std a_0 b_1 0 w (q1 std R))) := E_eq std a_0 b_1 w R
theorem drawsOk : drawsOk PP cfg okD (codeOf Try.f10) = true := by kernel_rfl
theorem calls (a_0 : Sl) (b_1 : Sl) {w : World} {R : Ending → World → Prop} (h : E std a_0 b_1 w R) : Calls PP F.laws_eqIntS #[Sl.v a_0, Sl.v b_1] w R :=
  calls_of noCount mixed drawOk Try.func10 rfl (c := cfg) (args := [Sl.v a_0, Sl.v b_1]) rfl (Nat.le_of_ble_eq_true (by kernel_rfl)) drawsOk h
end laws_eqIntS

namespace laws_markIntS
@[reducible] def cfg : Cfg := ⟨19, [(2, [0, 1, 5])], [(1, [0, 1, 5]), (0, [1])], [], [4], [], [62, 10, 22, 58, 24, 44, 18, 70, 43, 85, 25, 71, 59, 37, 63], [82, 113, 102, 38, 103, 26, 60]⟩
def q0 (pr : Prims) (R : Ending → World → Prop) : Exit → Env → World → Prop := fun ex e w => normQ ex (fun e w => contE pr cfg (sub (codeOf Try.f57) [1, 1]) (fun e w => wpC pr PP cfg (DD pr) (sub (codeOf Try.f57) [1, 1]) (retQ Try.f57.results.toList R) e w) e w) (retQ Try.f57.results.toList R) e w
def q1 (pr : Prims) (R : Ending → World → Prop) : Exit → Env → World → Prop := fun ex e w => blockQ ex 0 (q0 pr R) e w
def emb2 (a_0 : Sl) (k_1 : Int) (i_5 : Int) : Env := [(0, Sl.v a_0), (1, vI k_1), (5, vI i_5)]
def x0 (k_1 : Int) : Env := [(1, vI k_1)]
def S2 (pr : Prims) (Q : Exit → Env → World → Prop) : (Env → World → Prop) → Env → World → Prop := fun k e w => wpC pr PP cfg (DD pr) (sub (codeOf Try.f57) [1, 0, 1, 0, 0]) (fun ex e w => normQ ex (fun e' w' => k (Env.restr e' (lookN cfg.loops (keyOf (sub (codeOf Try.f57) [1, 0, 1, 0, 0])))) w') Q e w) e w
def B2 (pr : Prims) (a_0 : Sl) (k_1 : Int) (i_5 : Int) (w : World) (k : Env → World → Prop) (Q : Exit → Env → World → Prop) : Prop :=
  S2 pr Q k (emb2 a_0 k_1 i_5) w
def L2 (pr : Prims) (a_0 : Sl) (k_1 : Int) (i_5 : Int) (w : World) (Q : Exit → Env → World → Prop) : Prop :=
  pr.loop (S2 pr Q) (emb2 a_0 k_1 i_5) w
def E (pr : Prims) (a_0 : Sl) (k_1 : Int) (w : World) (R : Ending → World → Prop) : Prop :=
  wpC pr PP cfg (DD pr) (codeOf Try.f57) (retQ Try.f57.results.toList R) (argE 0 [Sl.v a_0, vI k_1]) w
theorem B2_eq (pr : Prims) (a_0 : Sl) (k_1 : Int) (i_5 : Int) (w : World) (k : Env → World → Prop) (Q : Exit → Env → World → Prop) : B2 pr a_0 k_1 i_5 w k Q = (
  bif decide (i_5 < (a_0.n : Int)) then (
  pr.idxK 1 a_0 i_5 fun (a2 : Addr) =>
  pr.storeC a2 (vI k_1) w fun ω3 =>
  k (emb2 a_0 (w64 (k_1 + 1)) (w64 (i_5 + 1))) ω3)
  else (
  Q (.exit 0) (x0 k_1) w)) := by kernel_rfl
theorem B2_s (a_0 : Sl) (k_1 : Int) (i_5 : Int) (w : World) (k : Env → World → Prop) (Q : Exit → Env → World → Prop) : B2 std a_0 k_1 i_5 w k Q = (
  bif decide (i_5 < (a_0.n : Int)) then (
  idxK 1 a_0 i_5 fun (a2 : Addr) =>
  storeC a2 (vI k_1) w fun ω3 =>
  k (emb2 a_0 (w64 (k_1 + 1)) (w64 (i_5 + 1))) ω3)
  else (
  Q (.exit 0) (x0 k_1) w)) := B2_eq std a_0 k_1 i_5 w k Q
theorem L2_rule (a_0 : Sl) (k_1 : Int) (i_5 : Int) (w : World) (Q : Exit → Env → World → Prop) (I : Int → Int → World → Prop) (μ : Int → Int → World → Nat) (h0 : I k_1 i_5 w)
    (h : ∀ (k_1 : Int) (i_5 : Int) (w' : World), I k_1 i_5 w' → B2 std a_0 k_1 i_5 w' (fun e2 w2 => ∃ k_1_n i_5_n, e2 = emb2 a_0 k_1_n i_5_n ∧ I k_1_n i_5_n w2 ∧ μ k_1_n i_5_n w2 < μ k_1 i_5 w') Q) :
    L2 std a_0 k_1 i_5 w Q := by
  unfold L2
  refine LoopE.intro (σ := Int × Int) (step := S2 std Q) (fun s => emb2 a_0 s.1 s.2) (fun s w => I s.1 s.2 w) (fun s w => μ s.1 s.2 w) (k_1, i_5) rfl h0 ?_
  intro s w' hI
  have h1 := h s.1 s.2 w' hI
  unfold B2 at h1
  simp only [Prod.exists]
  exact h1
theorem A2_0_eq (pr : Prims) (k_1 : Int) (w : World) (R : Ending → World → Prop) : (q1 pr R) (.exit 0) (x0 k_1) w = (
  R (.returned (vI k_1)) w) := by kernel_rfl
theorem A2_0_s (k_1 : Int) (w : World) (R : Ending → World → Prop) : (q1 std R) (.exit 0) (x0 k_1) w = (
  R (.returned (vI k_1)) w) := A2_0_eq std k_1 w R
theorem E_eq (pr : Prims) (a_0 : Sl) (k_1 : Int) (w : World) (R : Ending → World → Prop) : E pr a_0 k_1 w R = (
  L2 pr a_0 k_1 0 w (q1 pr R)) := by kernel_rfl
theorem E_s (a_0 : Sl) (k_1 : Int) (w : World) (R : Ending → World → Prop) : E std a_0 k_1 w R = (
  L2 std a_0 k_1 0 w (q1 std R)) := E_eq std a_0 k_1 w R
theorem drawsOk : drawsOk PP cfg okD (codeOf Try.f57) = true := by kernel_rfl
theorem calls (a_0 : Sl) (k_1 : Int) {w : World} {R : Ending → World → Prop} (h : E std a_0 k_1 w R) : Calls PP F.laws_markIntS #[Sl.v a_0, vI k_1] w R :=
  calls_of noCount mixed drawOk Try.func57 rfl (c := cfg) (args := [Sl.v a_0, vI k_1]) rfl (Nat.le_of_ble_eq_true (by kernel_rfl)) drawsOk h
end laws_markIntS

namespace laws_heldIntS
@[reducible] def cfg : Cfg := ⟨21, [(2, [0, 1, 5])], [(1, [0, 1, 5]), (0, [1])], [], [4], [], [62, 10, 22, 58, 24, 44, 18, 70, 43, 85, 25, 71, 59, 37, 63], [82, 113, 102, 38, 103, 26, 60]⟩
def q0 (pr : Prims) (R : Ending → World → Prop) : Exit → Env → World → Prop := fun ex e w => normQ ex (fun e w => contE pr cfg (sub (codeOf Try.f58) [1, 1]) (fun e w => wpC pr PP cfg (DD pr) (sub (codeOf Try.f58) [1, 1]) (retQ Try.f58.results.toList R) e w) e w) (retQ Try.f58.results.toList R) e w
def q1 (pr : Prims) (R : Ending → World → Prop) : Exit → Env → World → Prop := fun ex e w => blockQ ex 0 (q0 pr R) e w
def emb2 (a_0 : Sl) (k_1 : Int) (i_5 : Int) : Env := [(0, Sl.v a_0), (1, vI k_1), (5, vI i_5)]
def x0 (k_1 : Int) : Env := [(1, vI k_1)]
def S2 (pr : Prims) (Q : Exit → Env → World → Prop) : (Env → World → Prop) → Env → World → Prop := fun k e w => wpC pr PP cfg (DD pr) (sub (codeOf Try.f58) [1, 0, 1, 0, 0]) (fun ex e w => normQ ex (fun e' w' => k (Env.restr e' (lookN cfg.loops (keyOf (sub (codeOf Try.f58) [1, 0, 1, 0, 0])))) w') Q e w) e w
def B2 (pr : Prims) (a_0 : Sl) (k_1 : Int) (i_5 : Int) (w : World) (k : Env → World → Prop) (Q : Exit → Env → World → Prop) : Prop :=
  S2 pr Q k (emb2 a_0 k_1 i_5) w
def L2 (pr : Prims) (a_0 : Sl) (k_1 : Int) (i_5 : Int) (w : World) (Q : Exit → Env → World → Prop) : Prop :=
  pr.loop (S2 pr Q) (emb2 a_0 k_1 i_5) w
def E (pr : Prims) (a_0 : Sl) (k_1 : Int) (w : World) (R : Ending → World → Prop) : Prop :=
  wpC pr PP cfg (DD pr) (codeOf Try.f58) (retQ Try.f58.results.toList R) (argE 0 [Sl.v a_0, vI k_1]) w
theorem B2_eq (pr : Prims) (a_0 : Sl) (k_1 : Int) (i_5 : Int) (w : World) (k : Env → World → Prop) (Q : Exit → Env → World → Prop) : B2 pr a_0 k_1 i_5 w k Q = (
  bif decide (i_5 < (a_0.n : Int)) then (
  pr.idxK 1 a_0 i_5 fun (a2 : Addr) =>
  pr.load1 (.int .i64) a2 w fun (ξ3 : Int) =>
  bif ξ3 != k_1 then (
  Q .ret [(4, vI (-1))] w)
  else (
  k (emb2 a_0 (w64 (k_1 + 1)) (w64 (i_5 + 1))) w))
  else (
  Q (.exit 0) (x0 k_1) w)) := by kernel_rfl
theorem B2_s (a_0 : Sl) (k_1 : Int) (i_5 : Int) (w : World) (k : Env → World → Prop) (Q : Exit → Env → World → Prop) : B2 std a_0 k_1 i_5 w k Q = (
  bif decide (i_5 < (a_0.n : Int)) then (
  idxK 1 a_0 i_5 fun (a2 : Addr) =>
  load1 (.int .i64) a2 w fun (ξ3 : Int) =>
  bif ξ3 != k_1 then (
  Q .ret [(4, vI (-1))] w)
  else (
  k (emb2 a_0 (w64 (k_1 + 1)) (w64 (i_5 + 1))) w))
  else (
  Q (.exit 0) (x0 k_1) w)) := B2_eq std a_0 k_1 i_5 w k Q
theorem L2_rule (a_0 : Sl) (k_1 : Int) (i_5 : Int) (w : World) (Q : Exit → Env → World → Prop) (I : Int → Int → World → Prop) (μ : Int → Int → World → Nat) (h0 : I k_1 i_5 w)
    (h : ∀ (k_1 : Int) (i_5 : Int) (w' : World), I k_1 i_5 w' → B2 std a_0 k_1 i_5 w' (fun e2 w2 => ∃ k_1_n i_5_n, e2 = emb2 a_0 k_1_n i_5_n ∧ I k_1_n i_5_n w2 ∧ μ k_1_n i_5_n w2 < μ k_1 i_5 w') Q) :
    L2 std a_0 k_1 i_5 w Q := by
  unfold L2
  refine LoopE.intro (σ := Int × Int) (step := S2 std Q) (fun s => emb2 a_0 s.1 s.2) (fun s w => I s.1 s.2 w) (fun s w => μ s.1 s.2 w) (k_1, i_5) rfl h0 ?_
  intro s w' hI
  have h1 := h s.1 s.2 w' hI
  unfold B2 at h1
  simp only [Prod.exists]
  exact h1
theorem A2_0_eq (pr : Prims) (k_1 : Int) (w : World) (R : Ending → World → Prop) : (q1 pr R) (.exit 0) (x0 k_1) w = (
  R (.returned (vI k_1)) w) := by kernel_rfl
theorem A2_0_s (k_1 : Int) (w : World) (R : Ending → World → Prop) : (q1 std R) (.exit 0) (x0 k_1) w = (
  R (.returned (vI k_1)) w) := A2_0_eq std k_1 w R
theorem R2_eq (pr : Prims) (v4 : Value) (w : World) (R : Ending → World → Prop) : (q1 pr R) .ret [(4, v4)] w = (
  R (.returned (v4)) w) := by kernel_rfl
theorem R2_s (v4 : Value) (w : World) (R : Ending → World → Prop) : (q1 std R) .ret [(4, v4)] w = (
  R (.returned (v4)) w) := R2_eq std v4 w R
theorem E_eq (pr : Prims) (a_0 : Sl) (k_1 : Int) (w : World) (R : Ending → World → Prop) : E pr a_0 k_1 w R = (
  L2 pr a_0 k_1 0 w (q1 pr R)) := by kernel_rfl
theorem E_s (a_0 : Sl) (k_1 : Int) (w : World) (R : Ending → World → Prop) : E std a_0 k_1 w R = (
  L2 std a_0 k_1 0 w (q1 std R)) := E_eq std a_0 k_1 w R
theorem drawsOk : drawsOk PP cfg okD (codeOf Try.f58) = true := by kernel_rfl
theorem calls (a_0 : Sl) (k_1 : Int) {w : World} {R : Ending → World → Prop} (h : E std a_0 k_1 w R) : Calls PP F.laws_heldIntS #[Sl.v a_0, vI k_1] w R :=
  calls_of noCount mixed drawOk Try.func58 rfl (c := cfg) (args := [Sl.v a_0, vI k_1]) rfl (Nat.le_of_ble_eq_true (by kernel_rfl)) drawsOk h
end laws_heldIntS

end Go.Proofs.Ytmhgjfahgemblaa
