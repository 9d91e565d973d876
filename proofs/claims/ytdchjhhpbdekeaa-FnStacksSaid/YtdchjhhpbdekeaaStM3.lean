/- The texts Code, L1, Law1, Perm, PermMath, FindMath, Find, Hp, CodeC, CodeEq, Eq in one (gmerge.py). -/
import Derived.Test.YtdchjhhpbdekeaaStM2
/- What each function does, step by step, written by a program (Gen.lean); each equation is checked by the kernel. -/
namespace Go.Proofs.Ytdchjhhpbdekeaa
open Go
set_option linter.unusedVariables false
set_option maxRecDepth 100000
namespace spec_l1In
@[reducible] def cfg : Cfg := ⟨15, [], [], [], [6], [], [101, 107, 112, 15, 21, 124, 76, 137, 28, 115, 91, 81, 130], [138, 140, 82, 6, 86, 85, 132]⟩
def E (pr : Prims) (x_0 : Int) (lo_1 : Int) (hi_2 : Int) (w : World) (R : Ending → World → Prop) : Prop :=
  wpC pr PP cfg (DD pr) (codeOf Try.f85) (retQ Try.f85.results.toList R) (argE 0 [vI x_0, vI lo_1, vI hi_2]) w
theorem E_eq (pr : Prims) (x_0 : Int) (lo_1 : Int) (hi_2 : Int) (w : World) (R : Ending → World → Prop) : E pr x_0 lo_1 hi_2 w R = (
  bif decide (x_0 ≥ lo_1) then (
  R (.returned (.bool (decide (x_0 ≤ hi_2)))) w)
  else (
  R (.returned (.bool false)) w)) := by kernel_rfl
theorem E_s (x_0 : Int) (lo_1 : Int) (hi_2 : Int) (w : World) (R : Ending → World → Prop) : E std x_0 lo_1 hi_2 w R = (
  bif decide (x_0 ≥ lo_1) then (
  R (.returned (.bool (decide (x_0 ≤ hi_2)))) w)
  else (
  R (.returned (.bool false)) w)) := E_eq std x_0 lo_1 hi_2 w R
theorem drawsOk : drawsOk PP cfg okD (codeOf Try.f85) = true := by kernel_rfl
theorem calls (x_0 : Int) (lo_1 : Int) (hi_2 : Int) {w : World} {R : Ending → World → Prop} (h : E std x_0 lo_1 hi_2 w R) : Calls PP F.spec_l1In #[vI x_0, vI lo_1, vI hi_2] w R :=
  calls_of noCount mixed drawOk Try.func85 rfl (c := cfg) (args := [vI x_0, vI lo_1, vI hi_2]) rfl (Nat.le_of_ble_eq_true (by kernel_rfl)) drawsOk h
end spec_l1In

namespace spec_l1Bit
@[reducible] def cfg : Cfg := ⟨4, [], [], [], [2], [], [101, 107, 112, 15, 21, 124, 76, 137, 28, 115, 91, 81, 130], [138, 140, 82, 6, 86, 85, 132]⟩
def E (pr : Prims) (on_0 : Bool) (w : World) (R : Ending → World → Prop) : Prop :=
  wpC pr PP cfg (DD pr) (codeOf Try.f86) (retQ Try.f86.results.toList R) (argE 0 [.bool on_0]) w
theorem E_eq (pr : Prims) (on_0 : Bool) (w : World) (R : Ending → World → Prop) : E pr on_0 w R = (
  bif on_0 then (
  R (.returned (vI 1)) w)
  else (
  R (.returned (vI 0)) w)) := by kernel_rfl
theorem E_s (on_0 : Bool) (w : World) (R : Ending → World → Prop) : E std on_0 w R = (
  bif on_0 then (
  R (.returned (vI 1)) w)
  else (
  R (.returned (vI 0)) w)) := E_eq std on_0 w R
theorem drawsOk : drawsOk PP cfg okD (codeOf Try.f86) = true := by kernel_rfl
theorem calls (on_0 : Bool) {w : World} {R : Ending → World → Prop} (h : E std on_0 w R) : Calls PP F.spec_l1Bit #[.bool on_0] w R :=
  calls_of noCount mixed drawOk Try.func86 rfl (c := cfg) (args := [.bool on_0]) rfl (Nat.le_of_ble_eq_true (by kernel_rfl)) drawsOk h
end spec_l1Bit

namespace impl_isPerm
@[reducible] def cfg : Cfg := ⟨34, [(3, [0, 3, 10, 11, 12])], [(1, [0, 3, 10, 11, 12]), (0, [])], [], [2], [], [101, 107, 112, 15, 21, 124, 76, 137, 28, 115, 91, 81, 130], [138, 140, 82, 6, 86, 85, 132]⟩
def q2 (pr : Prims) (R : Ending → World → Prop) : Exit → Env → World → Prop := fun ex e w => normQ ex (fun e w => contE pr cfg (sub (codeOf Try.f117) [1, 1, 1]) (fun e w => wpC pr PP cfg (DD pr) (sub (codeOf Try.f117) [1, 1, 1]) (retQ Try.f117.results.toList R) e w) e w) (retQ Try.f117.results.toList R) e w
def q3 (pr : Prims) (R : Ending → World → Prop) : Exit → Env → World → Prop := fun ex e w => blockQ ex 0 (q2 pr R) e w
def emb3 (p_0 : Sl) (seen_3 : Sl) (t10 : Sl) (t11 : Int) (t12 : Int) : Env := [(0, Sl.v p_0), (3, Sl.v seen_3), (10, Sl.v t10), (11, vI t11), (12, vI t12)]
def x0 : Env := []
def S3 (pr : Prims) (Q : Exit → Env → World → Prop) : (Env → World → Prop) → Env → World → Prop := fun k e w => wpC pr PP cfg (DD pr) (sub (codeOf Try.f117) [1, 1, 0, 1, 0, 0]) (fun ex e w => normQ ex (fun e' w' => k (Env.restr e' (lookN cfg.loops (keyOf (sub (codeOf Try.f117) [1, 1, 0, 1, 0, 0])))) w') Q e w) e w
def B3 (pr : Prims) (p_0 : Sl) (seen_3 : Sl) (t10 : Sl) (t11 : Int) (t12 : Int) (w : World) (k : Env → World → Prop) (Q : Exit → Env → World → Prop) : Prop :=
  S3 pr Q k (emb3 p_0 seen_3 t10 t11 t12) w
def L3 (pr : Prims) (p_0 : Sl) (seen_3 : Sl) (t10 : Sl) (t11 : Int) (t12 : Int) (w : World) (Q : Exit → Env → World → Prop) : Prop :=
  pr.loop (S3 pr Q) (emb3 p_0 seen_3 t10 t11 t12) w
def E (pr : Prims) (p_0 : Sl) (w : World) (R : Ending → World → Prop) : Prop :=
  wpC pr PP cfg (DD pr) (codeOf Try.f117) (retQ Try.f117.results.toList R) (argE 0 [Sl.v p_0]) w
theorem B3_eq (pr : Prims) (p_0 : Sl) (seen_3 : Sl) (t10 : Sl) (t11 : Int) (t12 : Int) (w : World) (k : Env → World → Prop) (Q : Exit → Env → World → Prop) : B3 pr p_0 seen_3 t10 t11 t12 w k Q = (
  bif decide (t12 < t11) then (
  pr.idxK 1 t10 t12 fun (a4 : Addr) =>
  pr.load1 (.int .i64) a4 w fun (ξ5 : Int) =>
  bif decide (ξ5 < 1) then (
  Q .ret [(2, .bool false)] w)
  else (
  bif decide (ξ5 > (p_0.n : Int)) then (
  Q .ret [(2, .bool false)] w)
  else (
  pr.idxK 1 seen_3 ξ5 fun (a6 : Addr) =>
  pr.load1 .bool a6 w fun (ξ7 : Bool) =>
  bif ξ7 then (
  Q .ret [(2, .bool false)] w)
  else (
  pr.idxK 1 seen_3 ξ5 fun (a8 : Addr) =>
  pr.storeC a8 (.bool true) w fun ω9 =>
  k (emb3 p_0 seen_3 t10 t11 (w64 (t12 + 1))) ω9))))
  else (
  Q (.exit 0) (x0) w)) := by kernel_rfl
theorem B3_s (p_0 : Sl) (seen_3 : Sl) (t10 : Sl) (t11 : Int) (t12 : Int) (w : World) (k : Env → World → Prop) (Q : Exit → Env → World → Prop) : B3 std p_0 seen_3 t10 t11 t12 w k Q = (
  bif decide (t12 < t11) then (
  idxK 1 t10 t12 fun (a4 : Addr) =>
  load1 (.int .i64) a4 w fun (ξ5 : Int) =>
  bif decide (ξ5 < 1) then (
  Q .ret [(2, .bool false)] w)
  else (
  bif decide (ξ5 > (p_0.n : Int)) then (
  Q .ret [(2, .bool false)] w)
  else (
  idxK 1 seen_3 ξ5 fun (a6 : Addr) =>
  load1 .bool a6 w fun (ξ7 : Bool) =>
  bif ξ7 then (
  Q .ret [(2, .bool false)] w)
  else (
  idxK 1 seen_3 ξ5 fun (a8 : Addr) =>
  storeC a8 (.bool true) w fun ω9 =>
  k (emb3 p_0 seen_3 t10 t11 (w64 (t12 + 1))) ω9))))
  else (
  Q (.exit 0) (x0) w)) := B3_eq std p_0 seen_3 t10 t11 t12 w k Q
theorem L3_rule (p_0 : Sl) (seen_3 : Sl) (t10 : Sl) (t11 : Int) (t12 : Int) (w : World) (Q : Exit → Env → World → Prop) (I : Int → World → Prop) (μ : Int → World → Nat) (h0 : I t12 w)
    (h : ∀ (t12 : Int) (w' : World), I t12 w' → B3 std p_0 seen_3 t10 t11 t12 w' (fun e2 w2 => ∃ t12_n, e2 = emb3 p_0 seen_3 t10 t11 t12_n ∧ I t12_n w2 ∧ μ t12_n w2 < μ t12 w') Q) :
    L3 std p_0 seen_3 t10 t11 t12 w Q := by
  unfold L3
  refine LoopE.intro (σ := Int) (step := S3 std Q) (fun s => emb3 p_0 seen_3 t10 t11 s) (fun s w => I s w) (fun s w => μ s w) t12 rfl h0 ?_
  intro s w' hI
  have h1 := h s w' hI
  unfold B3 at h1
  exact h1
theorem A3_0_eq (pr : Prims) (w : World) (R : Ending → World → Prop) : (q3 pr R) (.exit 0) (x0) w = (
  R (.returned (.bool true)) w) := by kernel_rfl
theorem A3_0_s (w : World) (R : Ending → World → Prop) : (q3 std R) (.exit 0) (x0) w = (
  R (.returned (.bool true)) w) := A3_0_eq std w R
theorem R3_eq (pr : Prims) (v2 : Value) (w : World) (R : Ending → World → Prop) : (q3 pr R) .ret [(2, v2)] w = (
  R (.returned (v2)) w) := by kernel_rfl
theorem R3_s (v2 : Value) (w : World) (R : Ending → World → Prop) : (q3 std R) .ret [(2, v2)] w = (
  R (.returned (v2)) w) := R3_eq std v2 w R
theorem E_eq (pr : Prims) (p_0 : Sl) (w : World) (R : Ending → World → Prop) : E pr p_0 w R = (
  pr.sem1 .sl PP (Instr.makeSlice T_Sbool (vI (w64 ((p_0.n : Int) + 1))) (vI (w64 ((p_0.n : Int) + 1)))) w fun (ρ0 : Sl) ω1 =>
  L3 pr p_0 ρ0 p_0 (p_0.n : Int) 0 ω1 (q3 pr R)) := by kernel_rfl
theorem E_s (p_0 : Sl) (w : World) (R : Ending → World → Prop) : E std p_0 w R = (
  sem1 .sl PP (Instr.makeSlice T_Sbool (vI (w64 ((p_0.n : Int) + 1))) (vI (w64 ((p_0.n : Int) + 1)))) w fun (ρ0 : Sl) ω1 =>
  L3 std p_0 ρ0 p_0 (p_0.n : Int) 0 ω1 (q3 std R)) := E_eq std p_0 w R
theorem drawsOk : drawsOk PP cfg okD (codeOf Try.f117) = true := by kernel_rfl
theorem calls (p_0 : Sl) {w : World} {R : Ending → World → Prop} (h : E std p_0 w R) : Calls PP F.impl_isPerm #[Sl.v p_0] w R :=
  calls_of noCount mixed drawOk Try.func117 rfl (c := cfg) (args := [Sl.v p_0]) rfl (Nat.le_of_ble_eq_true (by kernel_rfl)) drawsOk h
end impl_isPerm

namespace impl_IsPerm
@[reducible] def cfg : Cfg := ⟨10, [], [], [], [2], [], [101, 107, 112, 15, 21, 124, 76, 137, 28, 115, 91, 81, 130], [138, 140, 82, 6, 86, 85, 132]⟩
def E (pr : Prims) (p_0 : Sl) (w : World) (R : Ending → World → Prop) : Prop :=
  wpC pr PP cfg (DD pr) (codeOf Try.f67) (retQ Try.f67.results.toList R) (argE 0 [Sl.v p_0]) w
theorem E_eq (pr : Prims) (p_0 : Sl) (w : World) (R : Ending → World → Prop) : E pr p_0 w R = (
  bif decide ((p_0.n : Int) ≤ 8) then (
  pr.call1 .bool PP F.impl_isPerm #[Sl.v p_0] w fun (ρ0 : Bool) ω1 =>
  R (.returned (.bool ρ0)) ω1)
  else (
  R (.returned (.bool false)) w)) := by kernel_rfl
theorem E_s (p_0 : Sl) (w : World) (R : Ending → World → Prop) : E std p_0 w R = (
  bif decide ((p_0.n : Int) ≤ 8) then (
  call1 .bool PP F.impl_isPerm #[Sl.v p_0] w fun (ρ0 : Bool) ω1 =>
  R (.returned (.bool ρ0)) ω1)
  else (
  R (.returned (.bool false)) w)) := E_eq std p_0 w R
theorem drawsOk : drawsOk PP cfg okD (codeOf Try.f67) = true := by kernel_rfl
theorem calls (p_0 : Sl) {w : World} {R : Ending → World → Prop} (h : E std p_0 w R) : Calls PP F.impl_IsPerm #[Sl.v p_0] w R :=
  calls_of noCount mixed drawOk Try.func67 rfl (c := cfg) (args := [Sl.v p_0]) rfl (Nat.le_of_ble_eq_true (by kernel_rfl)) drawsOk h
end impl_IsPerm

namespace spec_IsPerm
@[reducible] def cfg : Cfg := ⟨36, [(2, [0, 3])], [(1, [0, 3]), (0, [0])], [], [2], [4], [101, 107, 112, 15, 21, 124, 76, 137, 28, 115, 91, 81, 130], [138, 140, 82, 6, 86, 85, 132]⟩
def q0 (pr : Prims) (R : Ending → World → Prop) : Exit → Env → World → Prop := fun ex e w => normQ ex (fun e w => contE pr cfg (sub (codeOf Try.f28) [1, 1]) (fun e w => wpC pr PP cfg (DD pr) (sub (codeOf Try.f28) [1, 1]) (retQ Try.f28.results.toList R) e w) e w) (retQ Try.f28.results.toList R) e w
def q1 (pr : Prims) (R : Ending → World → Prop) : Exit → Env → World → Prop := fun ex e w => blockQ ex 0 (q0 pr R) e w
def emb2 (p_0 : Sl) (k_3 : Int) : Env := [(0, Sl.v p_0), (3, vI k_3)]
def x0 (p_0 : Sl) : Env := [(0, Sl.v p_0)]
def S2 (pr : Prims) (Q : Exit → Env → World → Prop) : (Env → World → Prop) → Env → World → Prop := fun k e w => wpC pr PP cfg (DD pr) (sub (codeOf Try.f28) [1, 0, 1, 0, 0]) (fun ex e w => normQ ex (fun e' w' => k (Env.restr e' (lookN cfg.loops (keyOf (sub (codeOf Try.f28) [1, 0, 1, 0, 0])))) w') Q e w) e w
def B2 (pr : Prims) (p_0 : Sl) (k_3 : Int) (w : World) (k : Env → World → Prop) (Q : Exit → Env → World → Prop) : Prop :=
  S2 pr Q k (emb2 p_0 k_3) w
def L2 (pr : Prims) (p_0 : Sl) (k_3 : Int) (w : World) (Q : Exit → Env → World → Prop) : Prop :=
  pr.loop (S2 pr Q) (emb2 p_0 k_3) w
def E (pr : Prims) (p_0 : Sl) (w : World) (R : Ending → World → Prop) : Prop :=
  wpC pr PP cfg (DD pr) (codeOf Try.f28) (retQ Try.f28.results.toList R) (argE 0 [Sl.v p_0]) w
theorem B2_eq (pr : Prims) (p_0 : Sl) (k_3 : Int) (w : World) (k : Env → World → Prop) (Q : Exit → Env → World → Prop) : B2 pr p_0 k_3 w k Q = (
  bif decide (k_3 < (p_0.n : Int)) then (
  bif decide ((p_0.n : Int) ≤ 8) then (
  pr.idxK 1 p_0 k_3 fun (a2 : Addr) =>
  pr.load1 (.int .i64) a2 w fun (ξ3 : Int) =>
  pr.pcall1 .bool PP F.spec_l1In #[vI ξ3, vI 1, vI (p_0.n : Int)] fun (ρ4 : Bool) =>
  bif !ρ4 then (
  pr.drewAll w fun ω5 =>
  Q .ret [(2, .bool false)] ω5)
  else (
  pr.cutK 1 p_0 none (some k_3) fun (s6 : Sl) =>
  pr.idxK 1 p_0 k_3 fun (a7 : Addr) =>
  pr.load1 (.int .i64) a7 w fun (ξ8 : Int) =>
  pr.qcall1 .bool PP F.spec_l2Has #[Sl.v s6, vI ξ8] w fun (ρ9 : Bool) =>
  pr.drewAll w fun ω10 =>
  bif ρ9 then (
  Q .ret [(2, .bool false)] ω10)
  else (
  k (emb2 p_0 (w64 (k_3 + 1))) ω10)))
  else (
  Q (.exit 0) (x0 p_0) w))
  else (
  Q (.exit 0) (x0 p_0) w)) := by kernel_rfl
theorem B2_s (p_0 : Sl) (k_3 : Int) (w : World) (k : Env → World → Prop) (Q : Exit → Env → World → Prop) : B2 std p_0 k_3 w k Q = (
  bif decide (k_3 < (p_0.n : Int)) then (
  bif decide ((p_0.n : Int) ≤ 8) then (
  idxK 1 p_0 k_3 fun (a2 : Addr) =>
  load1 (.int .i64) a2 w fun (ξ3 : Int) =>
  pcall1 .bool PP F.spec_l1In #[vI ξ3, vI 1, vI (p_0.n : Int)] fun (ρ4 : Bool) =>
  bif !ρ4 then (
  drewAll w fun ω5 =>
  Q .ret [(2, .bool false)] ω5)
  else (
  cutK 1 p_0 none (some k_3) fun (s6 : Sl) =>
  idxK 1 p_0 k_3 fun (a7 : Addr) =>
  load1 (.int .i64) a7 w fun (ξ8 : Int) =>
  qcall1 .bool PP F.spec_l2Has #[Sl.v s6, vI ξ8] w fun (ρ9 : Bool) =>
  drewAll w fun ω10 =>
  bif ρ9 then (
  Q .ret [(2, .bool false)] ω10)
  else (
  k (emb2 p_0 (w64 (k_3 + 1))) ω10)))
  else (
  Q (.exit 0) (x0 p_0) w))
  else (
  Q (.exit 0) (x0 p_0) w)) := B2_eq std p_0 k_3 w k Q
theorem L2_rule (p_0 : Sl) (k_3 : Int) (w : World) (Q : Exit → Env → World → Prop) (I : Int → World → Prop) (μ : Int → World → Nat) (h0 : I k_3 w)
    (h : ∀ (k_3 : Int) (w' : World), I k_3 w' → B2 std p_0 k_3 w' (fun e2 w2 => ∃ k_3_n, e2 = emb2 p_0 k_3_n ∧ I k_3_n w2 ∧ μ k_3_n w2 < μ k_3 w') Q) :
    L2 std p_0 k_3 w Q := by
  unfold L2
  refine LoopE.intro (σ := Int) (step := S2 std Q) (fun s => emb2 p_0 s) (fun s w => I s w) (fun s w => μ s w) k_3 rfl h0 ?_
  intro s w' hI
  have h1 := h s w' hI
  unfold B2 at h1
  exact h1
theorem A2_0_eq (pr : Prims) (p_0 : Sl) (w : World) (R : Ending → World → Prop) : (q1 pr R) (.exit 0) (x0 p_0) w = (
  R (.returned (.bool (decide ((p_0.n : Int) ≤ 8)))) w) := by kernel_rfl
theorem A2_0_s (p_0 : Sl) (w : World) (R : Ending → World → Prop) : (q1 std R) (.exit 0) (x0 p_0) w = (
  R (.returned (.bool (decide ((p_0.n : Int) ≤ 8)))) w) := A2_0_eq std p_0 w R
theorem R2_eq (pr : Prims) (v2 : Value) (w : World) (R : Ending → World → Prop) : (q1 pr R) .ret [(2, v2)] w = (
  R (.returned (v2)) w) := by kernel_rfl
theorem R2_s (v2 : Value) (w : World) (R : Ending → World → Prop) : (q1 std R) .ret [(2, v2)] w = (
  R (.returned (v2)) w) := R2_eq std v2 w R
theorem E_eq (pr : Prims) (p_0 : Sl) (w : World) (R : Ending → World → Prop) : E pr p_0 w R = (
  L2 pr p_0 0 w (q1 pr R)) := by kernel_rfl
theorem E_s (p_0 : Sl) (w : World) (R : Ending → World → Prop) : E std p_0 w R = (
  L2 std p_0 0 w (q1 std R)) := E_eq std p_0 w R
theorem drawsOk : drawsOk PP cfg okD (codeOf Try.f28) = true := by kernel_rfl
theorem calls (p_0 : Sl) {w : World} {R : Ending → World → Prop} (h : E std p_0 w R) : Calls PP F.spec_IsPerm #[Sl.v p_0] w R :=
  calls_of noCount mixed drawOk Try.func28 rfl (c := cfg) (args := [Sl.v p_0]) rfl (Nat.le_of_ble_eq_true (by kernel_rfl)) drawsOk h
end spec_IsPerm

namespace spec_l2Has
@[reducible] def cfg : Cfg := ⟨18, [(2, [0, 1, 5])], [(1, [0, 1, 5]), (0, [])], [], [4], [], [101, 107, 112, 15, 21, 124, 76, 137, 28, 115, 91, 81, 130], [138, 140, 82, 6, 86, 85, 132]⟩
def q0 (pr : Prims) (R : Ending → World → Prop) : Exit → Env → World → Prop := fun ex e w => normQ ex (fun e w => contE pr cfg (sub (codeOf Try.f91) [1, 1]) (fun e w => wpC pr PP cfg (DD pr) (sub (codeOf Try.f91) [1, 1]) (retQ Try.f91.results.toList R) e w) e w) (retQ Try.f91.results.toList R) e w
def q1 (pr : Prims) (R : Ending → World → Prop) : Exit → Env → World → Prop := fun ex e w => blockQ ex 0 (q0 pr R) e w
def emb2 (list_0 : Sl) (n_1 : Int) (k_5 : Int) : Env := [(0, Sl.v list_0), (1, vI n_1), (5, vI k_5)]
def x0 : Env := []
def S2 (pr : Prims) (Q : Exit → Env → World → Prop) : (Env → World → Prop) → Env → World → Prop := fun k e w => wpC pr PP cfg (DD pr) (sub (codeOf Try.f91) [1, 0, 1, 0, 0]) (fun ex e w => normQ ex (fun e' w' => k (Env.restr e' (lookN cfg.loops (keyOf (sub (codeOf Try.f91) [1, 0, 1, 0, 0])))) w') Q e w) e w
def B2 (pr : Prims) (list_0 : Sl) (n_1 : Int) (k_5 : Int) (w : World) (k : Env → World → Prop) (Q : Exit → Env → World → Prop) : Prop :=
  S2 pr Q k (emb2 list_0 n_1 k_5) w
def L2 (pr : Prims) (list_0 : Sl) (n_1 : Int) (k_5 : Int) (w : World) (Q : Exit → Env → World → Prop) : Prop :=
  pr.loop (S2 pr Q) (emb2 list_0 n_1 k_5) w
def E (pr : Prims) (list_0 : Sl) (n_1 : Int) (w : World) (R : Ending → World → Prop) : Prop :=
  wpC pr PP cfg (DD pr) (codeOf Try.f91) (retQ Try.f91.results.toList R) (argE 0 [Sl.v list_0, vI n_1]) w
theorem B2_eq (pr : Prims) (list_0 : Sl) (n_1 : Int) (k_5 : Int) (w : World) (k : Env → World → Prop) (Q : Exit → Env → World → Prop) : B2 pr list_0 n_1 k_5 w k Q = (
  bif decide (k_5 < (list_0.n : Int)) then (
  pr.idxK 1 list_0 k_5 fun (a2 : Addr) =>
  pr.load1 (.int .i64) a2 w fun (ξ3 : Int) =>
  bif ξ3 == n_1 then (
  Q .ret [(4, .bool true)] w)
  else (
  k (emb2 list_0 n_1 (w64 (k_5 + 1))) w))
  else (
  Q (.exit 0) (x0) w)) := by kernel_rfl
theorem B2_s (list_0 : Sl) (n_1 : Int) (k_5 : Int) (w : World) (k : Env → World → Prop) (Q : Exit → Env → World → Prop) : B2 std list_0 n_1 k_5 w k Q = (
  bif decide (k_5 < (list_0.n : Int)) then (
  idxK 1 list_0 k_5 fun (a2 : Addr) =>
  load1 (.int .i64) a2 w fun (ξ3 : Int) =>
  bif ξ3 == n_1 then (
  Q .ret [(4, .bool true)] w)
  else (
  k (emb2 list_0 n_1 (w64 (k_5 + 1))) w))
  else (
  Q (.exit 0) (x0) w)) := B2_eq std list_0 n_1 k_5 w k Q
theorem L2_rule (list_0 : Sl) (n_1 : Int) (k_5 : Int) (w : World) (Q : Exit → Env → World → Prop) (I : Int → World → Prop) (μ : Int → World → Nat) (h0 : I k_5 w)
    (h : ∀ (k_5 : Int) (w' : World), I k_5 w' → B2 std list_0 n_1 k_5 w' (fun e2 w2 => ∃ k_5_n, e2 = emb2 list_0 n_1 k_5_n ∧ I k_5_n w2 ∧ μ k_5_n w2 < μ k_5 w') Q) :
    L2 std list_0 n_1 k_5 w Q := by
  unfold L2
  refine LoopE.intro (σ := Int) (step := S2 std Q) (fun s => emb2 list_0 n_1 s) (fun s w => I s w) (fun s w => μ s w) k_5 rfl h0 ?_
  intro s w' hI
  have h1 := h s w' hI
  unfold B2 at h1
  exact h1
theorem A2_0_eq (pr : Prims) (w : World) (R : Ending → World → Prop) : (q1 pr R) (.exit 0) (x0) w = (
  R (.returned (.bool false)) w) := by kernel_rfl
theorem A2_0_s (w : World) (R : Ending → World → Prop) : (q1 std R) (.exit 0) (x0) w = (
  R (.returned (.bool false)) w) := A2_0_eq std w R
theorem R2_eq (pr : Prims) (v4 : Value) (w : World) (R : Ending → World → Prop) : (q1 pr R) .ret [(4, v4)] w = (
  R (.returned (v4)) w) := by kernel_rfl
theorem R2_s (v4 : Value) (w : World) (R : Ending → World → Prop) : (q1 std R) .ret [(4, v4)] w = (
  R (.returned (v4)) w) := R2_eq std v4 w R
theorem E_eq (pr : Prims) (list_0 : Sl) (n_1 : Int) (w : World) (R : Ending → World → Prop) : E pr list_0 n_1 w R = (
  L2 pr list_0 n_1 0 w (q1 pr R)) := by kernel_rfl
theorem E_s (list_0 : Sl) (n_1 : Int) (w : World) (R : Ending → World → Prop) : E std list_0 n_1 w R = (
  L2 std list_0 n_1 0 w (q1 std R)) := E_eq std list_0 n_1 w R
theorem drawsOk : drawsOk PP cfg okD (codeOf Try.f91) = true := by kernel_rfl
theorem calls (list_0 : Sl) (n_1 : Int) {w : World} {R : Ending → World → Prop} (h : E std list_0 n_1 w R) : Calls PP F.spec_l2Has #[Sl.v list_0, vI n_1] w R :=
  calls_of noCount mixed drawOk Try.func91 rfl (c := cfg) (args := [Sl.v list_0, vI n_1]) rfl (Nat.le_of_ble_eq_true (by kernel_rfl)) drawsOk h
end spec_l2Has

namespace impl_lengths
@[reducible] def cfg : Cfg := ⟨95, [(7, [0, 4, 5, 6, 7]), (3, [0, 4, 5, 6])], [(4, [0, 4, 5, 6, 7]), (3, [0, 4, 5, 6, 7]), (2, [0, 4, 5, 6]), (1, [0, 4, 5, 6]), (0, [4, 5])], [(2, [0, 4, 5])], [2, 3], [10, 11], [101, 107, 112, 15, 21, 124, 76, 137, 28, 115, 91, 81, 130], [138, 140, 82, 6, 86, 85, 132]⟩
def q0 (pr : Prims) (R : Ending → World → Prop) : Exit → Env → World → Prop := fun ex e w => normQ ex (fun e w => contE pr cfg (sub (codeOf Try.f93) [1, 1]) (fun e w => wpC pr PP cfg (DD pr) (sub (codeOf Try.f93) [1, 1]) (retQ Try.f93.results.toList R) e w) e w) (retQ Try.f93.results.toList R) e w
def q6 (pr : Prims) (R : Ending → World → Prop) : Exit → Env → World → Prop := fun ex e w => normQ ex (fun e w => contE pr cfg (sub (codeOf Try.f93) [1, 1, 1]) (fun e w => wpC pr PP cfg (DD pr) (sub (codeOf Try.f93) [1, 1, 1]) (retQ Try.f93.results.toList R) e w) e w) (retQ Try.f93.results.toList R) e w
def q7 (pr : Prims) (R : Ending → World → Prop) : Exit → Env → World → Prop := fun ex e w => blockQ ex 0 (q6 pr R) e w
def q8 (pr : Prims) (k : Env → World → Prop) (Q : Exit → Env → World → Prop) : Exit → Env → World → Prop := fun ex e w => normQ ex (fun e w => contE pr cfg (sub (codeOf Try.f93) [1, 1, 0, 1, 0, 0, 1, 1]) (fun e w => wpC pr PP cfg (DD pr) (sub (codeOf Try.f93) [1, 1, 0, 1, 0, 0, 1, 1]) (fun ex e w => normQ ex (fun e' w' => k (Env.restr e' (lookN cfg.loops (keyOf (sub (codeOf Try.f93) [1, 1, 0, 1, 0, 0])))) w') Q e w) e w) e w) (fun ex e w => normQ ex (fun e' w' => k (Env.restr e' (lookN cfg.loops (keyOf (sub (codeOf Try.f93) [1, 1, 0, 1, 0, 0])))) w') Q e w) e w
def q9 (pr : Prims) (k : Env → World → Prop) (Q : Exit → Env → World → Prop) : Exit → Env → World → Prop := fun ex e w => blockQ ex 1 (q8 pr k Q) e w
def q14 (pr : Prims) (k : Env → World → Prop) (Q : Exit → Env → World → Prop) : Exit → Env → World → Prop := fun ex e w => blockQ ex 2 (q9 pr k Q) e w
def j2 (p_0 : Sl) (long_4 : Sl) (many_5 : Sl) : Env := [(0, Sl.v p_0), (4, Sl.v long_4), (5, Sl.v many_5)]
def emb3 (p_0 : Sl) (long_4 : Sl) (many_5 : Sl) (i_6 : Int) : Env := [(0, Sl.v p_0), (4, Sl.v long_4), (5, Sl.v many_5), (6, vI i_6)]
def emb7 (p_0 : Sl) (long_4 : Sl) (many_5 : Sl) (i_6 : Int) (k_7 : Int) : Env := [(0, Sl.v p_0), (4, Sl.v long_4), (5, Sl.v many_5), (6, vI i_6), (7, vI k_7)]
def x2 (p_0 : Sl) (long_4 : Sl) (many_5 : Sl) (i_6 : Int) : Env := [(0, Sl.v p_0), (4, Sl.v long_4), (5, Sl.v many_5), (6, vI i_6)]
def x0 (long_4 : Sl) (many_5 : Sl) : Env := [(4, Sl.v long_4), (5, Sl.v many_5)]
def S7 (pr : Prims) (Q : Exit → Env → World → Prop) : (Env → World → Prop) → Env → World → Prop := fun k e w => wpC pr PP cfg (DD pr) (sub (codeOf Try.f93) [1, 1, 0, 1, 0, 0, 1, 0, 0, 1, 1, 0, 0]) (fun ex e w => normQ ex (fun e' w' => k (Env.restr e' (lookN cfg.loops (keyOf (sub (codeOf Try.f93) [1, 1, 0, 1, 0, 0, 1, 0, 0, 1, 1, 0, 0])))) w') Q e w) e w
def S3 (pr : Prims) (Q : Exit → Env → World → Prop) : (Env → World → Prop) → Env → World → Prop := fun k e w => wpC pr PP cfg (DD pr) (sub (codeOf Try.f93) [1, 1, 0, 1, 0, 0]) (fun ex e w => normQ ex (fun e' w' => k (Env.restr e' (lookN cfg.loops (keyOf (sub (codeOf Try.f93) [1, 1, 0, 1, 0, 0])))) w') Q e w) e w
def B7 (pr : Prims) (p_0 : Sl) (long_4 : Sl) (many_5 : Sl) (i_6 : Int) (k_7 : Int) (w : World) (k : Env → World → Prop) (Q : Exit → Env → World → Prop) : Prop :=
  S7 pr Q k (emb7 p_0 long_4 many_5 i_6 k_7) w
def L7 (pr : Prims) (p_0 : Sl) (long_4 : Sl) (many_5 : Sl) (i_6 : Int) (k_7 : Int) (w : World) (Q : Exit → Env → World → Prop) : Prop :=
  pr.loop (S7 pr Q) (emb7 p_0 long_4 many_5 i_6 k_7) w
def B3 (pr : Prims) (p_0 : Sl) (long_4 : Sl) (many_5 : Sl) (i_6 : Int) (w : World) (k : Env → World → Prop) (Q : Exit → Env → World → Prop) : Prop :=
  S3 pr Q k (emb3 p_0 long_4 many_5 i_6) w
def L3 (pr : Prims) (p_0 : Sl) (long_4 : Sl) (many_5 : Sl) (i_6 : Int) (w : World) (Q : Exit → Env → World → Prop) : Prop :=
  pr.loop (S3 pr Q) (emb3 p_0 long_4 many_5 i_6) w
def J2 (pr : Prims) (p_0 : Sl) (long_4 : Sl) (many_5 : Sl) (w : World) (R : Ending → World → Prop) : Prop :=
  pr.seg (fun e w => wpC pr PP cfg (DD pr) (sub (codeOf Try.f93) [1, 1]) (retQ Try.f93.results.toList R) e w) (j2 p_0 long_4 many_5) w
def E (pr : Prims) (p_0 : Sl) (w : World) (R : Ending → World → Prop) : Prop :=
  wpC pr PP cfg (DD pr) (codeOf Try.f93) (retQ Try.f93.results.toList R) (argE 0 [Sl.v p_0]) w
theorem B7_eq (pr : Prims) (p_0 : Sl) (long_4 : Sl) (many_5 : Sl) (i_6 : Int) (k_7 : Int) (w : World) (k : Env → World → Prop) (Q : Exit → Env → World → Prop) : B7 pr p_0 long_4 many_5 i_6 k_7 w k Q = (
  bif decide (k_7 < (p_0.n : Int)) then (
  pr.idxK 1 p_0 k_7 fun (a15 : Addr) =>
  pr.load1 (.int .i64) a15 w fun (ξ16 : Int) =>
  pr.idxK 1 p_0 i_6 fun (a17 : Addr) =>
  pr.load1 (.int .i64) a17 w fun (ξ18 : Int) =>
  bif decide (ξ16 < ξ18) then (
  pr.drewAll w fun ω19 =>
  k (emb7 p_0 long_4 many_5 i_6 (w64 (k_7 + 1))) ω19)
  else (
  pr.idxK 1 long_4 k_7 fun (a20 : Addr) =>
  pr.load1 (.int .i64) a20 w fun (ξ21 : Int) =>
  pr.idxK 1 long_4 i_6 fun (a22 : Addr) =>
  pr.load1 (.int .i64) a22 w fun (ξ23 : Int) =>
  pr.drewAll w fun ω24 =>
  bif decide ((w64 (ξ21 + 1)) < ξ23) then (
  k (emb7 p_0 long_4 many_5 i_6 (w64 (k_7 + 1))) ω24)
  else (
  pr.idxK 1 long_4 k_7 fun (a25 : Addr) =>
  pr.load1 (.int .i64) a25 ω24 fun (ξ26 : Int) =>
  pr.idxK 1 long_4 i_6 fun (a27 : Addr) =>
  pr.load1 (.int .i64) a27 ω24 fun (ξ28 : Int) =>
  pr.drewAll ω24 fun ω29 =>
  bif decide ((w64 (ξ26 + 1)) > ξ28) then (
  pr.drewAll ω29 fun ω30 =>
  pr.idxK 1 long_4 k_7 fun (a31 : Addr) =>
  pr.idxK 1 many_5 k_7 fun (a32 : Addr) =>
  (pr.load1 (.int .i64) a31 ω30 fun (ξ33 : Int) =>
  pr.load1 (.int .i64) a32 ω30 fun (ξ34 : Int) =>
  pr.idxK 1 long_4 i_6 fun (a35 : Addr) =>
  pr.storeC a35 (vI (w64 (ξ33 + 1))) ω30 fun ω36 =>
  pr.idxK 1 many_5 i_6 fun (a37 : Addr) =>
  pr.storeC a37 (vI ξ34) ω36 fun ω38 =>
  k (emb7 p_0 long_4 many_5 i_6 (w64 (k_7 + 1))) ω38) ∧
  (pr.load1 (.int .i64) a32 ω30 fun (ξ39 : Int) =>
  pr.load1 (.int .i64) a31 ω30 fun (ξ40 : Int) =>
  pr.idxK 1 long_4 i_6 fun (a41 : Addr) =>
  pr.storeC a41 (vI (w64 (ξ40 + 1))) ω30 fun ω42 =>
  pr.idxK 1 many_5 i_6 fun (a43 : Addr) =>
  pr.storeC a43 (vI ξ39) ω42 fun ω44 =>
  k (emb7 p_0 long_4 many_5 i_6 (w64 (k_7 + 1))) ω44))
  else (
  pr.drewAll ω29 fun ω45 =>
  pr.idxK 1 many_5 i_6 fun (a46 : Addr) =>
  pr.idxK 1 many_5 k_7 fun (a47 : Addr) =>
  (pr.load1 (.int .i64) a46 ω45 fun (ξ48 : Int) =>
  pr.load1 (.int .i64) a47 ω45 fun (ξ49 : Int) =>
  pr.idxK 1 many_5 i_6 fun (a50 : Addr) =>
  pr.storeC a50 (vI (w64 (ξ48 + ξ49))) ω45 fun ω51 =>
  k (emb7 p_0 long_4 many_5 i_6 (w64 (k_7 + 1))) ω51) ∧
  (pr.load1 (.int .i64) a47 ω45 fun (ξ52 : Int) =>
  pr.load1 (.int .i64) a46 ω45 fun (ξ53 : Int) =>
  pr.idxK 1 many_5 i_6 fun (a54 : Addr) =>
  pr.storeC a54 (vI (w64 (ξ53 + ξ52))) ω45 fun ω55 =>
  k (emb7 p_0 long_4 many_5 i_6 (w64 (k_7 + 1))) ω55)))))
  else (
  Q (.exit 2) (x2 p_0 long_4 many_5 i_6) w)) := by kernel_rfl
theorem B7_s (p_0 : Sl) (long_4 : Sl) (many_5 : Sl) (i_6 : Int) (k_7 : Int) (w : World) (k : Env → World → Prop) (Q : Exit → Env → World → Prop) : B7 std p_0 long_4 many_5 i_6 k_7 w k Q = (
  bif decide (k_7 < (p_0.n : Int)) then (
  idxK 1 p_0 k_7 fun (a15 : Addr) =>
  load1 (.int .i64) a15 w fun (ξ16 : Int) =>
  idxK 1 p_0 i_6 fun (a17 : Addr) =>
  load1 (.int .i64) a17 w fun (ξ18 : Int) =>
  bif decide (ξ16 < ξ18) then (
  drewAll w fun ω19 =>
  k (emb7 p_0 long_4 many_5 i_6 (w64 (k_7 + 1))) ω19)
  else (
  idxK 1 long_4 k_7 fun (a20 : Addr) =>
  load1 (.int .i64) a20 w fun (ξ21 : Int) =>
  idxK 1 long_4 i_6 fun (a22 : Addr) =>
  load1 (.int .i64) a22 w fun (ξ23 : Int) =>
  drewAll w fun ω24 =>
  bif decide ((w64 (ξ21 + 1)) < ξ23) then (
  k (emb7 p_0 long_4 many_5 i_6 (w64 (k_7 + 1))) ω24)
  else (
  idxK 1 long_4 k_7 fun (a25 : Addr) =>
  load1 (.int .i64) a25 ω24 fun (ξ26 : Int) =>
  idxK 1 long_4 i_6 fun (a27 : Addr) =>
  load1 (.int .i64) a27 ω24 fun (ξ28 : Int) =>
  drewAll ω24 fun ω29 =>
  bif decide ((w64 (ξ26 + 1)) > ξ28) then (
  drewAll ω29 fun ω30 =>
  idxK 1 long_4 k_7 fun (a31 : Addr) =>
  idxK 1 many_5 k_7 fun (a32 : Addr) =>
  (load1 (.int .i64) a31 ω30 fun (ξ33 : Int) =>
  load1 (.int .i64) a32 ω30 fun (ξ34 : Int) =>
  idxK 1 long_4 i_6 fun (a35 : Addr) =>
  storeC a35 (vI (w64 (ξ33 + 1))) ω30 fun ω36 =>
  idxK 1 many_5 i_6 fun (a37 : Addr) =>
  storeC a37 (vI ξ34) ω36 fun ω38 =>
  k (emb7 p_0 long_4 many_5 i_6 (w64 (k_7 + 1))) ω38) ∧
  (load1 (.int .i64) a32 ω30 fun (ξ39 : Int) =>
  load1 (.int .i64) a31 ω30 fun (ξ40 : Int) =>
  idxK 1 long_4 i_6 fun (a41 : Addr) =>
  storeC a41 (vI (w64 (ξ40 + 1))) ω30 fun ω42 =>
  idxK 1 many_5 i_6 fun (a43 : Addr) =>
  storeC a43 (vI ξ39) ω42 fun ω44 =>
  k (emb7 p_0 long_4 many_5 i_6 (w64 (k_7 + 1))) ω44))
  else (
  drewAll ω29 fun ω45 =>
  idxK 1 many_5 i_6 fun (a46 : Addr) =>
  idxK 1 many_5 k_7 fun (a47 : Addr) =>
  (load1 (.int .i64) a46 ω45 fun (ξ48 : Int) =>
  load1 (.int .i64) a47 ω45 fun (ξ49 : Int) =>
  idxK 1 many_5 i_6 fun (a50 : Addr) =>
  storeC a50 (vI (w64 (ξ48 + ξ49))) ω45 fun ω51 =>
  k (emb7 p_0 long_4 many_5 i_6 (w64 (k_7 + 1))) ω51) ∧
  (load1 (.int .i64) a47 ω45 fun (ξ52 : Int) =>
  load1 (.int .i64) a46 ω45 fun (ξ53 : Int) =>
  idxK 1 many_5 i_6 fun (a54 : Addr) =>
  storeC a54 (vI (w64 (ξ53 + ξ52))) ω45 fun ω55 =>
  k (emb7 p_0 long_4 many_5 i_6 (w64 (k_7 + 1))) ω55)))))
  else (
  Q (.exit 2) (x2 p_0 long_4 many_5 i_6) w)) := B7_eq std p_0 long_4 many_5 i_6 k_7 w k Q
theorem L7_rule (p_0 : Sl) (long_4 : Sl) (many_5 : Sl) (i_6 : Int) (k_7 : Int) (w : World) (Q : Exit → Env → World → Prop) (I : Int → World → Prop) (μ : Int → World → Nat) (h0 : I k_7 w)
    (h : ∀ (k_7 : Int) (w' : World), I k_7 w' → B7 std p_0 long_4 many_5 i_6 k_7 w' (fun e2 w2 => ∃ k_7_n, e2 = emb7 p_0 long_4 many_5 i_6 k_7_n ∧ I k_7_n w2 ∧ μ k_7_n w2 < μ k_7 w') Q) :
    L7 std p_0 long_4 many_5 i_6 k_7 w Q := by
  unfold L7
  refine LoopE.intro (σ := Int) (step := S7 std Q) (fun s => emb7 p_0 long_4 many_5 i_6 s) (fun s w => I s w) (fun s w => μ s w) k_7 rfl h0 ?_
  intro s w' hI
  have h1 := h s w' hI
  unfold B7 at h1
  exact h1
theorem A7_2_eq (pr : Prims) (p_0 : Sl) (long_4 : Sl) (many_5 : Sl) (i_6 : Int) (w : World) (k : Env → World → Prop) (Q : Exit → Env → World → Prop) : (q14 pr k Q) (.exit 2) (x2 p_0 long_4 many_5 i_6) w = (
  k (emb3 p_0 long_4 many_5 (w64 (i_6 - 1))) w) := by kernel_rfl
theorem A7_2_s (p_0 : Sl) (long_4 : Sl) (many_5 : Sl) (i_6 : Int) (w : World) (k : Env → World → Prop) (Q : Exit → Env → World → Prop) : (q14 std k Q) (.exit 2) (x2 p_0 long_4 many_5 i_6) w = (
  k (emb3 p_0 long_4 many_5 (w64 (i_6 - 1))) w) := A7_2_eq std p_0 long_4 many_5 i_6 w k Q
theorem B3_eq (pr : Prims) (p_0 : Sl) (long_4 : Sl) (many_5 : Sl) (i_6 : Int) (w : World) (k : Env → World → Prop) (Q : Exit → Env → World → Prop) : B3 pr p_0 long_4 many_5 i_6 w k Q = (
  bif decide (i_6 ≥ 0) then (
  pr.idxK 1 long_4 i_6 fun (a10 : Addr) =>
  pr.storeC a10 (vI 1) w fun ω11 =>
  pr.idxK 1 many_5 i_6 fun (a12 : Addr) =>
  pr.storeC a12 (vI 1) ω11 fun ω13 =>
  L7 pr p_0 long_4 many_5 i_6 (w64 (i_6 + 1)) ω13 (q14 pr k Q))
  else (
  Q (.exit 0) (x0 long_4 many_5) w)) := by kernel_rfl
theorem B3_s (p_0 : Sl) (long_4 : Sl) (many_5 : Sl) (i_6 : Int) (w : World) (k : Env → World → Prop) (Q : Exit → Env → World → Prop) : B3 std p_0 long_4 many_5 i_6 w k Q = (
  bif decide (i_6 ≥ 0) then (
  idxK 1 long_4 i_6 fun (a10 : Addr) =>
  storeC a10 (vI 1) w fun ω11 =>
  idxK 1 many_5 i_6 fun (a12 : Addr) =>
  storeC a12 (vI 1) ω11 fun ω13 =>
  L7 std p_0 long_4 many_5 i_6 (w64 (i_6 + 1)) ω13 (q14 std k Q))
  else (
  Q (.exit 0) (x0 long_4 many_5) w)) := B3_eq std p_0 long_4 many_5 i_6 w k Q
theorem L3_rule (p_0 : Sl) (long_4 : Sl) (many_5 : Sl) (i_6 : Int) (w : World) (Q : Exit → Env → World → Prop) (I : Int → World → Prop) (μ : Int → World → Nat) (h0 : I i_6 w)
    (h : ∀ (i_6 : Int) (w' : World), I i_6 w' → B3 std p_0 long_4 many_5 i_6 w' (fun e2 w2 => ∃ i_6_n, e2 = emb3 p_0 long_4 many_5 i_6_n ∧ I i_6_n w2 ∧ μ i_6_n w2 < μ i_6 w') Q) :
    L3 std p_0 long_4 many_5 i_6 w Q := by
  unfold L3
  refine LoopE.intro (σ := Int) (step := S3 std Q) (fun s => emb3 p_0 long_4 many_5 s) (fun s w => I s w) (fun s w => μ s w) i_6 rfl h0 ?_
  intro s w' hI
  have h1 := h s w' hI
  unfold B3 at h1
  exact h1
theorem A3_0_eq (pr : Prims) (long_4 : Sl) (many_5 : Sl) (w : World) (R : Ending → World → Prop) : (q7 pr R) (.exit 0) (x0 long_4 many_5) w = (
  R (.returned (.tuple #[Sl.v long_4, Sl.v many_5])) w) := by kernel_rfl
theorem A3_0_s (long_4 : Sl) (many_5 : Sl) (w : World) (R : Ending → World → Prop) : (q7 std R) (.exit 0) (x0 long_4 many_5) w = (
  R (.returned (.tuple #[Sl.v long_4, Sl.v many_5])) w) := A3_0_eq std long_4 many_5 w R
theorem J2_gen (pr : Prims) (p_0 : Sl) (long_4 : Sl) (many_5 : Sl) (w : World) (R : Ending → World → Prop) : wpC pr PP cfg (DD pr) (sub (codeOf Try.f93) [1, 1]) (retQ Try.f93.results.toList R) (j2 p_0 long_4 many_5) w = (
  L3 pr p_0 long_4 many_5 (w64 ((p_0.n : Int) - 1)) w (q7 pr R)) := by kernel_rfl
theorem J2_s (p_0 : Sl) (long_4 : Sl) (many_5 : Sl) (w : World) (R : Ending → World → Prop) : J2 std p_0 long_4 many_5 w R = (
  L3 std p_0 long_4 many_5 (w64 ((p_0.n : Int) - 1)) w (q7 std R)) := J2_gen std p_0 long_4 many_5 w R
theorem E_eq (pr : Prims) (p_0 : Sl) (w : World) (R : Ending → World → Prop) : E pr p_0 w R = (
  pr.drewAll w fun ω1 =>
  (pr.sem1 .sl PP (Instr.makeSlice T_Sint (vI (p_0.n : Int)) (vI (p_0.n : Int))) ω1 fun (ρ2 : Sl) ω3 =>
  pr.sem1 .sl PP (Instr.makeSlice T_Sint (vI (p_0.n : Int)) (vI (p_0.n : Int))) ω3 fun (ρ4 : Sl) ω5 =>
  J2 pr p_0 ρ2 ρ4 ω5 R) ∧
  (pr.sem1 .sl PP (Instr.makeSlice T_Sint (vI (p_0.n : Int)) (vI (p_0.n : Int))) ω1 fun (ρ56 : Sl) ω57 =>
  pr.sem1 .sl PP (Instr.makeSlice T_Sint (vI (p_0.n : Int)) (vI (p_0.n : Int))) ω57 fun (ρ58 : Sl) ω59 =>
  J2 pr p_0 ρ58 ρ56 ω59 R)) := by kernel_rfl
theorem E_s (p_0 : Sl) (w : World) (R : Ending → World → Prop) : E std p_0 w R = (
  drewAll w fun ω1 =>
  (sem1 .sl PP (Instr.makeSlice T_Sint (vI (p_0.n : Int)) (vI (p_0.n : Int))) ω1 fun (ρ2 : Sl) ω3 =>
  sem1 .sl PP (Instr.makeSlice T_Sint (vI (p_0.n : Int)) (vI (p_0.n : Int))) ω3 fun (ρ4 : Sl) ω5 =>
  J2 std p_0 ρ2 ρ4 ω5 R) ∧
  (sem1 .sl PP (Instr.makeSlice T_Sint (vI (p_0.n : Int)) (vI (p_0.n : Int))) ω1 fun (ρ56 : Sl) ω57 =>
  sem1 .sl PP (Instr.makeSlice T_Sint (vI (p_0.n : Int)) (vI (p_0.n : Int))) ω57 fun (ρ58 : Sl) ω59 =>
  J2 std p_0 ρ58 ρ56 ω59 R)) := E_eq std p_0 w R
theorem drawsOk : drawsOk PP cfg okD (codeOf Try.f93) = true := by kernel_rfl
theorem calls (p_0 : Sl) {w : World} {R : Ending → World → Prop} (h : E std p_0 w R) : Calls PP F.impl_lengths #[Sl.v p_0] w R :=
  calls_of noCount mixed drawOk Try.func93 rfl (c := cfg) (args := [Sl.v p_0]) rfl (Nat.le_of_ble_eq_true (by kernel_rfl)) drawsOk h
end impl_lengths

namespace impl_longestUp
@[reducible] def cfg : Cfg := ⟨24, [(4, [5, 13, 14, 15])], [(1, [5, 13, 14, 15]), (0, [5])], [], [2], [], [101, 107, 112, 15, 21, 124, 76, 137, 28, 115, 91, 81, 130], [138, 140, 82, 6, 86, 85, 132]⟩
def q3 (pr : Prims) (R : Ending → World → Prop) : Exit → Env → World → Prop := fun ex e w => normQ ex (fun e w => contE pr cfg (sub (codeOf Try.f94) [1, 1, 1, 1]) (fun e w => wpC pr PP cfg (DD pr) (sub (codeOf Try.f94) [1, 1, 1, 1]) (retQ Try.f94.results.toList R) e w) e w) (retQ Try.f94.results.toList R) e w
def q4 (pr : Prims) (R : Ending → World → Prop) : Exit → Env → World → Prop := fun ex e w => blockQ ex 0 (q3 pr R) e w
def emb4 (most_5 : Int) (t13 : Sl) (t14 : Int) (t15 : Int) : Env := [(5, vI most_5), (13, Sl.v t13), (14, vI t14), (15, vI t15)]
def x0 (most_5 : Int) : Env := [(5, vI most_5)]
def S4 (pr : Prims) (Q : Exit → Env → World → Prop) : (Env → World → Prop) → Env → World → Prop := fun k e w => wpC pr PP cfg (DD pr) (sub (codeOf Try.f94) [1, 1, 1, 0, 1, 0, 0]) (fun ex e w => normQ ex (fun e' w' => k (Env.restr e' (lookN cfg.loops (keyOf (sub (codeOf Try.f94) [1, 1, 1, 0, 1, 0, 0])))) w') Q e w) e w
def B4 (pr : Prims) (most_5 : Int) (t13 : Sl) (t14 : Int) (t15 : Int) (w : World) (k : Env → World → Prop) (Q : Exit → Env → World → Prop) : Prop :=
  S4 pr Q k (emb4 most_5 t13 t14 t15) w
def L4 (pr : Prims) (most_5 : Int) (t13 : Sl) (t14 : Int) (t15 : Int) (w : World) (Q : Exit → Env → World → Prop) : Prop :=
  pr.loop (S4 pr Q) (emb4 most_5 t13 t14 t15) w
def E (pr : Prims) (p_0 : Sl) (w : World) (R : Ending → World → Prop) : Prop :=
  wpC pr PP cfg (DD pr) (codeOf Try.f94) (retQ Try.f94.results.toList R) (argE 0 [Sl.v p_0]) w
theorem B4_eq (pr : Prims) (most_5 : Int) (t13 : Sl) (t14 : Int) (t15 : Int) (w : World) (k : Env → World → Prop) (Q : Exit → Env → World → Prop) : B4 pr most_5 t13 t14 t15 w k Q = (
  bif decide (t15 < t14) then (
  pr.idxK 1 t13 t15 fun (a5 : Addr) =>
  pr.load1 (.int .i64) a5 w fun (ξ6 : Int) =>
  k (emb4 (if ξ6 > most_5 then ξ6 else most_5) t13 t14 (w64 (t15 + 1))) w)
  else (
  Q (.exit 0) (x0 most_5) w)) := by kernel_rfl
theorem B4_s (most_5 : Int) (t13 : Sl) (t14 : Int) (t15 : Int) (w : World) (k : Env → World → Prop) (Q : Exit → Env → World → Prop) : B4 std most_5 t13 t14 t15 w k Q = (
  bif decide (t15 < t14) then (
  idxK 1 t13 t15 fun (a5 : Addr) =>
  load1 (.int .i64) a5 w fun (ξ6 : Int) =>
  k (emb4 (if ξ6 > most_5 then ξ6 else most_5) t13 t14 (w64 (t15 + 1))) w)
  else (
  Q (.exit 0) (x0 most_5) w)) := B4_eq std most_5 t13 t14 t15 w k Q
theorem L4_rule (most_5 : Int) (t13 : Sl) (t14 : Int) (t15 : Int) (w : World) (Q : Exit → Env → World → Prop) (I : Int → Int → World → Prop) (μ : Int → Int → World → Nat) (h0 : I most_5 t15 w)
    (h : ∀ (most_5 : Int) (t15 : Int) (w' : World), I most_5 t15 w' → B4 std most_5 t13 t14 t15 w' (fun e2 w2 => ∃ most_5_n t15_n, e2 = emb4 most_5_n t13 t14 t15_n ∧ I most_5_n t15_n w2 ∧ μ most_5_n t15_n w2 < μ most_5 t15 w') Q) :
    L4 std most_5 t13 t14 t15 w Q := by
  unfold L4
  refine LoopE.intro (σ := Int × Int) (step := S4 std Q) (fun s => emb4 s.1 t13 t14 s.2) (fun s w => I s.1 s.2 w) (fun s w => μ s.1 s.2 w) (most_5, t15) rfl h0 ?_
  intro s w' hI
  have h1 := h s.1 s.2 w' hI
  unfold B4 at h1
  simp only [Prod.exists]
  exact h1
theorem A4_0_eq (pr : Prims) (most_5 : Int) (w : World) (R : Ending → World → Prop) : (q4 pr R) (.exit 0) (x0 most_5) w = (
  R (.returned (vI most_5)) w) := by kernel_rfl
theorem A4_0_s (most_5 : Int) (w : World) (R : Ending → World → Prop) : (q4 std R) (.exit 0) (x0 most_5) w = (
  R (.returned (vI most_5)) w) := A4_0_eq std most_5 w R
theorem E_eq (pr : Prims) (p_0 : Sl) (w : World) (R : Ending → World → Prop) : E pr p_0 w R = (
  pr.call2 .sl .sl PP F.impl_lengths #[Sl.v p_0] w fun (ρ0 : Sl) (ρ1 : Sl) ω2 =>
  L4 pr 0 ρ0 (ρ0.n : Int) 0 ω2 (q4 pr R)) := by kernel_rfl
theorem E_s (p_0 : Sl) (w : World) (R : Ending → World → Prop) : E std p_0 w R = (
  call2 .sl .sl PP F.impl_lengths #[Sl.v p_0] w fun (ρ0 : Sl) (ρ1 : Sl) ω2 =>
  L4 std 0 ρ0 (ρ0.n : Int) 0 ω2 (q4 std R)) := E_eq std p_0 w R
theorem drawsOk : drawsOk PP cfg okD (codeOf Try.f94) = true := by kernel_rfl
theorem calls (p_0 : Sl) {w : World} {R : Ending → World → Prop} (h : E std p_0 w R) : Calls PP F.impl_longestUp #[Sl.v p_0] w R :=
  calls_of noCount mixed drawOk Try.func94 rfl (c := cfg) (args := [Sl.v p_0]) rfl (Nat.le_of_ble_eq_true (by kernel_rfl)) drawsOk h
end impl_longestUp

namespace impl_LongestUp
@[reducible] def cfg : Cfg := ⟨8, [], [], [], [2], [], [101, 107, 112, 15, 21, 124, 76, 137, 28, 115, 91, 81, 130], [138, 140, 82, 6, 86, 85, 132]⟩
def E (pr : Prims) (p_0 : Sl) (w : World) (R : Ending → World → Prop) : Prop :=
  wpC pr PP cfg (DD pr) (codeOf Try.f41) (retQ Try.f41.results.toList R) (argE 0 [Sl.v p_0]) w
theorem E_eq (pr : Prims) (p_0 : Sl) (w : World) (R : Ending → World → Prop) : E pr p_0 w R = (
  pr.call1 .bool PP F.impl_IsPerm #[Sl.v p_0] w fun (ρ0 : Bool) ω1 =>
  bif !ρ0 then (
  R (.returned (vI (-1))) ω1)
  else (
  pr.call1 (.int .i64) PP F.impl_longestUp #[Sl.v p_0] ω1 fun (ρ2 : Int) ω3 =>
  R (.returned (vI ρ2)) ω3)) := by kernel_rfl
theorem E_s (p_0 : Sl) (w : World) (R : Ending → World → Prop) : E std p_0 w R = (
  call1 .bool PP F.impl_IsPerm #[Sl.v p_0] w fun (ρ0 : Bool) ω1 =>
  bif !ρ0 then (
  R (.returned (vI (-1))) ω1)
  else (
  call1 (.int .i64) PP F.impl_longestUp #[Sl.v p_0] ω1 fun (ρ2 : Int) ω3 =>
  R (.returned (vI ρ2)) ω3)) := E_eq std p_0 w R
theorem drawsOk : drawsOk PP cfg okD (codeOf Try.f41) = true := by kernel_rfl
theorem calls (p_0 : Sl) {w : World} {R : Ending → World → Prop} (h : E std p_0 w R) : Calls PP F.impl_LongestUp #[Sl.v p_0] w R :=
  calls_of noCount mixed drawOk Try.func41 rfl (c := cfg) (args := [Sl.v p_0]) rfl (Nat.le_of_ble_eq_true (by kernel_rfl)) drawsOk h
end impl_LongestUp

namespace impl_LongestDown
@[reducible] def cfg : Cfg := ⟨9, [], [], [], [2], [], [101, 107, 112, 15, 21, 124, 76, 137, 28, 115, 91, 81, 130], [138, 140, 82, 6, 86, 85, 132]⟩
def E (pr : Prims) (p_0 : Sl) (w : World) (R : Ending → World → Prop) : Prop :=
  wpC pr PP cfg (DD pr) (codeOf Try.f43) (retQ Try.f43.results.toList R) (argE 0 [Sl.v p_0]) w
theorem E_eq (pr : Prims) (p_0 : Sl) (w : World) (R : Ending → World → Prop) : E pr p_0 w R = (
  pr.call1 .bool PP F.impl_IsPerm #[Sl.v p_0] w fun (ρ0 : Bool) ω1 =>
  bif !ρ0 then (
  R (.returned (vI (-1))) ω1)
  else (
  pr.call1 .sl PP F.impl_reverse #[Sl.v p_0] ω1 fun (ρ2 : Sl) ω3 =>
  pr.call1 (.int .i64) PP F.impl_longestUp #[Sl.v ρ2] ω3 fun (ρ4 : Int) ω5 =>
  R (.returned (vI ρ4)) ω5)) := by kernel_rfl
theorem E_s (p_0 : Sl) (w : World) (R : Ending → World → Prop) : E std p_0 w R = (
  call1 .bool PP F.impl_IsPerm #[Sl.v p_0] w fun (ρ0 : Bool) ω1 =>
  bif !ρ0 then (
  R (.returned (vI (-1))) ω1)
  else (
  call1 .sl PP F.impl_reverse #[Sl.v p_0] ω1 fun (ρ2 : Sl) ω3 =>
  call1 (.int .i64) PP F.impl_longestUp #[Sl.v ρ2] ω3 fun (ρ4 : Int) ω5 =>
  R (.returned (vI ρ4)) ω5)) := E_eq std p_0 w R
theorem drawsOk : drawsOk PP cfg okD (codeOf Try.f43) = true := by kernel_rfl
theorem calls (p_0 : Sl) {w : World} {R : Ending → World → Prop} (h : E std p_0 w R) : Calls PP F.impl_LongestDown #[Sl.v p_0] w R :=
  calls_of noCount mixed drawOk Try.func43 rfl (c := cfg) (args := [Sl.v p_0]) rfl (Nat.le_of_ble_eq_true (by kernel_rfl)) drawsOk h
end impl_LongestDown

namespace impl_reverse
@[reducible] def cfg : Cfg := ⟨9, [], [], [], [2], [], [101, 107, 112, 15, 21, 124, 76, 137, 28, 115, 91, 81, 130], [138, 140, 82, 6, 86, 85, 132]⟩
def E (pr : Prims) (p_0 : Sl) (w : World) (R : Ending → World → Prop) : Prop :=
  wpC pr PP cfg (DD pr) (codeOf Try.f97) (retQ Try.f97.results.toList R) (argE 0 [Sl.v p_0]) w
theorem E_eq (pr : Prims) (p_0 : Sl) (w : World) (R : Ending → World → Prop) : E pr p_0 w R = (
  pr.call1 .sl PP F.slices_Clone___int_int_ #[Sl.v p_0] w fun (ρ0 : Sl) ω1 =>
  pr.call0  PP F.slices_Reverse___int_int_ #[Sl.v ρ0] ω1 fun ω2 =>
  R (.returned (Sl.v ρ0)) ω2) := by kernel_rfl
theorem E_s (p_0 : Sl) (w : World) (R : Ending → World → Prop) : E std p_0 w R = (
  call1 .sl PP F.slices_Clone___int_int_ #[Sl.v p_0] w fun (ρ0 : Sl) ω1 =>
  call0  PP F.slices_Reverse___int_int_ #[Sl.v ρ0] ω1 fun ω2 =>
  R (.returned (Sl.v ρ0)) ω2) := E_eq std p_0 w R
theorem drawsOk : drawsOk PP cfg okD (codeOf Try.f97) = true := by kernel_rfl
theorem calls (p_0 : Sl) {w : World} {R : Ending → World → Prop} (h : E std p_0 w R) : Calls PP F.impl_reverse #[Sl.v p_0] w R :=
  calls_of noCount mixed drawOk Try.func97 rfl (c := cfg) (args := [Sl.v p_0]) rfl (Nat.le_of_ble_eq_true (by kernel_rfl)) drawsOk h
end impl_reverse

namespace impl_HasLongRun
@[reducible] def cfg : Cfg := ⟨22, [], [], [], [6], [], [101, 107, 112, 15, 21, 124, 76, 137, 28, 115, 91, 81, 130], [138, 140, 82, 6, 86, 85, 132]⟩
def E (pr : Prims) (p_0 : Sl) (k_1 : Int) (m_2 : Int) (w : World) (R : Ending → World → Prop) : Prop :=
  wpC pr PP cfg (DD pr) (codeOf Try.f39) (retQ Try.f39.results.toList R) (argE 0 [Sl.v p_0, vI k_1, vI m_2]) w
theorem E_eq (pr : Prims) (p_0 : Sl) (k_1 : Int) (m_2 : Int) (w : World) (R : Ending → World → Prop) : E pr p_0 k_1 m_2 w R = (
  pr.call1 .bool PP F.impl_IsPerm #[Sl.v p_0] w fun (ρ0 : Bool) ω1 =>
  bif ρ0 then (
  pr.call1 (.int .i64) PP F.impl_longestUp #[Sl.v p_0] ω1 fun (ρ2 : Int) ω3 =>
  bif decide (ρ2 > k_1) then (
  R (.returned (.bool true)) ω3)
  else (
  pr.call1 .sl PP F.impl_reverse #[Sl.v p_0] ω3 fun (ρ4 : Sl) ω5 =>
  pr.call1 (.int .i64) PP F.impl_longestUp #[Sl.v ρ4] ω5 fun (ρ6 : Int) ω7 =>
  R (.returned (.bool (decide (ρ6 > m_2)))) ω7))
  else (
  R (.returned (.bool false)) ω1)) := by kernel_rfl
theorem E_s (p_0 : Sl) (k_1 : Int) (m_2 : Int) (w : World) (R : Ending → World → Prop) : E std p_0 k_1 m_2 w R = (
  call1 .bool PP F.impl_IsPerm #[Sl.v p_0] w fun (ρ0 : Bool) ω1 =>
  bif ρ0 then (
  call1 (.int .i64) PP F.impl_longestUp #[Sl.v p_0] ω1 fun (ρ2 : Int) ω3 =>
  bif decide (ρ2 > k_1) then (
  R (.returned (.bool true)) ω3)
  else (
  call1 .sl PP F.impl_reverse #[Sl.v p_0] ω3 fun (ρ4 : Sl) ω5 =>
  call1 (.int .i64) PP F.impl_longestUp #[Sl.v ρ4] ω5 fun (ρ6 : Int) ω7 =>
  R (.returned (.bool (decide (ρ6 > m_2)))) ω7))
  else (
  R (.returned (.bool false)) ω1)) := E_eq std p_0 k_1 m_2 w R
theorem drawsOk : drawsOk PP cfg okD (codeOf Try.f39) = true := by kernel_rfl
theorem calls (p_0 : Sl) (k_1 : Int) (m_2 : Int) {w : World} {R : Ending → World → Prop} (h : E std p_0 k_1 m_2 w R) : Calls PP F.impl_HasLongRun #[Sl.v p_0, vI k_1, vI m_2] w R :=
  calls_of noCount mixed drawOk Try.func39 rfl (c := cfg) (args := [Sl.v p_0, vI k_1, vI m_2]) rfl (Nat.le_of_ble_eq_true (by kernel_rfl)) drawsOk h
end impl_HasLongRun

namespace spec_LongestUp
@[reducible] def cfg : Cfg := ⟨8, [], [], [], [2], [], [101, 107, 112, 15, 21, 124, 76, 137, 28, 115, 91, 81, 130], [138, 140, 82, 6, 86, 85, 132]⟩
def E (pr : Prims) (p_0 : Sl) (w : World) (R : Ending → World → Prop) : Prop :=
  wpC pr PP cfg (DD pr) (codeOf Try.f42) (retQ Try.f42.results.toList R) (argE 0 [Sl.v p_0]) w
theorem E_eq (pr : Prims) (p_0 : Sl) (w : World) (R : Ending → World → Prop) : E pr p_0 w R = (
  pr.call1 .bool PP F.spec_IsPerm #[Sl.v p_0] w fun (ρ0 : Bool) ω1 =>
  bif !ρ0 then (
  R (.returned (vI (-1))) ω1)
  else (
  pr.call1 (.int .i64) PP F.spec_l20Up #[Sl.v p_0] ω1 fun (ρ2 : Int) ω3 =>
  R (.returned (vI ρ2)) ω3)) := by kernel_rfl
theorem E_s (p_0 : Sl) (w : World) (R : Ending → World → Prop) : E std p_0 w R = (
  call1 .bool PP F.spec_IsPerm #[Sl.v p_0] w fun (ρ0 : Bool) ω1 =>
  bif !ρ0 then (
  R (.returned (vI (-1))) ω1)
  else (
  call1 (.int .i64) PP F.spec_l20Up #[Sl.v p_0] ω1 fun (ρ2 : Int) ω3 =>
  R (.returned (vI ρ2)) ω3)) := E_eq std p_0 w R
theorem drawsOk : drawsOk PP cfg okD (codeOf Try.f42) = true := by kernel_rfl
theorem calls (p_0 : Sl) {w : World} {R : Ending → World → Prop} (h : E std p_0 w R) : Calls PP F.spec_LongestUp #[Sl.v p_0] w R :=
  calls_of noCount mixed drawOk Try.func42 rfl (c := cfg) (args := [Sl.v p_0]) rfl (Nat.le_of_ble_eq_true (by kernel_rfl)) drawsOk h
end spec_LongestUp

namespace spec_LongestDown
@[reducible] def cfg : Cfg := ⟨9, [], [], [], [2], [], [101, 107, 112, 15, 21, 124, 76, 137, 28, 115, 91, 81, 130], [138, 140, 82, 6, 86, 85, 132]⟩
def E (pr : Prims) (p_0 : Sl) (w : World) (R : Ending → World → Prop) : Prop :=
  wpC pr PP cfg (DD pr) (codeOf Try.f44) (retQ Try.f44.results.toList R) (argE 0 [Sl.v p_0]) w
theorem E_eq (pr : Prims) (p_0 : Sl) (w : World) (R : Ending → World → Prop) : E pr p_0 w R = (
  pr.call1 .bool PP F.spec_IsPerm #[Sl.v p_0] w fun (ρ0 : Bool) ω1 =>
  bif !ρ0 then (
  R (.returned (vI (-1))) ω1)
  else (
  pr.call1 .sl PP F.spec_l3Reverse #[Sl.v p_0] ω1 fun (ρ2 : Sl) ω3 =>
  pr.call1 (.int .i64) PP F.spec_l20Up #[Sl.v ρ2] ω3 fun (ρ4 : Int) ω5 =>
  R (.returned (vI ρ4)) ω5)) := by kernel_rfl
theorem E_s (p_0 : Sl) (w : World) (R : Ending → World → Prop) : E std p_0 w R = (
  call1 .bool PP F.spec_IsPerm #[Sl.v p_0] w fun (ρ0 : Bool) ω1 =>
  bif !ρ0 then (
  R (.returned (vI (-1))) ω1)
  else (
  call1 .sl PP F.spec_l3Reverse #[Sl.v p_0] ω1 fun (ρ2 : Sl) ω3 =>
  call1 (.int .i64) PP F.spec_l20Up #[Sl.v ρ2] ω3 fun (ρ4 : Int) ω5 =>
  R (.returned (vI ρ4)) ω5)) := E_eq std p_0 w R
theorem drawsOk : drawsOk PP cfg okD (codeOf Try.f44) = true := by kernel_rfl
theorem calls (p_0 : Sl) {w : World} {R : Ending → World → Prop} (h : E std p_0 w R) : Calls PP F.spec_LongestDown #[Sl.v p_0] w R :=
  calls_of noCount mixed drawOk Try.func44 rfl (c := cfg) (args := [Sl.v p_0]) rfl (Nat.le_of_ble_eq_true (by kernel_rfl)) drawsOk h
end spec_LongestDown

namespace spec_HasLongRun
@[reducible] def cfg : Cfg := ⟨22, [], [], [], [6], [], [101, 107, 112, 15, 21, 124, 76, 137, 28, 115, 91, 81, 130], [138, 140, 82, 6, 86, 85, 132]⟩
def E (pr : Prims) (p_0 : Sl) (k_1 : Int) (m_2 : Int) (w : World) (R : Ending → World → Prop) : Prop :=
  wpC pr PP cfg (DD pr) (codeOf Try.f40) (retQ Try.f40.results.toList R) (argE 0 [Sl.v p_0, vI k_1, vI m_2]) w
theorem E_eq (pr : Prims) (p_0 : Sl) (k_1 : Int) (m_2 : Int) (w : World) (R : Ending → World → Prop) : E pr p_0 k_1 m_2 w R = (
  pr.call1 .bool PP F.spec_IsPerm #[Sl.v p_0] w fun (ρ0 : Bool) ω1 =>
  bif ρ0 then (
  pr.call1 (.int .i64) PP F.spec_l20Up #[Sl.v p_0] ω1 fun (ρ2 : Int) ω3 =>
  bif decide (ρ2 > k_1) then (
  R (.returned (.bool true)) ω3)
  else (
  pr.call1 .sl PP F.spec_l3Reverse #[Sl.v p_0] ω3 fun (ρ4 : Sl) ω5 =>
  pr.call1 (.int .i64) PP F.spec_l20Up #[Sl.v ρ4] ω5 fun (ρ6 : Int) ω7 =>
  R (.returned (.bool (decide (ρ6 > m_2)))) ω7))
  else (
  R (.returned (.bool false)) ω1)) := by kernel_rfl
theorem E_s (p_0 : Sl) (k_1 : Int) (m_2 : Int) (w : World) (R : Ending → World → Prop) : E std p_0 k_1 m_2 w R = (
  call1 .bool PP F.spec_IsPerm #[Sl.v p_0] w fun (ρ0 : Bool) ω1 =>
  bif ρ0 then (
  call1 (.int .i64) PP F.spec_l20Up #[Sl.v p_0] ω1 fun (ρ2 : Int) ω3 =>
  bif decide (ρ2 > k_1) then (
  R (.returned (.bool true)) ω3)
  else (
  call1 .sl PP F.spec_l3Reverse #[Sl.v p_0] ω3 fun (ρ4 : Sl) ω5 =>
  call1 (.int .i64) PP F.spec_l20Up #[Sl.v ρ4] ω5 fun (ρ6 : Int) ω7 =>
  R (.returned (.bool (decide (ρ6 > m_2)))) ω7))
  else (
  R (.returned (.bool false)) ω1)) := E_eq std p_0 k_1 m_2 w R
theorem drawsOk : drawsOk PP cfg okD (codeOf Try.f40) = true := by kernel_rfl
theorem calls (p_0 : Sl) (k_1 : Int) (m_2 : Int) {w : World} {R : Ending → World → Prop} (h : E std p_0 k_1 m_2 w R) : Calls PP F.spec_HasLongRun #[Sl.v p_0, vI k_1, vI m_2] w R :=
  calls_of noCount mixed drawOk Try.func40 rfl (c := cfg) (args := [Sl.v p_0, vI k_1, vI m_2]) rfl (Nat.le_of_ble_eq_true (by kernel_rfl)) drawsOk h
end spec_HasLongRun

namespace impl_stackPass
@[reducible] def cfg : Cfg := ⟨52, [(5, [3, 4, 6, 9, 10, 11]), (3, [3, 4, 9, 10, 11])], [(3, [3, 4, 6, 9, 10, 11]), (2, [3, 4, 6, 9, 10, 11]), (1, [3, 4, 9, 10, 11]), (0, [3, 4])], [], [2], [], [101, 107, 112, 15, 21, 124, 76, 137, 28, 115, 91, 81, 130], [138, 140, 82, 6, 86, 85, 132]⟩
def q4 (pr : Prims) (R : Ending → World → Prop) : Exit → Env → World → Prop := fun ex e w => normQ ex (fun e w => contE pr cfg (sub (codeOf Try.f68) [1, 1, 1]) (fun e w => wpC pr PP cfg (DD pr) (sub (codeOf Try.f68) [1, 1, 1]) (retQ Try.f68.results.toList R) e w) e w) (retQ Try.f68.results.toList R) e w
def q5 (pr : Prims) (R : Ending → World → Prop) : Exit → Env → World → Prop := fun ex e w => blockQ ex 0 (q4 pr R) e w
def q6 (pr : Prims) (k : Env → World → Prop) (Q : Exit → Env → World → Prop) : Exit → Env → World → Prop := fun ex e w => normQ ex (fun e w => contE pr cfg (sub (codeOf Try.f68) [1, 1, 0, 1, 0, 0, 1, 1, 1]) (fun e w => wpC pr PP cfg (DD pr) (sub (codeOf Try.f68) [1, 1, 0, 1, 0, 0, 1, 1, 1]) (fun ex e w => normQ ex (fun e' w' => k (Env.restr e' (lookN cfg.loops (keyOf (sub (codeOf Try.f68) [1, 1, 0, 1, 0, 0])))) w') Q e w) e w) e w) (fun ex e w => normQ ex (fun e' w' => k (Env.restr e' (lookN cfg.loops (keyOf (sub (codeOf Try.f68) [1, 1, 0, 1, 0, 0])))) w') Q e w) e w
def q7 (pr : Prims) (k : Env → World → Prop) (Q : Exit → Env → World → Prop) : Exit → Env → World → Prop := fun ex e w => blockQ ex 1 (q6 pr k Q) e w
def q10 (pr : Prims) (k : Env → World → Prop) (Q : Exit → Env → World → Prop) : Exit → Env → World → Prop := fun ex e w => normQ ex (fun e w => contE pr cfg (sub (codeOf Try.f68) [1, 1, 0, 1, 0, 0, 1, 1, 0, 0, 1, 1]) (fun e w => wpC pr PP cfg (DD pr) (sub (codeOf Try.f68) [1, 1, 0, 1, 0, 0, 1, 1, 0, 0, 1, 1]) (q7 pr k Q) e w) e w) (q7 pr k Q) e w
def q11 (pr : Prims) (k : Env → World → Prop) (Q : Exit → Env → World → Prop) : Exit → Env → World → Prop := fun ex e w => blockQ ex 2 (q10 pr k Q) e w
def emb3 (out_3 : Sl) (stack_4 : Sl) (t9 : Sl) (t10 : Int) (t11 : Int) : Env := [(3, Sl.v out_3), (4, Sl.v stack_4), (9, Sl.v t9), (10, vI t10), (11, vI t11)]
def emb5 (out_3 : Sl) (stack_4 : Sl) (v_6 : Int) (t9 : Sl) (t10 : Int) (t11 : Int) : Env := [(3, Sl.v out_3), (4, Sl.v stack_4), (6, vI v_6), (9, Sl.v t9), (10, vI t10), (11, vI t11)]
def x2 (out_3 : Sl) (stack_4 : Sl) (v_6 : Int) (t9 : Sl) (t10 : Int) (t11 : Int) : Env := [(3, Sl.v out_3), (4, Sl.v stack_4), (6, vI v_6), (9, Sl.v t9), (10, vI t10), (11, vI t11)]
def x0 (out_3 : Sl) (stack_4 : Sl) : Env := [(3, Sl.v out_3), (4, Sl.v stack_4)]
def S5 (pr : Prims) (Q : Exit → Env → World → Prop) : (Env → World → Prop) → Env → World → Prop := fun k e w => wpC pr PP cfg (DD pr) (sub (codeOf Try.f68) [1, 1, 0, 1, 0, 0, 1, 1, 0, 0, 1, 0, 0, 0]) (fun ex e w => normQ ex (fun e' w' => k (Env.restr e' (lookN cfg.loops (keyOf (sub (codeOf Try.f68) [1, 1, 0, 1, 0, 0, 1, 1, 0, 0, 1, 0, 0, 0])))) w') Q e w) e w
def S3 (pr : Prims) (Q : Exit → Env → World → Prop) : (Env → World → Prop) → Env → World → Prop := fun k e w => wpC pr PP cfg (DD pr) (sub (codeOf Try.f68) [1, 1, 0, 1, 0, 0]) (fun ex e w => normQ ex (fun e' w' => k (Env.restr e' (lookN cfg.loops (keyOf (sub (codeOf Try.f68) [1, 1, 0, 1, 0, 0])))) w') Q e w) e w
def B5 (pr : Prims) (out_3 : Sl) (stack_4 : Sl) (v_6 : Int) (t9 : Sl) (t10 : Int) (t11 : Int) (w : World) (k : Env → World → Prop) (Q : Exit → Env → World → Prop) : Prop :=
  S5 pr Q k (emb5 out_3 stack_4 v_6 t9 t10 t11) w
def L5 (pr : Prims) (out_3 : Sl) (stack_4 : Sl) (v_6 : Int) (t9 : Sl) (t10 : Int) (t11 : Int) (w : World) (Q : Exit → Env → World → Prop) : Prop :=
  pr.loop (S5 pr Q) (emb5 out_3 stack_4 v_6 t9 t10 t11) w
def B3 (pr : Prims) (out_3 : Sl) (stack_4 : Sl) (t9 : Sl) (t10 : Int) (t11 : Int) (w : World) (k : Env → World → Prop) (Q : Exit → Env → World → Prop) : Prop :=
  S3 pr Q k (emb3 out_3 stack_4 t9 t10 t11) w
def L3 (pr : Prims) (out_3 : Sl) (stack_4 : Sl) (t9 : Sl) (t10 : Int) (t11 : Int) (w : World) (Q : Exit → Env → World → Prop) : Prop :=
  pr.loop (S3 pr Q) (emb3 out_3 stack_4 t9 t10 t11) w
def E (pr : Prims) (p_0 : Sl) (w : World) (R : Ending → World → Prop) : Prop :=
  wpC pr PP cfg (DD pr) (codeOf Try.f68) (retQ Try.f68.results.toList R) (argE 0 [Sl.v p_0]) w
theorem B5_eq (pr : Prims) (out_3 : Sl) (stack_4 : Sl) (v_6 : Int) (t9 : Sl) (t10 : Int) (t11 : Int) (w : World) (k : Env → World → Prop) (Q : Exit → Env → World → Prop) : B5 pr out_3 stack_4 v_6 t9 t10 t11 w k Q = (
  bif decide ((stack_4.n : Int) > 0) then (
  pr.idxK 1 stack_4 (w64 ((stack_4.n : Int) - 1)) fun (a12 : Addr) =>
  pr.load1 (.int .i64) a12 w fun (ξ13 : Int) =>
  bif decide (ξ13 < v_6) then (
  pr.drewAll w fun ω14 =>
  pr.idxK 1 stack_4 (w64 ((stack_4.n : Int) - 1)) fun (a15 : Addr) =>
  pr.cutK 1 stack_4 none (some (w64 ((stack_4.n : Int) - 1))) fun (s16 : Sl) =>
  pr.load1 (.int .i64) a15 ω14 fun (ξ17 : Int) =>
  pr.sem1 .sl PP (Instr.buildSlice T_Sint 1 #[(0, vI ξ17)]) ω14 fun (ρ18 : Sl) ω19 =>
  pr.sem1 .sl PP (Builtin.append_ #[T_Sint, T_Sint] T_Sint #[Sl.v out_3, Sl.v ρ18]) ω19 fun (ρ20 : Sl) ω21 =>
  k (emb5 ρ20 s16 v_6 t9 t10 t11) ω21)
  else (
  Q (.exit 2) (x2 out_3 stack_4 v_6 t9 t10 t11) w))
  else (
  Q (.exit 2) (x2 out_3 stack_4 v_6 t9 t10 t11) w)) := by kernel_rfl
theorem B5_s (out_3 : Sl) (stack_4 : Sl) (v_6 : Int) (t9 : Sl) (t10 : Int) (t11 : Int) (w : World) (k : Env → World → Prop) (Q : Exit → Env → World → Prop) : B5 std out_3 stack_4 v_6 t9 t10 t11 w k Q = (
  bif decide ((stack_4.n : Int) > 0) then (
  idxK 1 stack_4 (w64 ((stack_4.n : Int) - 1)) fun (a12 : Addr) =>
  load1 (.int .i64) a12 w fun (ξ13 : Int) =>
  bif decide (ξ13 < v_6) then (
  drewAll w fun ω14 =>
  idxK 1 stack_4 (w64 ((stack_4.n : Int) - 1)) fun (a15 : Addr) =>
  cutK 1 stack_4 none (some (w64 ((stack_4.n : Int) - 1))) fun (s16 : Sl) =>
  load1 (.int .i64) a15 ω14 fun (ξ17 : Int) =>
  sem1 .sl PP (Instr.buildSlice T_Sint 1 #[(0, vI ξ17)]) ω14 fun (ρ18 : Sl) ω19 =>
  sem1 .sl PP (Builtin.append_ #[T_Sint, T_Sint] T_Sint #[Sl.v out_3, Sl.v ρ18]) ω19 fun (ρ20 : Sl) ω21 =>
  k (emb5 ρ20 s16 v_6 t9 t10 t11) ω21)
  else (
  Q (.exit 2) (x2 out_3 stack_4 v_6 t9 t10 t11) w))
  else (
  Q (.exit 2) (x2 out_3 stack_4 v_6 t9 t10 t11) w)) := B5_eq std out_3 stack_4 v_6 t9 t10 t11 w k Q
theorem L5_rule (out_3 : Sl) (stack_4 : Sl) (v_6 : Int) (t9 : Sl) (t10 : Int) (t11 : Int) (w : World) (Q : Exit → Env → World → Prop) (I : Sl → Sl → World → Prop) (μ : Sl → Sl → World → Nat) (h0 : I out_3 stack_4 w)
    (h : ∀ (out_3 : Sl) (stack_4 : Sl) (w' : World), I out_3 stack_4 w' → B5 std out_3 stack_4 v_6 t9 t10 t11 w' (fun e2 w2 => ∃ out_3_n stack_4_n, e2 = emb5 out_3_n stack_4_n v_6 t9 t10 t11 ∧ I out_3_n stack_4_n w2 ∧ μ out_3_n stack_4_n w2 < μ out_3 stack_4 w') Q) :
    L5 std out_3 stack_4 v_6 t9 t10 t11 w Q := by
  unfold L5
  refine LoopE.intro (σ := Sl × Sl) (step := S5 std Q) (fun s => emb5 s.1 s.2 v_6 t9 t10 t11) (fun s w => I s.1 s.2 w) (fun s w => μ s.1 s.2 w) (out_3, stack_4) rfl h0 ?_
  intro s w' hI
  have h1 := h s.1 s.2 w' hI
  unfold B5 at h1
  simp only [Prod.exists]
  exact h1
theorem A5_2_eq (pr : Prims) (out_3 : Sl) (stack_4 : Sl) (v_6 : Int) (t9 : Sl) (t10 : Int) (t11 : Int) (w : World) (k : Env → World → Prop) (Q : Exit → Env → World → Prop) : (q11 pr k Q) (.exit 2) (x2 out_3 stack_4 v_6 t9 t10 t11) w = (
  pr.sem1 .sl PP (Instr.buildSlice T_Sint 1 #[(0, vI v_6)]) w fun (ρ22 : Sl) ω23 =>
  pr.sem1 .sl PP (Builtin.append_ #[T_Sint, T_Sint] T_Sint #[Sl.v stack_4, Sl.v ρ22]) ω23 fun (ρ24 : Sl) ω25 =>
  k (emb3 out_3 ρ24 t9 t10 (w64 (t11 + 1))) ω25) := by kernel_rfl
theorem A5_2_s (out_3 : Sl) (stack_4 : Sl) (v_6 : Int) (t9 : Sl) (t10 : Int) (t11 : Int) (w : World) (k : Env → World → Prop) (Q : Exit → Env → World → Prop) : (q11 std k Q) (.exit 2) (x2 out_3 stack_4 v_6 t9 t10 t11) w = (
  sem1 .sl PP (Instr.buildSlice T_Sint 1 #[(0, vI v_6)]) w fun (ρ22 : Sl) ω23 =>
  sem1 .sl PP (Builtin.append_ #[T_Sint, T_Sint] T_Sint #[Sl.v stack_4, Sl.v ρ22]) ω23 fun (ρ24 : Sl) ω25 =>
  k (emb3 out_3 ρ24 t9 t10 (w64 (t11 + 1))) ω25) := A5_2_eq std out_3 stack_4 v_6 t9 t10 t11 w k Q
theorem B3_eq (pr : Prims) (out_3 : Sl) (stack_4 : Sl) (t9 : Sl) (t10 : Int) (t11 : Int) (w : World) (k : Env → World → Prop) (Q : Exit → Env → World → Prop) : B3 pr out_3 stack_4 t9 t10 t11 w k Q = (
  bif decide (t11 < t10) then (
  pr.idxK 1 t9 t11 fun (a8 : Addr) =>
  pr.load1 (.int .i64) a8 w fun (ξ9 : Int) =>
  L5 pr out_3 stack_4 ξ9 t9 t10 t11 w (q11 pr k Q))
  else (
  Q (.exit 0) (x0 out_3 stack_4) w)) := by kernel_rfl
theorem B3_s (out_3 : Sl) (stack_4 : Sl) (t9 : Sl) (t10 : Int) (t11 : Int) (w : World) (k : Env → World → Prop) (Q : Exit → Env → World → Prop) : B3 std out_3 stack_4 t9 t10 t11 w k Q = (
  bif decide (t11 < t10) then (
  idxK 1 t9 t11 fun (a8 : Addr) =>
  load1 (.int .i64) a8 w fun (ξ9 : Int) =>
  L5 std out_3 stack_4 ξ9 t9 t10 t11 w (q11 std k Q))
  else (
  Q (.exit 0) (x0 out_3 stack_4) w)) := B3_eq std out_3 stack_4 t9 t10 t11 w k Q
theorem L3_rule (out_3 : Sl) (stack_4 : Sl) (t9 : Sl) (t10 : Int) (t11 : Int) (w : World) (Q : Exit → Env → World → Prop) (I : Sl → Sl → Int → World → Prop) (μ : Sl → Sl → Int → World → Nat) (h0 : I out_3 stack_4 t11 w)
    (h : ∀ (out_3 : Sl) (stack_4 : Sl) (t11 : Int) (w' : World), I out_3 stack_4 t11 w' → B3 std out_3 stack_4 t9 t10 t11 w' (fun e2 w2 => ∃ out_3_n stack_4_n t11_n, e2 = emb3 out_3_n stack_4_n t9 t10 t11_n ∧ I out_3_n stack_4_n t11_n w2 ∧ μ out_3_n stack_4_n t11_n w2 < μ out_3 stack_4 t11 w') Q) :
    L3 std out_3 stack_4 t9 t10 t11 w Q := by
  unfold L3
  refine LoopE.intro (σ := Sl × Sl × Int) (step := S3 std Q) (fun s => emb3 s.1 s.2.1 t9 t10 s.2.2) (fun s w => I s.1 s.2.1 s.2.2 w) (fun s w => μ s.1 s.2.1 s.2.2 w) (out_3, stack_4, t11) rfl h0 ?_
  intro s w' hI
  have h1 := h s.1 s.2.1 s.2.2 w' hI
  unfold B3 at h1
  simp only [Prod.exists]
  exact h1
theorem A3_0_eq (pr : Prims) (out_3 : Sl) (stack_4 : Sl) (w : World) (R : Ending → World → Prop) : (q5 pr R) (.exit 0) (x0 out_3 stack_4) w = (
  pr.call0  PP F.slices_Reverse___int_int_ #[Sl.v stack_4] w fun ω26 =>
  pr.sem1 .sl PP (Builtin.append_ #[T_Sint, T_Sint] T_Sint #[Sl.v out_3, Sl.v stack_4]) ω26 fun (ρ27 : Sl) ω28 =>
  R (.returned (Sl.v ρ27)) ω28) := by kernel_rfl
theorem A3_0_s (out_3 : Sl) (stack_4 : Sl) (w : World) (R : Ending → World → Prop) : (q5 std R) (.exit 0) (x0 out_3 stack_4) w = (
  call0  PP F.slices_Reverse___int_int_ #[Sl.v stack_4] w fun ω26 =>
  sem1 .sl PP (Builtin.append_ #[T_Sint, T_Sint] T_Sint #[Sl.v out_3, Sl.v stack_4]) ω26 fun (ρ27 : Sl) ω28 =>
  R (.returned (Sl.v ρ27)) ω28) := A3_0_eq std out_3 stack_4 w R
theorem E_eq (pr : Prims) (p_0 : Sl) (w : World) (R : Ending → World → Prop) : E pr p_0 w R = (
  pr.sem1 .sl PP (Instr.buildSlice T_Sint 0 #[]) w fun (ρ0 : Sl) ω1 =>
  pr.sem1 .sl PP (Instr.buildSlice T_Sint 0 #[]) ω1 fun (ρ2 : Sl) ω3 =>
  L3 pr ρ0 ρ2 p_0 (p_0.n : Int) 0 ω3 (q5 pr R)) := by kernel_rfl
theorem E_s (p_0 : Sl) (w : World) (R : Ending → World → Prop) : E std p_0 w R = (
  sem1 .sl PP (Instr.buildSlice T_Sint 0 #[]) w fun (ρ0 : Sl) ω1 =>
  sem1 .sl PP (Instr.buildSlice T_Sint 0 #[]) ω1 fun (ρ2 : Sl) ω3 =>
  L3 std ρ0 ρ2 p_0 (p_0.n : Int) 0 ω3 (q5 std R)) := E_eq std p_0 w R
theorem drawsOk : drawsOk PP cfg okD (codeOf Try.f68) = true := by kernel_rfl
theorem calls (p_0 : Sl) {w : World} {R : Ending → World → Prop} (h : E std p_0 w R) : Calls PP F.impl_stackPass #[Sl.v p_0] w R :=
  calls_of noCount mixed drawOk Try.func68 rfl (c := cfg) (args := [Sl.v p_0]) rfl (Nat.le_of_ble_eq_true (by kernel_rfl)) drawsOk h
end impl_stackPass

namespace impl_StackPass
@[reducible] def cfg : Cfg := ⟨8, [], [], [], [2], [], [101, 107, 112, 15, 21, 124, 76, 137, 28, 115, 91, 81, 130], [138, 140, 82, 6, 86, 85, 132]⟩
def E (pr : Prims) (p_0 : Sl) (w : World) (R : Ending → World → Prop) : Prop :=
  wpC pr PP cfg (DD pr) (codeOf Try.f8) (retQ Try.f8.results.toList R) (argE 0 [Sl.v p_0]) w
theorem E_eq (pr : Prims) (p_0 : Sl) (w : World) (R : Ending → World → Prop) : E pr p_0 w R = (
  pr.call1 .bool PP F.impl_IsPerm #[Sl.v p_0] w fun (ρ0 : Bool) ω1 =>
  bif !ρ0 then (
  R (.returned (Sl.v Sl.nil)) ω1)
  else (
  pr.call1 .sl PP F.impl_stackPass #[Sl.v p_0] ω1 fun (ρ2 : Sl) ω3 =>
  R (.returned (Sl.v ρ2)) ω3)) := by kernel_rfl
theorem E_s (p_0 : Sl) (w : World) (R : Ending → World → Prop) : E std p_0 w R = (
  call1 .bool PP F.impl_IsPerm #[Sl.v p_0] w fun (ρ0 : Bool) ω1 =>
  bif !ρ0 then (
  R (.returned (Sl.v Sl.nil)) ω1)
  else (
  call1 .sl PP F.impl_stackPass #[Sl.v p_0] ω1 fun (ρ2 : Sl) ω3 =>
  R (.returned (Sl.v ρ2)) ω3)) := E_eq std p_0 w R
theorem drawsOk : drawsOk PP cfg okD (codeOf Try.f8) = true := by kernel_rfl
theorem calls (p_0 : Sl) {w : World} {R : Ending → World → Prop} (h : E std p_0 w R) : Calls PP F.impl_StackPass #[Sl.v p_0] w R :=
  calls_of noCount mixed drawOk Try.func8 rfl (c := cfg) (args := [Sl.v p_0]) rfl (Nat.le_of_ble_eq_true (by kernel_rfl)) drawsOk h
end impl_StackPass

namespace impl_IsStackSorted
@[reducible] def cfg : Cfg := ⟨10, [], [], [], [2], [], [101, 107, 112, 15, 21, 124, 76, 137, 28, 115, 91, 81, 130], [138, 140, 82, 6, 86, 85, 132]⟩
def E (pr : Prims) (p_0 : Sl) (w : World) (R : Ending → World → Prop) : Prop :=
  wpC pr PP cfg (DD pr) (codeOf Try.f17) (retQ Try.f17.results.toList R) (argE 0 [Sl.v p_0]) w
theorem E_eq (pr : Prims) (p_0 : Sl) (w : World) (R : Ending → World → Prop) : E pr p_0 w R = (
  pr.call1 .bool PP F.impl_IsPerm #[Sl.v p_0] w fun (ρ0 : Bool) ω1 =>
  bif ρ0 then (
  pr.call1 .sl PP F.impl_stackPass #[Sl.v p_0] ω1 fun (ρ2 : Sl) ω3 =>
  pr.call1 .bool PP F.impl_isRising #[Sl.v ρ2] ω3 fun (ρ4 : Bool) ω5 =>
  R (.returned (.bool ρ4)) ω5)
  else (
  R (.returned (.bool false)) ω1)) := by kernel_rfl
theorem E_s (p_0 : Sl) (w : World) (R : Ending → World → Prop) : E std p_0 w R = (
  call1 .bool PP F.impl_IsPerm #[Sl.v p_0] w fun (ρ0 : Bool) ω1 =>
  bif ρ0 then (
  call1 .sl PP F.impl_stackPass #[Sl.v p_0] ω1 fun (ρ2 : Sl) ω3 =>
  call1 .bool PP F.impl_isRising #[Sl.v ρ2] ω3 fun (ρ4 : Bool) ω5 =>
  R (.returned (.bool ρ4)) ω5)
  else (
  R (.returned (.bool false)) ω1)) := E_eq std p_0 w R
theorem drawsOk : drawsOk PP cfg okD (codeOf Try.f17) = true := by kernel_rfl
theorem calls (p_0 : Sl) {w : World} {R : Ending → World → Prop} (h : E std p_0 w R) : Calls PP F.impl_IsStackSorted #[Sl.v p_0] w R :=
  calls_of noCount mixed drawOk Try.func17 rfl (c := cfg) (args := [Sl.v p_0]) rfl (Nat.le_of_ble_eq_true (by kernel_rfl)) drawsOk h
end impl_IsStackSorted

namespace impl_timesOf
@[reducible] def cfg : Cfg := ⟨15, [(2, [0, 1, 5])], [(1, [0, 1, 5]), (0, [5])], [], [4], [], [101, 107, 112, 15, 21, 124, 76, 137, 28, 115, 91, 81, 130], [138, 140, 82, 6, 86, 85, 132]⟩
def q0 (pr : Prims) (R : Ending → World → Prop) : Exit → Env → World → Prop := fun ex e w => normQ ex (fun e w => contE pr cfg (sub (codeOf Try.f79) [1, 1, 1]) (fun e w => wpC pr PP cfg (DD pr) (sub (codeOf Try.f79) [1, 1, 1]) (retQ Try.f79.results.toList R) e w) e w) (retQ Try.f79.results.toList R) e w
def q1 (pr : Prims) (R : Ending → World → Prop) : Exit → Env → World → Prop := fun ex e w => blockQ ex 0 (q0 pr R) e w
def emb2 (p_0 : Sl) (pass_1 : Value) (many_5 : Int) : Env := [(0, Sl.v p_0), (1, pass_1), (5, vI many_5)]
def x0 (many_5 : Int) : Env := [(5, vI many_5)]
def S2 (pr : Prims) (Q : Exit → Env → World → Prop) : (Env → World → Prop) → Env → World → Prop := fun k e w => wpC pr PP cfg (DD pr) (sub (codeOf Try.f79) [1, 1, 0, 0, 0]) (fun ex e w => normQ ex (fun e' w' => k (Env.restr e' (lookN cfg.loops (keyOf (sub (codeOf Try.f79) [1, 1, 0, 0, 0])))) w') Q e w) e w
def B2 (pr : Prims) (p_0 : Sl) (pass_1 : Value) (many_5 : Int) (w : World) (k : Env → World → Prop) (Q : Exit → Env → World → Prop) : Prop :=
  S2 pr Q k (emb2 p_0 pass_1 many_5) w
def L2 (pr : Prims) (p_0 : Sl) (pass_1 : Value) (many_5 : Int) (w : World) (Q : Exit → Env → World → Prop) : Prop :=
  pr.loop (S2 pr Q) (emb2 p_0 pass_1 many_5) w
def E (pr : Prims) (p_0 : Sl) (pass_1 : Value) (w : World) (R : Ending → World → Prop) : Prop :=
  wpC pr PP cfg (DD pr) (codeOf Try.f79) (retQ Try.f79.results.toList R) (argE 0 [Sl.v p_0, pass_1]) w
theorem B2_eq (pr : Prims) (p_0 : Sl) (pass_1 : Value) (many_5 : Int) (w : World) (k : Env → World → Prop) (Q : Exit → Env → World → Prop) : B2 pr p_0 pass_1 many_5 w k Q = (
  pr.call1 .bool PP F.impl_isRising #[Sl.v p_0] w fun (ρ2 : Bool) ω3 =>
  bif !ρ2 then (
  pr.callV1 .sl PP (pass_1) [Sl.v p_0] ω3 fun (ρ4 : Sl) ω5 =>
  k (emb2 ρ4 pass_1 (w64 (many_5 + 1))) ω5)
  else (
  Q (.exit 0) (x0 many_5) ω3)) := by kernel_rfl
theorem B2_s (p_0 : Sl) (pass_1 : Value) (many_5 : Int) (w : World) (k : Env → World → Prop) (Q : Exit → Env → World → Prop) : B2 std p_0 pass_1 many_5 w k Q = (
  call1 .bool PP F.impl_isRising #[Sl.v p_0] w fun (ρ2 : Bool) ω3 =>
  bif !ρ2 then (
  callV1 .sl PP (pass_1) [Sl.v p_0] ω3 fun (ρ4 : Sl) ω5 =>
  k (emb2 ρ4 pass_1 (w64 (many_5 + 1))) ω5)
  else (
  Q (.exit 0) (x0 many_5) ω3)) := B2_eq std p_0 pass_1 many_5 w k Q
theorem L2_rule (p_0 : Sl) (pass_1 : Value) (many_5 : Int) (w : World) (Q : Exit → Env → World → Prop) (I : Sl → Int → World → Prop) (μ : Sl → Int → World → Nat) (h0 : I p_0 many_5 w)
    (h : ∀ (p_0 : Sl) (many_5 : Int) (w' : World), I p_0 many_5 w' → B2 std p_0 pass_1 many_5 w' (fun e2 w2 => ∃ p_0_n many_5_n, e2 = emb2 p_0_n pass_1 many_5_n ∧ I p_0_n many_5_n w2 ∧ μ p_0_n many_5_n w2 < μ p_0 many_5 w') Q) :
    L2 std p_0 pass_1 many_5 w Q := by
  unfold L2
  refine LoopE.intro (σ := Sl × Int) (step := S2 std Q) (fun s => emb2 s.1 pass_1 s.2) (fun s w => I s.1 s.2 w) (fun s w => μ s.1 s.2 w) (p_0, many_5) rfl h0 ?_
  intro s w' hI
  have h1 := h s.1 s.2 w' hI
  unfold B2 at h1
  simp only [Prod.exists]
  exact h1
theorem A2_0_eq (pr : Prims) (many_5 : Int) (w : World) (R : Ending → World → Prop) : (q1 pr R) (.exit 0) (x0 many_5) w = (
  R (.returned (vI many_5)) w) := by kernel_rfl
theorem A2_0_s (many_5 : Int) (w : World) (R : Ending → World → Prop) : (q1 std R) (.exit 0) (x0 many_5) w = (
  R (.returned (vI many_5)) w) := A2_0_eq std many_5 w R
theorem E_eq (pr : Prims) (p_0 : Sl) (pass_1 : Value) (w : World) (R : Ending → World → Prop) : E pr p_0 pass_1 w R = (
  L2 pr p_0 pass_1 0 w (q1 pr R)) := by kernel_rfl
theorem E_s (p_0 : Sl) (pass_1 : Value) (w : World) (R : Ending → World → Prop) : E std p_0 pass_1 w R = (
  L2 std p_0 pass_1 0 w (q1 std R)) := E_eq std p_0 pass_1 w R
theorem drawsOk : drawsOk PP cfg okD (codeOf Try.f79) = true := by kernel_rfl
theorem calls (p_0 : Sl) (pass_1 : Value) {w : World} {R : Ending → World → Prop} (h : E std p_0 pass_1 w R) : Calls PP F.impl_timesOf #[Sl.v p_0, pass_1] w R :=
  calls_of noCount mixed drawOk Try.func79 rfl (c := cfg) (args := [Sl.v p_0, pass_1]) rfl (Nat.le_of_ble_eq_true (by kernel_rfl)) drawsOk h
end impl_timesOf

namespace impl_StackTimes
@[reducible] def cfg : Cfg := ⟨8, [], [], [], [2], [], [101, 107, 112, 15, 21, 124, 76, 137, 28, 115, 91, 81, 130], [138, 140, 82, 6, 86, 85, 132]⟩
def E (pr : Prims) (p_0 : Sl) (w : World) (R : Ending → World → Prop) : Prop :=
  wpC pr PP cfg (DD pr) (codeOf Try.f19) (retQ Try.f19.results.toList R) (argE 0 [Sl.v p_0]) w
theorem E_eq (pr : Prims) (p_0 : Sl) (w : World) (R : Ending → World → Prop) : E pr p_0 w R = (
  pr.call1 .bool PP F.impl_IsPerm #[Sl.v p_0] w fun (ρ0 : Bool) ω1 =>
  bif !ρ0 then (
  R (.returned (vI (-1))) ω1)
  else (
  pr.call1 (.int .i64) PP F.impl_timesOf #[Sl.v p_0, .func (.func F.impl_stackPass) #[] #[]] ω1 fun (ρ2 : Int) ω3 =>
  R (.returned (vI ρ2)) ω3)) := by kernel_rfl
theorem E_s (p_0 : Sl) (w : World) (R : Ending → World → Prop) : E std p_0 w R = (
  call1 .bool PP F.impl_IsPerm #[Sl.v p_0] w fun (ρ0 : Bool) ω1 =>
  bif !ρ0 then (
  R (.returned (vI (-1))) ω1)
  else (
  call1 (.int .i64) PP F.impl_timesOf #[Sl.v p_0, .func (.func F.impl_stackPass) #[] #[]] ω1 fun (ρ2 : Int) ω3 =>
  R (.returned (vI ρ2)) ω3)) := E_eq std p_0 w R
theorem drawsOk : drawsOk PP cfg okD (codeOf Try.f19) = true := by kernel_rfl
theorem calls (p_0 : Sl) {w : World} {R : Ending → World → Prop} (h : E std p_0 w R) : Calls PP F.impl_StackTimes #[Sl.v p_0] w R :=
  calls_of noCount mixed drawOk Try.func19 rfl (c := cfg) (args := [Sl.v p_0]) rfl (Nat.le_of_ble_eq_true (by kernel_rfl)) drawsOk h
end impl_StackTimes

namespace spec_l21Pass
@[reducible] def cfg : Cfg := ⟨55, [(6, [0, 3, 4, 5]), (4, [0, 3, 4, 5])], [(3, [0, 3, 4, 5]), (2, [0, 3, 4, 5]), (1, [0, 3, 4, 5]), (0, [3, 4])], [], [2], [6], [101, 107, 112, 15, 21, 124, 76, 137, 28, 115, 91, 81, 130], [138, 140, 82, 6, 86, 85, 132]⟩
def q4 (pr : Prims) (R : Ending → World → Prop) : Exit → Env → World → Prop := fun ex e w => normQ ex (fun e w => contE pr cfg (sub (codeOf Try.f74) [1, 1, 1, 1]) (fun e w => wpC pr PP cfg (DD pr) (sub (codeOf Try.f74) [1, 1, 1, 1]) (retQ Try.f74.results.toList R) e w) e w) (retQ Try.f74.results.toList R) e w
def q5 (pr : Prims) (R : Ending → World → Prop) : Exit → Env → World → Prop := fun ex e w => blockQ ex 0 (q4 pr R) e w
def q6 (pr : Prims) (k : Env → World → Prop) (Q : Exit → Env → World → Prop) : Exit → Env → World → Prop := fun ex e w => normQ ex (fun e w => contE pr cfg (sub (codeOf Try.f74) [1, 1, 1, 0, 1, 0, 0, 1, 1]) (fun e w => wpC pr PP cfg (DD pr) (sub (codeOf Try.f74) [1, 1, 1, 0, 1, 0, 0, 1, 1]) (fun ex e w => normQ ex (fun e' w' => k (Env.restr e' (lookN cfg.loops (keyOf (sub (codeOf Try.f74) [1, 1, 1, 0, 1, 0, 0])))) w') Q e w) e w) e w) (fun ex e w => normQ ex (fun e' w' => k (Env.restr e' (lookN cfg.loops (keyOf (sub (codeOf Try.f74) [1, 1, 1, 0, 1, 0, 0])))) w') Q e w) e w
def q7 (pr : Prims) (k : Env → World → Prop) (Q : Exit → Env → World → Prop) : Exit → Env → World → Prop := fun ex e w => blockQ ex 1 (q6 pr k Q) e w
def q8 (pr : Prims) (k : Env → World → Prop) (Q : Exit → Env → World → Prop) : Exit → Env → World → Prop := fun ex e w => normQ ex (fun e w => contE pr cfg (sub (codeOf Try.f74) [1, 1, 1, 0, 1, 0, 0, 1, 0, 0, 1]) (fun e w => wpC pr PP cfg (DD pr) (sub (codeOf Try.f74) [1, 1, 1, 0, 1, 0, 0, 1, 0, 0, 1]) (q7 pr k Q) e w) e w) (q7 pr k Q) e w
def q9 (pr : Prims) (k : Env → World → Prop) (Q : Exit → Env → World → Prop) : Exit → Env → World → Prop := fun ex e w => blockQ ex 2 (q8 pr k Q) e w
def emb4 (p_0 : Sl) (out_3 : Sl) (stack_4 : Sl) (k_5 : Int) : Env := [(0, Sl.v p_0), (3, Sl.v out_3), (4, Sl.v stack_4), (5, vI k_5)]
def emb6 (p_0 : Sl) (out_3 : Sl) (stack_4 : Sl) (k_5 : Int) : Env := [(0, Sl.v p_0), (3, Sl.v out_3), (4, Sl.v stack_4), (5, vI k_5)]
def x2 (p_0 : Sl) (out_3 : Sl) (stack_4 : Sl) (k_5 : Int) : Env := [(0, Sl.v p_0), (3, Sl.v out_3), (4, Sl.v stack_4), (5, vI k_5)]
def x0 (out_3 : Sl) (stack_4 : Sl) : Env := [(3, Sl.v out_3), (4, Sl.v stack_4)]
def S6 (pr : Prims) (Q : Exit → Env → World → Prop) : (Env → World → Prop) → Env → World → Prop := fun k e w => wpC pr PP cfg (DD pr) (sub (codeOf Try.f74) [1, 1, 1, 0, 1, 0, 0, 1, 0, 0, 0, 0, 0]) (fun ex e w => normQ ex (fun e' w' => k (Env.restr e' (lookN cfg.loops (keyOf (sub (codeOf Try.f74) [1, 1, 1, 0, 1, 0, 0, 1, 0, 0, 0, 0, 0])))) w') Q e w) e w
def S4 (pr : Prims) (Q : Exit → Env → World → Prop) : (Env → World → Prop) → Env → World → Prop := fun k e w => wpC pr PP cfg (DD pr) (sub (codeOf Try.f74) [1, 1, 1, 0, 1, 0, 0]) (fun ex e w => normQ ex (fun e' w' => k (Env.restr e' (lookN cfg.loops (keyOf (sub (codeOf Try.f74) [1, 1, 1, 0, 1, 0, 0])))) w') Q e w) e w
def B6 (pr : Prims) (p_0 : Sl) (out_3 : Sl) (stack_4 : Sl) (k_5 : Int) (w : World) (k : Env → World → Prop) (Q : Exit → Env → World → Prop) : Prop :=
  S6 pr Q k (emb6 p_0 out_3 stack_4 k_5) w
def L6 (pr : Prims) (p_0 : Sl) (out_3 : Sl) (stack_4 : Sl) (k_5 : Int) (w : World) (Q : Exit → Env → World → Prop) : Prop :=
  pr.loop (S6 pr Q) (emb6 p_0 out_3 stack_4 k_5) w
def B4 (pr : Prims) (p_0 : Sl) (out_3 : Sl) (stack_4 : Sl) (k_5 : Int) (w : World) (k : Env → World → Prop) (Q : Exit → Env → World → Prop) : Prop :=
  S4 pr Q k (emb4 p_0 out_3 stack_4 k_5) w
def L4 (pr : Prims) (p_0 : Sl) (out_3 : Sl) (stack_4 : Sl) (k_5 : Int) (w : World) (Q : Exit → Env → World → Prop) : Prop :=
  pr.loop (S4 pr Q) (emb4 p_0 out_3 stack_4 k_5) w
def E (pr : Prims) (p_0 : Sl) (w : World) (R : Ending → World → Prop) : Prop :=
  wpC pr PP cfg (DD pr) (codeOf Try.f74) (retQ Try.f74.results.toList R) (argE 0 [Sl.v p_0]) w
theorem B6_eq (pr : Prims) (p_0 : Sl) (out_3 : Sl) (stack_4 : Sl) (k_5 : Int) (w : World) (k : Env → World → Prop) (Q : Exit → Env → World → Prop) : B6 pr p_0 out_3 stack_4 k_5 w k Q = (
  bif decide ((stack_4.n : Int) > 0) then (
  pr.idxK 1 stack_4 (w64 ((stack_4.n : Int) - 1)) fun (a10 : Addr) =>
  pr.load1 (.int .i64) a10 w fun (ξ11 : Int) =>
  pr.idxK 1 p_0 k_5 fun (a12 : Addr) =>
  pr.load1 (.int .i64) a12 w fun (ξ13 : Int) =>
  pr.drewAll w fun ω14 =>
  bif decide (ξ11 < ξ13) then (
  pr.idxK 1 stack_4 (w64 ((stack_4.n : Int) - 1)) fun (a15 : Addr) =>
  pr.load1 (.int .i64) a15 ω14 fun (ξ16 : Int) =>
  pr.sem1 .sl PP (Instr.buildSlice T_Sint 1 #[(0, vI ξ16)]) ω14 fun (ρ17 : Sl) ω18 =>
  pr.sem1 .sl PP (Builtin.append_ #[T_Sint, T_Sint] T_Sint #[Sl.v out_3, Sl.v ρ17]) ω18 fun (ρ19 : Sl) ω20 =>
  pr.cutK 1 stack_4 none (some (w64 ((stack_4.n : Int) - 1))) fun (s21 : Sl) =>
  k (emb6 p_0 ρ19 s21 k_5) ω20)
  else (
  Q (.exit 2) (x2 p_0 out_3 stack_4 k_5) ω14))
  else (
  pr.drewAll w fun ω22 =>
  Q (.exit 2) (x2 p_0 out_3 stack_4 k_5) ω22)) := by kernel_rfl
theorem B6_s (p_0 : Sl) (out_3 : Sl) (stack_4 : Sl) (k_5 : Int) (w : World) (k : Env → World → Prop) (Q : Exit → Env → World → Prop) : B6 std p_0 out_3 stack_4 k_5 w k Q = (
  bif decide ((stack_4.n : Int) > 0) then (
  idxK 1 stack_4 (w64 ((stack_4.n : Int) - 1)) fun (a10 : Addr) =>
  load1 (.int .i64) a10 w fun (ξ11 : Int) =>
  idxK 1 p_0 k_5 fun (a12 : Addr) =>
  load1 (.int .i64) a12 w fun (ξ13 : Int) =>
  drewAll w fun ω14 =>
  bif decide (ξ11 < ξ13) then (
  idxK 1 stack_4 (w64 ((stack_4.n : Int) - 1)) fun (a15 : Addr) =>
  load1 (.int .i64) a15 ω14 fun (ξ16 : Int) =>
  sem1 .sl PP (Instr.buildSlice T_Sint 1 #[(0, vI ξ16)]) ω14 fun (ρ17 : Sl) ω18 =>
  sem1 .sl PP (Builtin.append_ #[T_Sint, T_Sint] T_Sint #[Sl.v out_3, Sl.v ρ17]) ω18 fun (ρ19 : Sl) ω20 =>
  cutK 1 stack_4 none (some (w64 ((stack_4.n : Int) - 1))) fun (s21 : Sl) =>
  k (emb6 p_0 ρ19 s21 k_5) ω20)
  else (
  Q (.exit 2) (x2 p_0 out_3 stack_4 k_5) ω14))
  else (
  drewAll w fun ω22 =>
  Q (.exit 2) (x2 p_0 out_3 stack_4 k_5) ω22)) := B6_eq std p_0 out_3 stack_4 k_5 w k Q
theorem L6_rule (p_0 : Sl) (out_3 : Sl) (stack_4 : Sl) (k_5 : Int) (w : World) (Q : Exit → Env → World → Prop) (I : Sl → Sl → World → Prop) (μ : Sl → Sl → World → Nat) (h0 : I out_3 stack_4 w)
    (h : ∀ (out_3 : Sl) (stack_4 : Sl) (w' : World), I out_3 stack_4 w' → B6 std p_0 out_3 stack_4 k_5 w' (fun e2 w2 => ∃ out_3_n stack_4_n, e2 = emb6 p_0 out_3_n stack_4_n k_5 ∧ I out_3_n stack_4_n w2 ∧ μ out_3_n stack_4_n w2 < μ out_3 stack_4 w') Q) :
    L6 std p_0 out_3 stack_4 k_5 w Q := by
  unfold L6
  refine LoopE.intro (σ := Sl × Sl) (step := S6 std Q) (fun s => emb6 p_0 s.1 s.2 k_5) (fun s w => I s.1 s.2 w) (fun s w => μ s.1 s.2 w) (out_3, stack_4) rfl h0 ?_
  intro s w' hI
  have h1 := h s.1 s.2 w' hI
  unfold B6 at h1
  simp only [Prod.exists]
  exact h1
theorem A6_2_eq (pr : Prims) (p_0 : Sl) (out_3 : Sl) (stack_4 : Sl) (k_5 : Int) (w : World) (k : Env → World → Prop) (Q : Exit → Env → World → Prop) : (q9 pr k Q) (.exit 2) (x2 p_0 out_3 stack_4 k_5) w = (
  pr.idxK 1 p_0 k_5 fun (a23 : Addr) =>
  pr.load1 (.int .i64) a23 w fun (ξ24 : Int) =>
  pr.sem1 .sl PP (Instr.buildSlice T_Sint 1 #[(0, vI ξ24)]) w fun (ρ25 : Sl) ω26 =>
  pr.sem1 .sl PP (Builtin.append_ #[T_Sint, T_Sint] T_Sint #[Sl.v stack_4, Sl.v ρ25]) ω26 fun (ρ27 : Sl) ω28 =>
  k (emb4 p_0 out_3 ρ27 (w64 (k_5 + 1))) ω28) := by kernel_rfl
theorem A6_2_s (p_0 : Sl) (out_3 : Sl) (stack_4 : Sl) (k_5 : Int) (w : World) (k : Env → World → Prop) (Q : Exit → Env → World → Prop) : (q9 std k Q) (.exit 2) (x2 p_0 out_3 stack_4 k_5) w = (
  idxK 1 p_0 k_5 fun (a23 : Addr) =>
  load1 (.int .i64) a23 w fun (ξ24 : Int) =>
  sem1 .sl PP (Instr.buildSlice T_Sint 1 #[(0, vI ξ24)]) w fun (ρ25 : Sl) ω26 =>
  sem1 .sl PP (Builtin.append_ #[T_Sint, T_Sint] T_Sint #[Sl.v stack_4, Sl.v ρ25]) ω26 fun (ρ27 : Sl) ω28 =>
  k (emb4 p_0 out_3 ρ27 (w64 (k_5 + 1))) ω28) := A6_2_eq std p_0 out_3 stack_4 k_5 w k Q
theorem B4_eq (pr : Prims) (p_0 : Sl) (out_3 : Sl) (stack_4 : Sl) (k_5 : Int) (w : World) (k : Env → World → Prop) (Q : Exit → Env → World → Prop) : B4 pr p_0 out_3 stack_4 k_5 w k Q = (
  bif decide (k_5 < (p_0.n : Int)) then (
  L6 pr p_0 out_3 stack_4 k_5 w (q9 pr k Q))
  else (
  Q (.exit 0) (x0 out_3 stack_4) w)) := by kernel_rfl
theorem B4_s (p_0 : Sl) (out_3 : Sl) (stack_4 : Sl) (k_5 : Int) (w : World) (k : Env → World → Prop) (Q : Exit → Env → World → Prop) : B4 std p_0 out_3 stack_4 k_5 w k Q = (
  bif decide (k_5 < (p_0.n : Int)) then (
  L6 std p_0 out_3 stack_4 k_5 w (q9 std k Q))
  else (
  Q (.exit 0) (x0 out_3 stack_4) w)) := B4_eq std p_0 out_3 stack_4 k_5 w k Q
theorem L4_rule (p_0 : Sl) (out_3 : Sl) (stack_4 : Sl) (k_5 : Int) (w : World) (Q : Exit → Env → World → Prop) (I : Sl → Sl → Int → World → Prop) (μ : Sl → Sl → Int → World → Nat) (h0 : I out_3 stack_4 k_5 w)
    (h : ∀ (out_3 : Sl) (stack_4 : Sl) (k_5 : Int) (w' : World), I out_3 stack_4 k_5 w' → B4 std p_0 out_3 stack_4 k_5 w' (fun e2 w2 => ∃ out_3_n stack_4_n k_5_n, e2 = emb4 p_0 out_3_n stack_4_n k_5_n ∧ I out_3_n stack_4_n k_5_n w2 ∧ μ out_3_n stack_4_n k_5_n w2 < μ out_3 stack_4 k_5 w') Q) :
    L4 std p_0 out_3 stack_4 k_5 w Q := by
  unfold L4
  refine LoopE.intro (σ := Sl × Sl × Int) (step := S4 std Q) (fun s => emb4 p_0 s.1 s.2.1 s.2.2) (fun s w => I s.1 s.2.1 s.2.2 w) (fun s w => μ s.1 s.2.1 s.2.2 w) (out_3, stack_4, k_5) rfl h0 ?_
  intro s w' hI
  have h1 := h s.1 s.2.1 s.2.2 w' hI
  unfold B4 at h1
  simp only [Prod.exists]
  exact h1
theorem A4_0_eq (pr : Prims) (out_3 : Sl) (stack_4 : Sl) (w : World) (R : Ending → World → Prop) : (q5 pr R) (.exit 0) (x0 out_3 stack_4) w = (
  pr.call1 .sl PP F.spec_l3Reverse #[Sl.v stack_4] w fun (ρ29 : Sl) ω30 =>
  pr.sem1 .sl PP (Builtin.append_ #[T_Sint, T_Sint] T_Sint #[Sl.v out_3, Sl.v ρ29]) ω30 fun (ρ31 : Sl) ω32 =>
  R (.returned (Sl.v ρ31)) ω32) := by kernel_rfl
theorem A4_0_s (out_3 : Sl) (stack_4 : Sl) (w : World) (R : Ending → World → Prop) : (q5 std R) (.exit 0) (x0 out_3 stack_4) w = (
  call1 .sl PP F.spec_l3Reverse #[Sl.v stack_4] w fun (ρ29 : Sl) ω30 =>
  sem1 .sl PP (Builtin.append_ #[T_Sint, T_Sint] T_Sint #[Sl.v out_3, Sl.v ρ29]) ω30 fun (ρ31 : Sl) ω32 =>
  R (.returned (Sl.v ρ31)) ω32) := A4_0_eq std out_3 stack_4 w R
theorem E_eq (pr : Prims) (p_0 : Sl) (w : World) (R : Ending → World → Prop) : E pr p_0 w R = (
  pr.sem1 .sl PP (Instr.buildSlice T_Sint 0 #[]) w fun (ρ0 : Sl) ω1 =>
  pr.sem1 .sl PP (Instr.buildSlice T_Sint 0 #[]) ω1 fun (ρ2 : Sl) ω3 =>
  L4 pr p_0 ρ0 ρ2 0 ω3 (q5 pr R)) := by kernel_rfl
theorem E_s (p_0 : Sl) (w : World) (R : Ending → World → Prop) : E std p_0 w R = (
  sem1 .sl PP (Instr.buildSlice T_Sint 0 #[]) w fun (ρ0 : Sl) ω1 =>
  sem1 .sl PP (Instr.buildSlice T_Sint 0 #[]) ω1 fun (ρ2 : Sl) ω3 =>
  L4 std p_0 ρ0 ρ2 0 ω3 (q5 std R)) := E_eq std p_0 w R
theorem drawsOk : drawsOk PP cfg okD (codeOf Try.f74) = true := by kernel_rfl
theorem calls (p_0 : Sl) {w : World} {R : Ending → World → Prop} (h : E std p_0 w R) : Calls PP F.spec_l21Pass #[Sl.v p_0] w R :=
  calls_of noCount mixed drawOk Try.func74 rfl (c := cfg) (args := [Sl.v p_0]) rfl (Nat.le_of_ble_eq_true (by kernel_rfl)) drawsOk h
end spec_l21Pass

namespace spec_StackPass
@[reducible] def cfg : Cfg := ⟨9, [], [], [], [2], [], [101, 107, 112, 15, 21, 124, 76, 137, 28, 115, 91, 81, 130], [138, 140, 82, 6, 86, 85, 132]⟩
def E (pr : Prims) (p_0 : Sl) (w : World) (R : Ending → World → Prop) : Prop :=
  wpC pr PP cfg (DD pr) (codeOf Try.f16) (retQ Try.f16.results.toList R) (argE 0 [Sl.v p_0]) w
theorem E_eq (pr : Prims) (p_0 : Sl) (w : World) (R : Ending → World → Prop) : E pr p_0 w R = (
  pr.call1 .bool PP F.spec_IsPerm #[Sl.v p_0] w fun (ρ0 : Bool) ω1 =>
  bif !ρ0 then (
  pr.sem1 .sl PP (Instr.buildSlice T_Sint 0 #[]) ω1 fun (ρ2 : Sl) ω3 =>
  R (.returned (Sl.v ρ2)) ω3)
  else (
  pr.call1 .sl PP F.spec_l21Pass #[Sl.v p_0] ω1 fun (ρ4 : Sl) ω5 =>
  R (.returned (Sl.v ρ4)) ω5)) := by kernel_rfl
theorem E_s (p_0 : Sl) (w : World) (R : Ending → World → Prop) : E std p_0 w R = (
  call1 .bool PP F.spec_IsPerm #[Sl.v p_0] w fun (ρ0 : Bool) ω1 =>
  bif !ρ0 then (
  sem1 .sl PP (Instr.buildSlice T_Sint 0 #[]) ω1 fun (ρ2 : Sl) ω3 =>
  R (.returned (Sl.v ρ2)) ω3)
  else (
  call1 .sl PP F.spec_l21Pass #[Sl.v p_0] ω1 fun (ρ4 : Sl) ω5 =>
  R (.returned (Sl.v ρ4)) ω5)) := E_eq std p_0 w R
theorem drawsOk : drawsOk PP cfg okD (codeOf Try.f16) = true := by kernel_rfl
theorem calls (p_0 : Sl) {w : World} {R : Ending → World → Prop} (h : E std p_0 w R) : Calls PP F.spec_StackPass #[Sl.v p_0] w R :=
  calls_of noCount mixed drawOk Try.func16 rfl (c := cfg) (args := [Sl.v p_0]) rfl (Nat.le_of_ble_eq_true (by kernel_rfl)) drawsOk h
end spec_StackPass

namespace spec_IsStackSorted
@[reducible] def cfg : Cfg := ⟨10, [], [], [], [2], [], [101, 107, 112, 15, 21, 124, 76, 137, 28, 115, 91, 81, 130], [138, 140, 82, 6, 86, 85, 132]⟩
def E (pr : Prims) (p_0 : Sl) (w : World) (R : Ending → World → Prop) : Prop :=
  wpC pr PP cfg (DD pr) (codeOf Try.f18) (retQ Try.f18.results.toList R) (argE 0 [Sl.v p_0]) w
theorem E_eq (pr : Prims) (p_0 : Sl) (w : World) (R : Ending → World → Prop) : E pr p_0 w R = (
  pr.call1 .bool PP F.spec_IsPerm #[Sl.v p_0] w fun (ρ0 : Bool) ω1 =>
  bif ρ0 then (
  pr.call1 .sl PP F.spec_l21Pass #[Sl.v p_0] ω1 fun (ρ2 : Sl) ω3 =>
  pr.call1 .bool PP F.spec_l13Straight #[Sl.v ρ2] ω3 fun (ρ4 : Bool) ω5 =>
  R (.returned (.bool ρ4)) ω5)
  else (
  R (.returned (.bool false)) ω1)) := by kernel_rfl
theorem E_s (p_0 : Sl) (w : World) (R : Ending → World → Prop) : E std p_0 w R = (
  call1 .bool PP F.spec_IsPerm #[Sl.v p_0] w fun (ρ0 : Bool) ω1 =>
  bif ρ0 then (
  call1 .sl PP F.spec_l21Pass #[Sl.v p_0] ω1 fun (ρ2 : Sl) ω3 =>
  call1 .bool PP F.spec_l13Straight #[Sl.v ρ2] ω3 fun (ρ4 : Bool) ω5 =>
  R (.returned (.bool ρ4)) ω5)
  else (
  R (.returned (.bool false)) ω1)) := E_eq std p_0 w R
theorem drawsOk : drawsOk PP cfg okD (codeOf Try.f18) = true := by kernel_rfl
theorem calls (p_0 : Sl) {w : World} {R : Ending → World → Prop} (h : E std p_0 w R) : Calls PP F.spec_IsStackSorted #[Sl.v p_0] w R :=
  calls_of noCount mixed drawOk Try.func18 rfl (c := cfg) (args := [Sl.v p_0]) rfl (Nat.le_of_ble_eq_true (by kernel_rfl)) drawsOk h
end spec_IsStackSorted

namespace spec_StackTimes
@[reducible] def cfg : Cfg := ⟨15, [(4, [0, 3])], [(1, [0, 3]), (0, [3])], [], [2], [], [101, 107, 112, 15, 21, 124, 76, 137, 28, 115, 91, 81, 130], [138, 140, 82, 6, 86, 85, 132]⟩
def q2 (pr : Prims) (R : Ending → World → Prop) : Exit → Env → World → Prop := fun ex e w => normQ ex (fun e w => contE pr cfg (sub (codeOf Try.f20) [1, 1, 1, 1]) (fun e w => wpC pr PP cfg (DD pr) (sub (codeOf Try.f20) [1, 1, 1, 1]) (retQ Try.f20.results.toList R) e w) e w) (retQ Try.f20.results.toList R) e w
def q3 (pr : Prims) (R : Ending → World → Prop) : Exit → Env → World → Prop := fun ex e w => blockQ ex 0 (q2 pr R) e w
def emb4 (p_0 : Sl) (n_3 : Int) : Env := [(0, Sl.v p_0), (3, vI n_3)]
def x0 (n_3 : Int) : Env := [(3, vI n_3)]
def S4 (pr : Prims) (Q : Exit → Env → World → Prop) : (Env → World → Prop) → Env → World → Prop := fun k e w => wpC pr PP cfg (DD pr) (sub (codeOf Try.f20) [1, 1, 1, 0, 0, 0]) (fun ex e w => normQ ex (fun e' w' => k (Env.restr e' (lookN cfg.loops (keyOf (sub (codeOf Try.f20) [1, 1, 1, 0, 0, 0])))) w') Q e w) e w
def B4 (pr : Prims) (p_0 : Sl) (n_3 : Int) (w : World) (k : Env → World → Prop) (Q : Exit → Env → World → Prop) : Prop :=
  S4 pr Q k (emb4 p_0 n_3) w
def L4 (pr : Prims) (p_0 : Sl) (n_3 : Int) (w : World) (Q : Exit → Env → World → Prop) : Prop :=
  pr.loop (S4 pr Q) (emb4 p_0 n_3) w
def E (pr : Prims) (p_0 : Sl) (w : World) (R : Ending → World → Prop) : Prop :=
  wpC pr PP cfg (DD pr) (codeOf Try.f20) (retQ Try.f20.results.toList R) (argE 0 [Sl.v p_0]) w
theorem B4_eq (pr : Prims) (p_0 : Sl) (n_3 : Int) (w : World) (k : Env → World → Prop) (Q : Exit → Env → World → Prop) : B4 pr p_0 n_3 w k Q = (
  pr.call1 .bool PP F.spec_l13Straight #[Sl.v p_0] w fun (ρ4 : Bool) ω5 =>
  bif !ρ4 then (
  pr.call1 .sl PP F.spec_l21Pass #[Sl.v p_0] ω5 fun (ρ6 : Sl) ω7 =>
  k (emb4 ρ6 (w64 (n_3 + 1))) ω7)
  else (
  Q (.exit 0) (x0 n_3) ω5)) := by kernel_rfl
theorem B4_s (p_0 : Sl) (n_3 : Int) (w : World) (k : Env → World → Prop) (Q : Exit → Env → World → Prop) : B4 std p_0 n_3 w k Q = (
  call1 .bool PP F.spec_l13Straight #[Sl.v p_0] w fun (ρ4 : Bool) ω5 =>
  bif !ρ4 then (
  call1 .sl PP F.spec_l21Pass #[Sl.v p_0] ω5 fun (ρ6 : Sl) ω7 =>
  k (emb4 ρ6 (w64 (n_3 + 1))) ω7)
  else (
  Q (.exit 0) (x0 n_3) ω5)) := B4_eq std p_0 n_3 w k Q
theorem L4_rule (p_0 : Sl) (n_3 : Int) (w : World) (Q : Exit → Env → World → Prop) (I : Sl → Int → World → Prop) (μ : Sl → Int → World → Nat) (h0 : I p_0 n_3 w)
    (h : ∀ (p_0 : Sl) (n_3 : Int) (w' : World), I p_0 n_3 w' → B4 std p_0 n_3 w' (fun e2 w2 => ∃ p_0_n n_3_n, e2 = emb4 p_0_n n_3_n ∧ I p_0_n n_3_n w2 ∧ μ p_0_n n_3_n w2 < μ p_0 n_3 w') Q) :
    L4 std p_0 n_3 w Q := by
  unfold L4
  refine LoopE.intro (σ := Sl × Int) (step := S4 std Q) (fun s => emb4 s.1 s.2) (fun s w => I s.1 s.2 w) (fun s w => μ s.1 s.2 w) (p_0, n_3) rfl h0 ?_
  intro s w' hI
  have h1 := h s.1 s.2 w' hI
  unfold B4 at h1
  simp only [Prod.exists]
  exact h1
theorem A4_0_eq (pr : Prims) (n_3 : Int) (w : World) (R : Ending → World → Prop) : (q3 pr R) (.exit 0) (x0 n_3) w = (
  R (.returned (vI n_3)) w) := by kernel_rfl
theorem A4_0_s (n_3 : Int) (w : World) (R : Ending → World → Prop) : (q3 std R) (.exit 0) (x0 n_3) w = (
  R (.returned (vI n_3)) w) := A4_0_eq std n_3 w R
theorem E_eq (pr : Prims) (p_0 : Sl) (w : World) (R : Ending → World → Prop) : E pr p_0 w R = (
  pr.call1 .bool PP F.spec_IsPerm #[Sl.v p_0] w fun (ρ0 : Bool) ω1 =>
  bif !ρ0 then (
  R (.returned (vI (-1))) ω1)
  else (
  L4 pr p_0 0 ω1 (q3 pr R))) := by kernel_rfl
theorem E_s (p_0 : Sl) (w : World) (R : Ending → World → Prop) : E std p_0 w R = (
  call1 .bool PP F.spec_IsPerm #[Sl.v p_0] w fun (ρ0 : Bool) ω1 =>
  bif !ρ0 then (
  R (.returned (vI (-1))) ω1)
  else (
  L4 std p_0 0 ω1 (q3 std R))) := E_eq std p_0 w R
theorem drawsOk : drawsOk PP cfg okD (codeOf Try.f20) = true := by kernel_rfl
theorem calls (p_0 : Sl) {w : World} {R : Ending → World → Prop} (h : E std p_0 w R) : Calls PP F.spec_StackTimes #[Sl.v p_0] w R :=
  calls_of noCount mixed drawOk Try.func20 rfl (c := cfg) (args := [Sl.v p_0]) rfl (Nat.le_of_ble_eq_true (by kernel_rfl)) drawsOk h
end spec_StackTimes

namespace impl_isForm
@[reducible] def cfg : Cfg := ⟨41, [(3, [0, 1, 5, 8, 9, 10])], [(1, [0, 1, 5, 8, 9, 10]), (0, [])], [], [4], [], [101, 107, 112, 15, 21, 124, 76, 137, 28, 115, 91, 81, 130], [138, 140, 82, 6, 86, 85, 132]⟩
def q0 (pr : Prims) (R : Ending → World → Prop) : Exit → Env → World → Prop := fun ex e w => normQ ex (fun e w => contE pr cfg (sub (codeOf Try.f112) [1, 1, 1]) (fun e w => wpC pr PP cfg (DD pr) (sub (codeOf Try.f112) [1, 1, 1]) (retQ Try.f112.results.toList R) e w) e w) (retQ Try.f112.results.toList R) e w
def q1 (pr : Prims) (R : Ending → World → Prop) : Exit → Env → World → Prop := fun ex e w => blockQ ex 0 (q0 pr R) e w
def emb3 (form_0 : Sl) (most_1 : Int) (sum_5 : Int) (t8 : Sl) (t9 : Int) (t10 : Int) : Env := [(0, Sl.v form_0), (1, vI most_1), (5, vI sum_5), (8, Sl.v t8), (9, vI t9), (10, vI t10)]
def x0 : Env := []
def S3 (pr : Prims) (Q : Exit → Env → World → Prop) : (Env → World → Prop) → Env → World → Prop := fun k e w => wpC pr PP cfg (DD pr) (sub (codeOf Try.f112) [1, 1, 0, 1, 0, 0]) (fun ex e w => normQ ex (fun e' w' => k (Env.restr e' (lookN cfg.loops (keyOf (sub (codeOf Try.f112) [1, 1, 0, 1, 0, 0])))) w') Q e w) e w
def B3 (pr : Prims) (form_0 : Sl) (most_1 : Int) (sum_5 : Int) (t8 : Sl) (t9 : Int) (t10 : Int) (w : World) (k : Env → World → Prop) (Q : Exit → Env → World → Prop) : Prop :=
  S3 pr Q k (emb3 form_0 most_1 sum_5 t8 t9 t10) w
def L3 (pr : Prims) (form_0 : Sl) (most_1 : Int) (sum_5 : Int) (t8 : Sl) (t9 : Int) (t10 : Int) (w : World) (Q : Exit → Env → World → Prop) : Prop :=
  pr.loop (S3 pr Q) (emb3 form_0 most_1 sum_5 t8 t9 t10) w
def E (pr : Prims) (form_0 : Sl) (most_1 : Int) (w : World) (R : Ending → World → Prop) : Prop :=
  wpC pr PP cfg (DD pr) (codeOf Try.f112) (retQ Try.f112.results.toList R) (argE 0 [Sl.v form_0, vI most_1]) w
theorem B3_eq (pr : Prims) (form_0 : Sl) (most_1 : Int) (sum_5 : Int) (t8 : Sl) (t9 : Int) (t10 : Int) (w : World) (k : Env → World → Prop) (Q : Exit → Env → World → Prop) : B3 pr form_0 most_1 sum_5 t8 t9 t10 w k Q = (
  bif decide (t10 < t9) then (
  pr.idxK 1 t8 t10 fun (a2 : Addr) =>
  pr.load1 (.int .i64) a2 w fun (ξ3 : Int) =>
  bif decide (ξ3 < 1) then (
  Q .ret [(4, .bool false)] w)
  else (
  bif decide (ξ3 > (w64 (most_1 - sum_5))) then (
  Q .ret [(4, .bool false)] w)
  else (
  bif decide (t10 > 0) then (
  pr.idxK 1 form_0 (w64 (t10 - 1)) fun (a4 : Addr) =>
  pr.load1 (.int .i64) a4 w fun (ξ5 : Int) =>
  bif decide (ξ3 > ξ5) then (
  Q .ret [(4, .bool false)] w)
  else (
  k (emb3 form_0 most_1 (w64 (sum_5 + ξ3)) t8 t9 (w64 (t10 + 1))) w))
  else (
  k (emb3 form_0 most_1 (w64 (sum_5 + ξ3)) t8 t9 (w64 (t10 + 1))) w))))
  else (
  Q (.exit 0) (x0) w)) := by kernel_rfl
theorem B3_s (form_0 : Sl) (most_1 : Int) (sum_5 : Int) (t8 : Sl) (t9 : Int) (t10 : Int) (w : World) (k : Env → World → Prop) (Q : Exit → Env → World → Prop) : B3 std form_0 most_1 sum_5 t8 t9 t10 w k Q = (
  bif decide (t10 < t9) then (
  idxK 1 t8 t10 fun (a2 : Addr) =>
  load1 (.int .i64) a2 w fun (ξ3 : Int) =>
  bif decide (ξ3 < 1) then (
  Q .ret [(4, .bool false)] w)
  else (
  bif decide (ξ3 > (w64 (most_1 - sum_5))) then (
  Q .ret [(4, .bool false)] w)
  else (
  bif decide (t10 > 0) then (
  idxK 1 form_0 (w64 (t10 - 1)) fun (a4 : Addr) =>
  load1 (.int .i64) a4 w fun (ξ5 : Int) =>
  bif decide (ξ3 > ξ5) then (
  Q .ret [(4, .bool false)] w)
  else (
  k (emb3 form_0 most_1 (w64 (sum_5 + ξ3)) t8 t9 (w64 (t10 + 1))) w))
  else (
  k (emb3 form_0 most_1 (w64 (sum_5 + ξ3)) t8 t9 (w64 (t10 + 1))) w))))
  else (
  Q (.exit 0) (x0) w)) := B3_eq std form_0 most_1 sum_5 t8 t9 t10 w k Q
theorem L3_rule (form_0 : Sl) (most_1 : Int) (sum_5 : Int) (t8 : Sl) (t9 : Int) (t10 : Int) (w : World) (Q : Exit → Env → World → Prop) (I : Int → Int → World → Prop) (μ : Int → Int → World → Nat) (h0 : I sum_5 t10 w)
    (h : ∀ (sum_5 : Int) (t10 : Int) (w' : World), I sum_5 t10 w' → B3 std form_0 most_1 sum_5 t8 t9 t10 w' (fun e2 w2 => ∃ sum_5_n t10_n, e2 = emb3 form_0 most_1 sum_5_n t8 t9 t10_n ∧ I sum_5_n t10_n w2 ∧ μ sum_5_n t10_n w2 < μ sum_5 t10 w') Q) :
    L3 std form_0 most_1 sum_5 t8 t9 t10 w Q := by
  unfold L3
  refine LoopE.intro (σ := Int × Int) (step := S3 std Q) (fun s => emb3 form_0 most_1 s.1 t8 t9 s.2) (fun s w => I s.1 s.2 w) (fun s w => μ s.1 s.2 w) (sum_5, t10) rfl h0 ?_
  intro s w' hI
  have h1 := h s.1 s.2 w' hI
  unfold B3 at h1
  simp only [Prod.exists]
  exact h1
theorem A3_0_eq (pr : Prims) (w : World) (R : Ending → World → Prop) : (q1 pr R) (.exit 0) (x0) w = (
  R (.returned (.bool true)) w) := by kernel_rfl
theorem A3_0_s (w : World) (R : Ending → World → Prop) : (q1 std R) (.exit 0) (x0) w = (
  R (.returned (.bool true)) w) := A3_0_eq std w R
theorem R3_eq (pr : Prims) (v4 : Value) (w : World) (R : Ending → World → Prop) : (q1 pr R) .ret [(4, v4)] w = (
  R (.returned (v4)) w) := by kernel_rfl
theorem R3_s (v4 : Value) (w : World) (R : Ending → World → Prop) : (q1 std R) .ret [(4, v4)] w = (
  R (.returned (v4)) w) := R3_eq std v4 w R
theorem E_eq (pr : Prims) (form_0 : Sl) (most_1 : Int) (w : World) (R : Ending → World → Prop) : E pr form_0 most_1 w R = (
  L3 pr form_0 most_1 0 form_0 (form_0.n : Int) 0 w (q1 pr R)) := by kernel_rfl
theorem E_s (form_0 : Sl) (most_1 : Int) (w : World) (R : Ending → World → Prop) : E std form_0 most_1 w R = (
  L3 std form_0 most_1 0 form_0 (form_0.n : Int) 0 w (q1 std R)) := E_eq std form_0 most_1 w R
theorem drawsOk : drawsOk PP cfg okD (codeOf Try.f112) = true := by kernel_rfl
theorem calls (form_0 : Sl) (most_1 : Int) {w : World} {R : Ending → World → Prop} (h : E std form_0 most_1 w R) : Calls PP F.impl_isForm #[Sl.v form_0, vI most_1] w R :=
  calls_of noCount mixed drawOk Try.func112 rfl (c := cfg) (args := [Sl.v form_0, vI most_1]) rfl (Nat.le_of_ble_eq_true (by kernel_rfl)) drawsOk h
end impl_isForm

namespace spec_l19Form
@[reducible] def cfg : Cfg := ⟨56, [(3, [0, 1, 5, 6])], [(1, [0, 1, 5, 6]), (0, [1, 5])], [], [4], [5], [101, 107, 112, 15, 21, 124, 76, 137, 28, 115, 91, 81, 130], [138, 140, 82, 6, 86, 85, 132]⟩
def q0 (pr : Prims) (R : Ending → World → Prop) : Exit → Env → World → Prop := fun ex e w => normQ ex (fun e w => contE pr cfg (sub (codeOf Try.f115) [1, 1, 1]) (fun e w => wpC pr PP cfg (DD pr) (sub (codeOf Try.f115) [1, 1, 1]) (retQ Try.f115.results.toList R) e w) e w) (retQ Try.f115.results.toList R) e w
def q1 (pr : Prims) (R : Ending → World → Prop) : Exit → Env → World → Prop := fun ex e w => blockQ ex 0 (q0 pr R) e w
def emb3 (form_0 : Sl) (most_1 : Int) (sum_5 : Int) (k_6 : Int) : Env := [(0, Sl.v form_0), (1, vI most_1), (5, vI sum_5), (6, vI k_6)]
def x0 (most_1 : Int) (sum_5 : Int) : Env := [(1, vI most_1), (5, vI sum_5)]
def S3 (pr : Prims) (Q : Exit → Env → World → Prop) : (Env → World → Prop) → Env → World → Prop := fun k e w => wpC pr PP cfg (DD pr) (sub (codeOf Try.f115) [1, 1, 0, 1, 0, 0]) (fun ex e w => normQ ex (fun e' w' => k (Env.restr e' (lookN cfg.loops (keyOf (sub (codeOf Try.f115) [1, 1, 0, 1, 0, 0])))) w') Q e w) e w
def B3 (pr : Prims) (form_0 : Sl) (most_1 : Int) (sum_5 : Int) (k_6 : Int) (w : World) (k : Env → World → Prop) (Q : Exit → Env → World → Prop) : Prop :=
  S3 pr Q k (emb3 form_0 most_1 sum_5 k_6) w
def L3 (pr : Prims) (form_0 : Sl) (most_1 : Int) (sum_5 : Int) (k_6 : Int) (w : World) (Q : Exit → Env → World → Prop) : Prop :=
  pr.loop (S3 pr Q) (emb3 form_0 most_1 sum_5 k_6) w
def E (pr : Prims) (form_0 : Sl) (most_1 : Int) (w : World) (R : Ending → World → Prop) : Prop :=
  wpC pr PP cfg (DD pr) (codeOf Try.f115) (retQ Try.f115.results.toList R) (argE 0 [Sl.v form_0, vI most_1]) w
theorem B3_eq (pr : Prims) (form_0 : Sl) (most_1 : Int) (sum_5 : Int) (k_6 : Int) (w : World) (k : Env → World → Prop) (Q : Exit → Env → World → Prop) : B3 pr form_0 most_1 sum_5 k_6 w k Q = (
  bif decide (k_6 < (form_0.n : Int)) then (
  pr.idxK 1 form_0 k_6 fun (a2 : Addr) =>
  pr.load1 (.int .i64) a2 w fun (ξ3 : Int) =>
  bif decide (ξ3 < 1) then (
  pr.drewAll w fun ω4 =>
  Q .ret [(4, .bool false)] ω4)
  else (
  pr.idxK 1 form_0 k_6 fun (a5 : Addr) =>
  pr.load1 (.int .i64) a5 w fun (ξ6 : Int) =>
  bif decide (ξ6 > most_1) then (
  pr.drewAll w fun ω7 =>
  Q .ret [(4, .bool false)] ω7)
  else (
  bif decide (k_6 > 0) then (
  pr.idxK 1 form_0 k_6 fun (a8 : Addr) =>
  pr.load1 (.int .i64) a8 w fun (ξ9 : Int) =>
  pr.idxK 1 form_0 (w64 (k_6 - 1)) fun (a10 : Addr) =>
  pr.load1 (.int .i64) a10 w fun (ξ11 : Int) =>
  bif decide (ξ9 > ξ11) then (
  pr.drewAll w fun ω12 =>
  Q .ret [(4, .bool false)] ω12)
  else (
  pr.drewAll w fun ω13 =>
  bif decide (k_6 ≥ most_1) then (
  Q .ret [(4, .bool false)] ω13)
  else (
  pr.idxK 1 form_0 k_6 fun (a14 : Addr) =>
  pr.load1 (.int .i64) a14 ω13 fun (ξ15 : Int) =>
  k (emb3 form_0 most_1 (w64 (sum_5 + ξ15)) (w64 (k_6 + 1))) ω13)))
  else (
  pr.drewAll w fun ω16 =>
  bif decide (k_6 ≥ most_1) then (
  Q .ret [(4, .bool false)] ω16)
  else (
  pr.idxK 1 form_0 k_6 fun (a17 : Addr) =>
  pr.load1 (.int .i64) a17 ω16 fun (ξ18 : Int) =>
  k (emb3 form_0 most_1 (w64 (sum_5 + ξ18)) (w64 (k_6 + 1))) ω16)))))
  else (
  Q (.exit 0) (x0 most_1 sum_5) w)) := by kernel_rfl
theorem B3_s (form_0 : Sl) (most_1 : Int) (sum_5 : Int) (k_6 : Int) (w : World) (k : Env → World → Prop) (Q : Exit → Env → World → Prop) : B3 std form_0 most_1 sum_5 k_6 w k Q = (
  bif decide (k_6 < (form_0.n : Int)) then (
  idxK 1 form_0 k_6 fun (a2 : Addr) =>
  load1 (.int .i64) a2 w fun (ξ3 : Int) =>
  bif decide (ξ3 < 1) then (
  drewAll w fun ω4 =>
  Q .ret [(4, .bool false)] ω4)
  else (
  idxK 1 form_0 k_6 fun (a5 : Addr) =>
  load1 (.int .i64) a5 w fun (ξ6 : Int) =>
  bif decide (ξ6 > most_1) then (
  drewAll w fun ω7 =>
  Q .ret [(4, .bool false)] ω7)
  else (
  bif decide (k_6 > 0) then (
  idxK 1 form_0 k_6 fun (a8 : Addr) =>
  load1 (.int .i64) a8 w fun (ξ9 : Int) =>
  idxK 1 form_0 (w64 (k_6 - 1)) fun (a10 : Addr) =>
  load1 (.int .i64) a10 w fun (ξ11 : Int) =>
  bif decide (ξ9 > ξ11) then (
  drewAll w fun ω12 =>
  Q .ret [(4, .bool false)] ω12)
  else (
  drewAll w fun ω13 =>
  bif decide (k_6 ≥ most_1) then (
  Q .ret [(4, .bool false)] ω13)
  else (
  idxK 1 form_0 k_6 fun (a14 : Addr) =>
  load1 (.int .i64) a14 ω13 fun (ξ15 : Int) =>
  k (emb3 form_0 most_1 (w64 (sum_5 + ξ15)) (w64 (k_6 + 1))) ω13)))
  else (
  drewAll w fun ω16 =>
  bif decide (k_6 ≥ most_1) then (
  Q .ret [(4, .bool false)] ω16)
  else (
  idxK 1 form_0 k_6 fun (a17 : Addr) =>
  load1 (.int .i64) a17 ω16 fun (ξ18 : Int) =>
  k (emb3 form_0 most_1 (w64 (sum_5 + ξ18)) (w64 (k_6 + 1))) ω16)))))
  else (
  Q (.exit 0) (x0 most_1 sum_5) w)) := B3_eq std form_0 most_1 sum_5 k_6 w k Q
theorem L3_rule (form_0 : Sl) (most_1 : Int) (sum_5 : Int) (k_6 : Int) (w : World) (Q : Exit → Env → World → Prop) (I : Int → Int → World → Prop) (μ : Int → Int → World → Nat) (h0 : I sum_5 k_6 w)
    (h : ∀ (sum_5 : Int) (k_6 : Int) (w' : World), I sum_5 k_6 w' → B3 std form_0 most_1 sum_5 k_6 w' (fun e2 w2 => ∃ sum_5_n k_6_n, e2 = emb3 form_0 most_1 sum_5_n k_6_n ∧ I sum_5_n k_6_n w2 ∧ μ sum_5_n k_6_n w2 < μ sum_5 k_6 w') Q) :
    L3 std form_0 most_1 sum_5 k_6 w Q := by
  unfold L3
  refine LoopE.intro (σ := Int × Int) (step := S3 std Q) (fun s => emb3 form_0 most_1 s.1 s.2) (fun s w => I s.1 s.2 w) (fun s w => μ s.1 s.2 w) (sum_5, k_6) rfl h0 ?_
  intro s w' hI
  have h1 := h s.1 s.2 w' hI
  unfold B3 at h1
  simp only [Prod.exists]
  exact h1
theorem A3_0_eq (pr : Prims) (most_1 : Int) (sum_5 : Int) (w : World) (R : Ending → World → Prop) : (q1 pr R) (.exit 0) (x0 most_1 sum_5) w = (
  R (.returned (.bool (decide (sum_5 ≤ most_1)))) w) := by kernel_rfl
theorem A3_0_s (most_1 : Int) (sum_5 : Int) (w : World) (R : Ending → World → Prop) : (q1 std R) (.exit 0) (x0 most_1 sum_5) w = (
  R (.returned (.bool (decide (sum_5 ≤ most_1)))) w) := A3_0_eq std most_1 sum_5 w R
theorem R3_eq (pr : Prims) (v4 : Value) (w : World) (R : Ending → World → Prop) : (q1 pr R) .ret [(4, v4)] w = (
  R (.returned (v4)) w) := by kernel_rfl
theorem R3_s (v4 : Value) (w : World) (R : Ending → World → Prop) : (q1 std R) .ret [(4, v4)] w = (
  R (.returned (v4)) w) := R3_eq std v4 w R
theorem E_eq (pr : Prims) (form_0 : Sl) (most_1 : Int) (w : World) (R : Ending → World → Prop) : E pr form_0 most_1 w R = (
  L3 pr form_0 most_1 0 0 w (q1 pr R)) := by kernel_rfl
theorem E_s (form_0 : Sl) (most_1 : Int) (w : World) (R : Ending → World → Prop) : E std form_0 most_1 w R = (
  L3 std form_0 most_1 0 0 w (q1 std R)) := E_eq std form_0 most_1 w R
theorem drawsOk : drawsOk PP cfg okD (codeOf Try.f115) = true := by kernel_rfl
theorem calls (form_0 : Sl) (most_1 : Int) {w : World} {R : Ending → World → Prop} (h : E std form_0 most_1 w R) : Calls PP F.spec_l19Form #[Sl.v form_0, vI most_1] w R :=
  calls_of noCount mixed drawOk Try.func115 rfl (c := cfg) (args := [Sl.v form_0, vI most_1]) rfl (Nat.le_of_ble_eq_true (by kernel_rfl)) drawsOk h
end spec_l19Form

namespace spec_l1Max
@[reducible] def cfg : Cfg := ⟨10, [], [], [], [4], [], [101, 107, 112, 15, 21, 124, 76, 137, 28, 115, 91, 81, 130], [138, 140, 82, 6, 86, 85, 132]⟩
def E (pr : Prims) (a_0 : Int) (b_1 : Int) (w : World) (R : Ending → World → Prop) : Prop :=
  wpC pr PP cfg (DD pr) (codeOf Try.f132) (retQ Try.f132.results.toList R) (argE 0 [vI a_0, vI b_1]) w
theorem E_eq (pr : Prims) (a_0 : Int) (b_1 : Int) (w : World) (R : Ending → World → Prop) : E pr a_0 b_1 w R = (
  bif decide (a_0 > b_1) then (
  R (.returned (vI a_0)) w)
  else (
  R (.returned (vI b_1)) w)) := by kernel_rfl
theorem E_s (a_0 : Int) (b_1 : Int) (w : World) (R : Ending → World → Prop) : E std a_0 b_1 w R = (
  bif decide (a_0 > b_1) then (
  R (.returned (vI a_0)) w)
  else (
  R (.returned (vI b_1)) w)) := E_eq std a_0 b_1 w R
theorem drawsOk : drawsOk PP cfg okD (codeOf Try.f132) = true := by kernel_rfl
theorem calls (a_0 : Int) (b_1 : Int) {w : World} {R : Ending → World → Prop} (h : E std a_0 b_1 w R) : Calls PP F.spec_l1Max #[vI a_0, vI b_1] w R :=
  calls_of noCount mixed drawOk Try.func132 rfl (c := cfg) (args := [vI a_0, vI b_1]) rfl (Nat.le_of_ble_eq_true (by kernel_rfl)) drawsOk h
end spec_l1Max

namespace impl_isSix
@[reducible] def cfg : Cfg := ⟨9, [], [], [], [2], [], [101, 107, 112, 15, 21, 124, 76, 137, 28, 115, 91, 81, 130], [138, 140, 82, 6, 86, 85, 132]⟩
def E (pr : Prims) (n_0 : Int) (w : World) (R : Ending → World → Prop) : Prop :=
  wpC pr PP cfg (DD pr) (codeOf Try.f82) (retQ Try.f82.results.toList R) (argE 0 [vI n_0]) w
theorem E_eq (pr : Prims) (n_0 : Int) (w : World) (R : Ending → World → Prop) : E pr n_0 w R = (
  bif decide (n_0 ≥ 0) then (
  R (.returned (.bool (decide (n_0 ≤ 6)))) w)
  else (
  R (.returned (.bool false)) w)) := by kernel_rfl
theorem E_s (n_0 : Int) (w : World) (R : Ending → World → Prop) : E std n_0 w R = (
  bif decide (n_0 ≥ 0) then (
  R (.returned (.bool (decide (n_0 ≤ 6)))) w)
  else (
  R (.returned (.bool false)) w)) := E_eq std n_0 w R
theorem drawsOk : drawsOk PP cfg okD (codeOf Try.f82) = true := by kernel_rfl
theorem calls (n_0 : Int) {w : World} {R : Ending → World → Prop} (h : E std n_0 w R) : Calls PP F.impl_isSix #[vI n_0] w R :=
  calls_of noCount mixed drawOk Try.func82 rfl (c := cfg) (args := [vI n_0]) rfl (Nat.le_of_ble_eq_true (by kernel_rfl)) drawsOk h
end impl_isSix

namespace cmp_isNaN_int_
@[reducible] def cfg : Cfg := ⟨6, [], [], [], [2], [], [101, 107, 112, 15, 21, 124, 76, 137, 28, 115, 91, 81, 130], [138, 140, 82, 6, 86, 85, 132]⟩
def E (pr : Prims) (x_0 : Int) (w : World) (R : Ending → World → Prop) : Prop :=
  wpC pr PP cfg (DD pr) (codeOf Try.f140) (retQ Try.f140.results.toList R) (argE 0 [vI x_0]) w
theorem E_eq (pr : Prims) (x_0 : Int) (w : World) (R : Ending → World → Prop) : E pr x_0 w R = (
  R (.returned (.bool (x_0 != x_0))) w) := by kernel_rfl
theorem E_s (x_0 : Int) (w : World) (R : Ending → World → Prop) : E std x_0 w R = (
  R (.returned (.bool (x_0 != x_0))) w) := E_eq std x_0 w R
theorem drawsOk : drawsOk PP cfg okD (codeOf Try.f140) = true := by kernel_rfl
theorem calls (x_0 : Int) {w : World} {R : Ending → World → Prop} (h : E std x_0 w R) : Calls PP F.cmp_isNaN_int_ #[vI x_0] w R :=
  calls_of noCount mixed drawOk Try.func140 rfl (c := cfg) (args := [vI x_0]) rfl (Nat.le_of_ble_eq_true (by kernel_rfl)) drawsOk h
end cmp_isNaN_int_

namespace spec_IdentityPerm
@[reducible] def cfg : Cfg := ⟨20, [(3, [0, 3, 4])], [(1, [0, 3, 4]), (0, [3])], [], [2], [], [101, 107, 112, 15, 21, 124, 76, 137, 28, 115, 91, 81, 130], [138, 140, 82, 6, 86, 85, 132]⟩
def q2 (pr : Prims) (R : Ending → World → Prop) : Exit → Env → World → Prop := fun ex e w => normQ ex (fun e w => contE pr cfg (sub (codeOf Try.f96) [1, 1, 1]) (fun e w => wpC pr PP cfg (DD pr) (sub (codeOf Try.f96) [1, 1, 1]) (retQ Try.f96.results.toList R) e w) e w) (retQ Try.f96.results.toList R) e w
def q3 (pr : Prims) (R : Ending → World → Prop) : Exit → Env → World → Prop := fun ex e w => blockQ ex 0 (q2 pr R) e w
def emb3 (n_0 : Int) (out_3 : Sl) (k_4 : Int) : Env := [(0, vI n_0), (3, Sl.v out_3), (4, vI k_4)]
def x0 (out_3 : Sl) : Env := [(3, Sl.v out_3)]
def S3 (pr : Prims) (Q : Exit → Env → World → Prop) : (Env → World → Prop) → Env → World → Prop := fun k e w => wpC pr PP cfg (DD pr) (sub (codeOf Try.f96) [1, 1, 0, 1, 0, 0]) (fun ex e w => normQ ex (fun e' w' => k (Env.restr e' (lookN cfg.loops (keyOf (sub (codeOf Try.f96) [1, 1, 0, 1, 0, 0])))) w') Q e w) e w
def B3 (pr : Prims) (n_0 : Int) (out_3 : Sl) (k_4 : Int) (w : World) (k : Env → World → Prop) (Q : Exit → Env → World → Prop) : Prop :=
  S3 pr Q k (emb3 n_0 out_3 k_4) w
def L3 (pr : Prims) (n_0 : Int) (out_3 : Sl) (k_4 : Int) (w : World) (Q : Exit → Env → World → Prop) : Prop :=
  pr.loop (S3 pr Q) (emb3 n_0 out_3 k_4) w
def E (pr : Prims) (n_0 : Int) (w : World) (R : Ending → World → Prop) : Prop :=
  wpC pr PP cfg (DD pr) (codeOf Try.f96) (retQ Try.f96.results.toList R) (argE 0 [vI n_0]) w
theorem B3_eq (pr : Prims) (n_0 : Int) (out_3 : Sl) (k_4 : Int) (w : World) (k : Env → World → Prop) (Q : Exit → Env → World → Prop) : B3 pr n_0 out_3 k_4 w k Q = (
  bif decide (k_4 ≤ n_0) then (
  bif decide (n_0 ≤ 8) then (
  pr.sem1 .sl PP (Instr.buildSlice T_Sint 1 #[(0, vI k_4)]) w fun (ρ4 : Sl) ω5 =>
  pr.sem1 .sl PP (Builtin.append_ #[T_Sint, T_Sint] T_Sint #[Sl.v out_3, Sl.v ρ4]) ω5 fun (ρ6 : Sl) ω7 =>
  k (emb3 n_0 ρ6 (w64 (k_4 + 1))) ω7)
  else (
  Q (.exit 0) (x0 out_3) w))
  else (
  Q (.exit 0) (x0 out_3) w)) := by kernel_rfl
theorem B3_s (n_0 : Int) (out_3 : Sl) (k_4 : Int) (w : World) (k : Env → World → Prop) (Q : Exit → Env → World → Prop) : B3 std n_0 out_3 k_4 w k Q = (
  bif decide (k_4 ≤ n_0) then (
  bif decide (n_0 ≤ 8) then (
  sem1 .sl PP (Instr.buildSlice T_Sint 1 #[(0, vI k_4)]) w fun (ρ4 : Sl) ω5 =>
  sem1 .sl PP (Builtin.append_ #[T_Sint, T_Sint] T_Sint #[Sl.v out_3, Sl.v ρ4]) ω5 fun (ρ6 : Sl) ω7 =>
  k (emb3 n_0 ρ6 (w64 (k_4 + 1))) ω7)
  else (
  Q (.exit 0) (x0 out_3) w))
  else (
  Q (.exit 0) (x0 out_3) w)) := B3_eq std n_0 out_3 k_4 w k Q
theorem L3_rule (n_0 : Int) (out_3 : Sl) (k_4 : Int) (w : World) (Q : Exit → Env → World → Prop) (I : Sl → Int → World → Prop) (μ : Sl → Int → World → Nat) (h0 : I out_3 k_4 w)
    (h : ∀ (out_3 : Sl) (k_4 : Int) (w' : World), I out_3 k_4 w' → B3 std n_0 out_3 k_4 w' (fun e2 w2 => ∃ out_3_n k_4_n, e2 = emb3 n_0 out_3_n k_4_n ∧ I out_3_n k_4_n w2 ∧ μ out_3_n k_4_n w2 < μ out_3 k_4 w') Q) :
    L3 std n_0 out_3 k_4 w Q := by
  unfold L3
  refine LoopE.intro (σ := Sl × Int) (step := S3 std Q) (fun s => emb3 n_0 s.1 s.2) (fun s w => I s.1 s.2 w) (fun s w => μ s.1 s.2 w) (out_3, k_4) rfl h0 ?_
  intro s w' hI
  have h1 := h s.1 s.2 w' hI
  unfold B3 at h1
  simp only [Prod.exists]
  exact h1
theorem A3_0_eq (pr : Prims) (out_3 : Sl) (w : World) (R : Ending → World → Prop) : (q3 pr R) (.exit 0) (x0 out_3) w = (
  R (.returned (Sl.v out_3)) w) := by kernel_rfl
theorem A3_0_s (out_3 : Sl) (w : World) (R : Ending → World → Prop) : (q3 std R) (.exit 0) (x0 out_3) w = (
  R (.returned (Sl.v out_3)) w) := A3_0_eq std out_3 w R
theorem E_eq (pr : Prims) (n_0 : Int) (w : World) (R : Ending → World → Prop) : E pr n_0 w R = (
  pr.sem1 .sl PP (Instr.buildSlice T_Sint 0 #[]) w fun (ρ0 : Sl) ω1 =>
  L3 pr n_0 ρ0 1 ω1 (q3 pr R)) := by kernel_rfl
theorem E_s (n_0 : Int) (w : World) (R : Ending → World → Prop) : E std n_0 w R = (
  sem1 .sl PP (Instr.buildSlice T_Sint 0 #[]) w fun (ρ0 : Sl) ω1 =>
  L3 std n_0 ρ0 1 ω1 (q3 std R)) := E_eq std n_0 w R
theorem drawsOk : drawsOk PP cfg okD (codeOf Try.f96) = true := by kernel_rfl
theorem calls (n_0 : Int) {w : World} {R : Ending → World → Prop} (h : E std n_0 w R) : Calls PP F.spec_IdentityPerm #[vI n_0] w R :=
  calls_of noCount mixed drawOk Try.func96 rfl (c := cfg) (args := [vI n_0]) rfl (Nat.le_of_ble_eq_true (by kernel_rfl)) drawsOk h
end spec_IdentityPerm

end Go.Proofs.Ytdchjhhpbdekeaa

/- Small helpers of the model text. -/
namespace Go.Proofs.Ytdchjhhpbdekeaa
open Go Go.RowKit
set_option maxRecDepth 100000

theorem c_l1In (n lo hi : Int) : Pure F.spec_l1In #[vI n, vI lo, vI hi] (.bool (decide (lo ≤ n) && decide (n ≤ hi))) := by
  intro w
  refine spec_l1In.calls n lo hi ?_
  rw [spec_l1In.E_s]
  refine bif_dec (fun h => ?_) (fun h => ?_)
  · have h' : lo ≤ n := h
    simp [h']
  · have h' : ¬ lo ≤ n := h
    simp [h']
theorem c_l1Bit (b : Bool) : Pure F.spec_l1Bit #[.bool b] (vI (if b then 1 else 0)) := by
  intro w
  refine spec_l1Bit.calls b ?_
  rw [spec_l1Bit.E_s]
  cases b <;> simp
end Go.Proofs.Ytdchjhhpbdekeaa

/- The laws' helpers over rows of ints: the copy and the comparison. -/
namespace Go.Proofs.Ytdchjhhpbdekeaa
open Go Go.RowKit
set_option maxRecDepth 100000

theorem take_step {α : Type} (L : List α) (z : α) {i : Nat} (hi : i < L.length) : (L.take i ++ List.replicate (L.length - i) z).set i L[i] = L.take (i + 1) ++ List.replicate (L.length - (i + 1)) z := by
  have h1 : List.replicate (L.length - i) z = z :: List.replicate (L.length - (i + 1)) z := by
    rw [show L.length - i = (L.length - (i + 1)) + 1 by omega, List.replicate_succ]
  have h2 : (L.take i).length = i := by simp; omega
  have h3 : L.take (i + 1) = L.take i ++ [L[i]] := by simp
  rw [h1, List.set_append_right _ _ (by omega), h2, Nat.sub_self, List.set_cons_zero, h3, List.append_assoc]
  rfl
theorem getD_eq {L : List Int} {i : Nat} (hi : i < L.length) : L.getD i 0 = L[i] := by simp [List.getD_eq_getElem?_getD, List.getElem?_eq_getElem hi]

end Go.Proofs.Ytdchjhhpbdekeaa

/- Both tests of a permutation answer alike. -/
namespace Go.Proofs.Ytdchjhhpbdekeaa
open Go Go.RowKit
set_option maxRecDepth 100000

/-- Each of the numbers 1 to the length once. -/
def pOk (L : List Int) (j : Nat) : Prop := 1 ≤ L.getD j 0 ∧ L.getD j 0 ≤ L.length ∧ ∀ i, i < j → L.getD i 0 ≠ L.getD j 0
def PermOk (L : List Int) : Prop := ∀ j, j < L.length → pOk L j
def IsP (L : List Int) : Prop := L.length ≤ 8 ∧ PermOk L
theorem oneBool : OneT T_Sbool T_bool (.bool false) := oneT_of (by kernel_rfl) (by kernel_rfl) rfl

open Classical in
theorem c_isPerm {w : World} {a : Sl} {L : List Int} (ha : RowI w a L) (hL : L.length < 2^38) :
    Calls PP F.impl_isPerm #[a.v] w fun e w' => e = .returned (.bool (decide (PermOk L))) ∧ Below w.heap.size w w' := by
  have han : a.n = L.length := by have := ha.n; simpa using this
  refine impl_isPerm.calls a ?_
  rw [impl_isPerm.E_s]
  rw [w64_succ (n := (a.n : Int)) (by omega) (by omega)]
  refine make_own oneBool (B := w.heap.size) (Nat.le_refl _) (by omega) (by omega) ?_
  intro s w1 hown hg _
  refine impl_isPerm.L3_rule _ _ _ _ _ _ _ (I := fun k w' => 0 ≤ k ∧ k ≤ L.length ∧ Below w.heap.size w w' ∧ (∀ j, j < k.toNat → pOk L j) ∧
      ∃ bs : List Bool, bs.length = L.length + 1 ∧ Own w' w.heap.size T_bool s (bs.map Value.bool) ∧ ∀ v : Nat, v < bs.length → (bs.getD v false = true ↔ ∃ i, i < k.toNat ∧ L.getD i 0 = v)) (μ := fun k _ => (L.length - k).toNat)
    ⟨by omega, by omega, below_of_grow hg, fun j hj => by simp at hj, List.replicate (L.length + 1) false, by simp, by simpa [han] using hown, fun v hv => by simp [List.getD_eq_getElem?_getD, List.getElem?_replicate]; split <;> simp⟩ ?_
  rintro k w' ⟨h0, hk, hb, hall, bs, hbl, hown, hseen⟩
  have hsucc : (k + 1).toNat = k.toNat + 1 := by omega
  have bad : k < L.length → ¬ pOk L k.toNat → impl_isPerm.q3 std (fun e w' => e = .returned (.bool (decide (PermOk L))) ∧ Below w.heap.size w w') .ret [(2, .bool false)] w' := by
    intro hk3 hbd
    rw [impl_isPerm.R3_s]
    have : ¬ PermOk L := fun h => hbd (h k.toNat (by omega))
    exact ⟨by simp [this], hb⟩
  rw [impl_isPerm.B3_s]
  refine bif_dec (fun h3 => ?_) (fun h3 => ?_)
  · have hlt : k.toNat < L.length := by omega
    refine RowI.get (ha.grow hb) h0 (by omega) ?_
    refine bif_dec (fun h4 => bad (by omega) fun hg => by have := hg.1; omega) (fun h4 => ?_)
    refine bif_dec (fun h5 => bad (by omega) fun hg => by have := hg.2.1; omega) (fun h5 => ?_)
    have hx0 : 1 ≤ L.getD k.toNat 0 := by omega
    have hx1 : L.getD k.toNat 0 ≤ L.length := by omega
    generalize hx : L.getD k.toNat 0 = x at hx0 hx1 h4 h5 ⊢
    have hxl : x.toNat < bs.length := by omega
    have hval : (bs.map Value.bool)[x.toNat]? = some (Sh.bool.enc (bs.getD x.toNat false)) := by simp [List.getD_eq_getElem?_getD, List.getElem?_eq_getElem hxl]
    refine Row.get (sh := .bool) hown.row (by omega) hval ?_
    refine bif_intro (fun h6 => bad (by omega) fun hg => ?_) (fun h6 => ?_)
    · obtain ⟨i, hi, he⟩ := (hseen x.toNat hxl).1 h6
      exact hg.2.2 i hi (by rw [he, hx]; omega)
    · refine Own.put hown (by omega) (by simp; omega) ?_
      intro w2 hown2 hg2 _
      refine ⟨k + 1, by rw [w64_succ h0 (by omega)], ⟨by omega, by omega, hb.grown hg2 hb.size (fun g hg => (hown.lt g hg).1), fun j hj => ?_, bs.set x.toNat true, by simpa using hbl, by simpa [List.map_set] using hown2, fun v hv => ?_⟩, by omega⟩
      · by_cases hj2 : j < k.toNat
        · exact hall j hj2
        · have : j = k.toNat := by omega
          subst this
          refine ⟨by omega, by omega, fun i hi he => ?_⟩
          have := (hseen x.toNat hxl).2 ⟨i, hi, by rw [he, hx]; omega⟩
          rw [this] at h6; cases h6
      · rw [hsucc]
        simp only [List.length_set] at hv
        by_cases hvx : x.toNat = v
        · subst hvx
          simp only [List.getD_eq_getElem?_getD, List.getElem?_set, if_pos hxl]
          simp
          exact ⟨k.toNat, by omega, by rw [← List.getD_eq_getElem?_getD, hx]; omega⟩
        · have e1 : (bs.set x.toNat true).getD v false = bs.getD v false := by simp [List.getD_eq_getElem?_getD, List.getElem?_set, hvx]
          rw [e1, hseen v hv]
          constructor
          · rintro ⟨i, hi, he⟩; exact ⟨i, by omega, he⟩
          · rintro ⟨i, hi, he⟩
            by_cases hi2 : i < k.toNat
            · exact ⟨i, hi2, he⟩
            · have : i = k.toNat := by omega
              subst this
              rw [hx] at he; omega
  · rw [impl_isPerm.A3_0_s]
    have : PermOk L := fun j hj => hall j (by omega)
    exact ⟨by simp [this], hb⟩

open Classical in
theorem c_implIsPerm {w : World} {a : Sl} {L : List Int} (ha : RowI w a L) (hL : L.length < 2^38) :
    Calls PP F.impl_IsPerm #[a.v] w fun e w' => e = .returned (.bool (decide (IsP L))) ∧ Below w.heap.size w w' := by
  have han : a.n = L.length := by have := ha.n; simpa using this
  refine impl_IsPerm.calls a ?_
  rw [impl_IsPerm.E_s]
  refine bif_dec (fun h => ?_) (fun h => ?_)
  · refine (c_isPerm ha hL).mono ?_
    rintro e w' ⟨rfl, hb⟩
    refine ⟨_, rfl, ?_, hb⟩
    have : L.length ≤ 8 := by omega
    simp [IsP, this]
  · have : ¬ L.length ≤ 8 := by omega
    exact ⟨by simp [IsP, this], Below.refl _ _⟩

open Classical in
theorem c_l2Has {w : World} {a : Sl} {L : List Int} (ha : RowI w a L) (hL : L.length < 2^38) (n : Int) :
    Quiet F.spec_l2Has #[a.v, vI n] w (.bool (decide (n ∈ L))) := by
  intro w1 hd
  have han : a.n = L.length := by have := ha.n; simpa using this
  refine spec_l2Has.calls a n ?_
  rw [spec_l2Has.E_s]
  refine spec_l2Has.L2_rule _ _ _ _ _ (I := fun k w' => w' = w1 ∧ 0 ≤ k ∧ k ≤ L.length ∧ ∀ j, j < k.toNat → L.getD j 0 ≠ n) (μ := fun k _ => (L.length - k).toNat) ⟨rfl, by omega, by omega, fun j hj => by simp at hj⟩ ?_
  rintro k w' ⟨rfl, h0, hk, hall⟩
  rw [spec_l2Has.B2_s]
  refine bif_dec (fun h3 => ?_) (fun h3 => ?_)
  · have hlt : k.toNat < L.length := by omega
    refine RowI.get (ha.heap hd.heap') h0 (by omega) ?_
    refine bif_intro (fun h4 => ?_) (fun h4 => ?_)
    · rw [spec_l2Has.R2_s]
      have h4 : L.getD k.toNat 0 = n := by simpa using h4
      have : n ∈ L := by rw [← h4, getD_eq hlt]; exact List.getElem_mem hlt
      exact ⟨by simp [this], Drew.refl _⟩
    · have h4 : ¬ L.getD k.toNat 0 = n := by simpa using h4
      refine ⟨k + 1, by rw [w64_succ h0 (by omega)], ⟨rfl, by omega, by omega, fun j hj => ?_⟩, by omega⟩
      by_cases hj2 : j < k.toNat
      · exact hall j hj2
      · have : j = k.toNat := by omega
        subst this; exact h4
  · rw [spec_l2Has.A2_0_s]
    have : n ∉ L := fun h => by
      obtain ⟨i, hi, he⟩ := List.getElem_of_mem h
      exact hall i (by omega) (by rw [getD_eq hi]; exact he)
    exact ⟨by simp [this], Drew.refl _⟩

open Classical in
theorem c_specIsPerm {w : World} {a : Sl} {L : List Int} (ha : RowI w a L) (hL : L.length < 2^38) :
    Quiet F.spec_IsPerm #[a.v] w (.bool (decide (IsP L))) := by
  intro w1 hd
  have han : a.n = L.length := by have := ha.n; simpa using this
  refine spec_IsPerm.calls a ?_
  rw [spec_IsPerm.E_s]
  refine spec_IsPerm.L2_rule _ _ _ _ (I := fun k w' => Drew w1 w' ∧ 0 ≤ k ∧ k ≤ L.length ∧ ∀ j, j < k.toNat → pOk L j) (μ := fun k _ => (L.length - k).toNat) ⟨Drew.refl _, by omega, by omega, fun j hj => by simp at hj⟩ ?_
  rintro k w' ⟨hd2, h0, hk, hall⟩
  have hh : w'.heap = w.heap := (hd.trans hd2).heap'
  rw [spec_IsPerm.B2_s]
  refine bif_dec (fun h3 => bif_dec (fun h4 => ?_) (fun h4 => ?_)) (fun h3 => ?_)
  · have hlt : k.toNat < L.length := by omega
    have nb : ¬ pOk L k.toNat → ¬ IsP L := fun hb h => hb (h.2 k.toNat hlt)
    refine RowI.get (ha.heap hh) h0 (by omega) ?_
    refine Pure.pcall1 (s := .bool) (c_l1In _ _ _) ?_
    refine bif_intro (fun h5 => ?_) (fun h5 => ?_)
    · refine drew_intro fun w2 hd3 => ?_
      rw [spec_IsPerm.R2_s]
      have : ¬ IsP L := nb fun hg => by
        have h1 := hg.1
        have h2 := hg.2.1
        simp [-List.getD_eq_getElem?_getD] at h5
        omega
      exact ⟨by simp [this], hd2.trans hd3⟩
    · have h5 : 1 ≤ L.getD k.toNat 0 ∧ L.getD k.toNat 0 ≤ L.length := by simpa [han] using h5
      refine Row.cut (ha.heap hh) (by simp) (by simpa using h0) (by simp; omega) ?_
      intro t ht
      have ht : RowI w' t (L.take k.toNat) := by simpa [RowI, List.map_take] using ht
      refine RowI.get (ha.heap hh) h0 (by omega) ?_
      refine Quiet.qcall1 (s := .bool) (c_l2Has ht (by simp; omega) _) ?_
      have hmem : L.getD k.toNat 0 ∈ L.take k.toNat ↔ ∃ i, i < k.toNat ∧ L.getD i 0 = L.getD k.toNat 0 := by
        constructor
        · intro h
          obtain ⟨i, hi, he⟩ := List.getElem_of_mem h
          have hi2 : i < k.toNat ∧ i < L.length := by simp at hi; omega
          refine ⟨i, hi2.1, ?_⟩
          rw [getD_eq hi2.2, ← he]; simp
        · rintro ⟨i, hi, he⟩
          rw [← he, getD_eq (show i < L.length by omega)]
          exact List.mem_take_iff_getElem.2 ⟨i, by omega, rfl⟩
      refine drew_intro fun w2 hd3 => ?_
      refine bif_intro (fun h6 => ?_) (fun h6 => ?_)
      · rw [spec_IsPerm.R2_s]
        have h6 := hmem.1 (by simpa using h6)
        have : ¬ IsP L := nb fun hg => by
          obtain ⟨i, hi, he⟩ := h6
          exact hg.2.2 i hi he
        exact ⟨by simp [this], hd2.trans hd3⟩
      · have h6 : ¬ ∃ i, i < k.toNat ∧ L.getD i 0 = L.getD k.toNat 0 := fun h => by
          rw [decide_eq_true (hmem.2 h)] at h6
          cases h6
        refine ⟨k + 1, by rw [w64_succ h0 (by omega)], ⟨hd2.trans hd3, by omega, by omega, fun j hj => ?_⟩, by omega⟩
        by_cases hj2 : j < k.toNat
        · exact hall j hj2
        · have : j = k.toNat := by omega
          subst this; exact ⟨h5.1, h5.2, fun i hi he => h6 ⟨i, hi, he⟩⟩
  · rw [spec_IsPerm.A2_0_s]
    have : ¬ L.length ≤ 8 := by omega
    exact ⟨by simp [IsP, han, this]; omega, hd2⟩
  · rw [spec_IsPerm.A2_0_s]
    have : PermOk L := fun j hj => hall j (by omega)
    exact ⟨by simp [IsP, han, this]; omega, hd2⟩
end Go.Proofs.Ytdchjhhpbdekeaa

/- Permutations as lists: plain facts, no program in sight. -/
namespace Go.Proofs.Ytdchjhhpbdekeaa
open Go
set_option maxRecDepth 100000

/-- 1, 2, .., n -/
def idn (n : Nat) : List Int := (List.range n).map fun (i : Nat) => (i : Int) + 1
theorem idn_length (n : Nat) : (idn n).length = n := by simp [idn]
theorem idn_succ (n : Nat) : idn (n + 1) = idn n ++ [(n : Int) + 1] := by simp [idn, List.range_succ]
theorem mem_idn {n : Nat} {x : Int} : x ∈ idn n ↔ 1 ≤ x ∧ x ≤ n := by
  simp only [idn, List.mem_map, List.mem_range]
  constructor
  · rintro ⟨i, hi, rfl⟩; omega
  · rintro ⟨h1, h2⟩; exact ⟨(x - 1).toNat, by omega, by omega⟩
theorem idn_nodup (n : Nat) : (idn n).Nodup := by
  simp only [idn, List.nodup_iff_pairwise_ne, List.pairwise_map]
  exact List.Pairwise.imp (fun h e => h (by omega)) (List.nodup_iff_pairwise_ne.1 List.nodup_range)
theorem idn_getD {n i : Nat} (h : i < n) : (idn n).getD i 0 = (i : Int) + 1 := by simp [idn, List.getD_eq_getElem?_getD, h]
theorem getD_lt {L : List Int} {i : Nat} (h : i < L.length) : L.getD i 0 = L[i] := by simp [List.getD_eq_getElem?_getD, List.getElem?_eq_getElem h]
theorem ext_getD {L M : List Int} (h : L.length = M.length) (hh : ∀ i, i < L.length → L.getD i 0 = M.getD i 0) : L = M := by
  apply List.ext_getElem h
  intro i h1 h2
  have := hh i h1
  rw [getD_lt h1, getD_lt h2] at this
  exact this
theorem permOk_iff {L : List Int} : PermOk L ↔ L.Nodup ∧ ∀ x ∈ L, 1 ≤ x ∧ x ≤ L.length := by
  constructor
  · intro h
    refine ⟨?_, fun x hx => ?_⟩
    · rw [List.nodup_iff_pairwise_ne, List.pairwise_iff_getElem]
      intro i j hi hj hij e
      have := (h j hj).2.2 i hij
      rw [getD_lt hi, getD_lt hj] at this
      exact this e
    · obtain ⟨i, hi, rfl⟩ := List.getElem_of_mem hx
      have := h i hi
      unfold pOk at this
      rw [getD_lt hi] at this
      exact ⟨this.1, this.2.1⟩
  · rintro ⟨h1, h2⟩ j hj
    have h3 := h2 L[j] (List.getElem_mem hj)
    unfold pOk
    rw [getD_lt hj]
    refine ⟨h3.1, h3.2, fun i hij e => ?_⟩
    rw [List.nodup_iff_pairwise_ne, List.pairwise_iff_getElem] at h1
    rw [getD_lt (by omega)] at e
    exact h1 i j (by omega) hj hij e
theorem perm_of_nodup : ∀ {n : Nat} {L : List Int}, L.Nodup → (∀ x ∈ L, 1 ≤ x ∧ x ≤ n) → L.length = n → L.Perm (idn n)
  | 0, L, _, _, hl => by
    have : L = [] := List.eq_nil_of_length_eq_zero hl
    subst this; exact List.Perm.refl _
  | n + 1, L, h1, h2, hl => by
    by_cases hm : ((n : Int) + 1) ∈ L
    · have hp := List.perm_cons_erase hm
      have h3 : (L.erase ((n : Int) + 1)).Perm (idn n) := by
        refine perm_of_nodup (h1.erase _) (fun x hx => ?_) (by rw [List.length_erase_of_mem hm]; omega)
        rw [List.Nodup.mem_erase_iff h1] at hx
        have := h2 x hx.2
        have hne := hx.1
        omega
      rw [idn_succ]
      exact hp.trans ((List.Perm.cons _ h3).trans (List.perm_append_singleton _ _).symm)
    · have : L.length ≤ (idn n).length := List.Nodup.length_le_of_subset h1 (fun x hx => by
        have := h2 x hx
        have hne : x ≠ (n : Int) + 1 := fun e => hm (e ▸ hx)
        rw [mem_idn]; omega)
      rw [idn_length] at this
      omega
theorem permOk_perm {L : List Int} : PermOk L ↔ L.Perm (idn L.length) := by
  rw [permOk_iff]
  constructor
  · rintro ⟨h1, h2⟩; exact perm_of_nodup h1 h2 rfl
  · intro h
    refine ⟨h.nodup_iff.2 (idn_nodup _), fun x hx => ?_⟩
    have := h.mem_iff.1 hx
    rwa [mem_idn] at this
theorem IsP.perm {L : List Int} (h : IsP L) : L.Perm (idn L.length) := permOk_perm.1 h.2
theorem IsP.nodup {L : List Int} (h : IsP L) : L.Nodup := (permOk_iff.1 h.2).1
theorem IsP.mem {L : List Int} (h : IsP L) {x : Int} : x ∈ L ↔ 1 ≤ x ∧ x ≤ L.length := by rw [h.perm.mem_iff, mem_idn]
theorem isP_of_perm {L M : List Int} (h : M.Perm L) (hL : IsP L) : IsP M := by
  have hl := h.length_eq
  refine ⟨by rw [hl]; exact hL.1, permOk_perm.2 ?_⟩
  rw [hl]; exact h.trans hL.perm
theorem isP_of {n : Nat} {M : List Int} (h : M.Perm (idn n)) (hn : n ≤ 8) : IsP M := by
  have hl : M.length = n := by rw [h.length_eq, idn_length]
  refine ⟨by omega, permOk_perm.2 ?_⟩
  rw [hl]; exact h
/-- Ascending (not strictly), by neighbours. -/
def Rising (L : List Int) : Prop := ∀ i, i + 1 < L.length → L.getD i 0 ≤ L.getD (i + 1) 0
theorem Rising.all {L : List Int} (h : Rising L) : ∀ j, ∀ i, i ≤ j → j < L.length → L.getD i 0 ≤ L.getD j 0 := by
  intro j
  induction j with
  | zero => intro i hi hj; have : i = 0 := by omega
            subst this; exact Int.le_refl _
  | succ j ih =>
    intro i hi hj
    by_cases e : i = j + 1
    · subst e; exact Int.le_refl _
    · exact Int.le_trans (ih i (by omega) (by omega)) (h j hj)
theorem rising_pairwise {L : List Int} (h : Rising L) : L.Pairwise (· ≤ ·) := by
  rw [List.pairwise_iff_getElem]
  intro i j hi hj hij
  have := h.all j i (by omega) hj
  rwa [getD_lt hi, getD_lt hj] at this
theorem idn_pairwise (n : Nat) : (idn n).Pairwise (· ≤ ·) := by
  simp only [idn, List.pairwise_map]
  exact List.Pairwise.imp (fun h => by omega) List.pairwise_lt_range
theorem rising_idn (n : Nat) : Rising (idn n) := fun i hi => by
  rw [idn_length] at hi
  rw [idn_getD (by omega), idn_getD hi]; omega
theorem IsP.rising {L : List Int} (h : IsP L) : Rising L ↔ L = idn L.length := by
  constructor
  · intro hr
    exact List.Perm.eq_of_pairwise (fun a b _ _ h1 h2 => Int.le_antisymm h1 h2) (rising_pairwise hr) (idn_pairwise _) h.perm
  · intro e; rw [e]; exact rising_idn _
theorem isP_idn {n : Nat} (hn : n ≤ 8) : IsP (idn n) := isP_of (List.Perm.refl _) hn
theorem isP_nil : IsP [] := isP_idn (n := 0) (by omega)
end Go.Proofs.Ytdchjhhpbdekeaa

/- Occurrences of a pattern, as lists: plain facts. -/
namespace Go.Proofs.Ytdchjhhpbdekeaa
open Go
set_option maxRecDepth 100000

/-- a, a+1, .. (c numbers) -/
def seqI (a : Int) (c : Nat) : List Int := (List.range c).map fun (i : Nat) => a + (i : Int)
theorem seqI_length (a : Int) (c : Nat) : (seqI a c).length = c := by simp [seqI]
theorem seqI_succ (a : Int) (c : Nat) : seqI a (c + 1) = seqI a c ++ [a + (c : Int)] := by simp [seqI, List.range_succ]
theorem mem_seqI {a : Int} {c : Nat} {x : Int} : x ∈ seqI a c ↔ a ≤ x ∧ x < a + c := by
  simp only [seqI, List.mem_map, List.mem_range]
  constructor
  · rintro ⟨i, hi, rfl⟩; omega
  · rintro ⟨h1, h2⟩; exact ⟨(x - a).toNat, by omega, by omega⟩
/-- The last number of a list, 0 of none. -/
def lastD (h : List Int) : Int := h.getD (h.length - 1) 0
theorem lastD_nil : lastD [] = 0 := rfl
theorem lastD_snoc (h : List Int) (x : Int) : lastD (h ++ [x]) = x := by simp [lastD, List.getD_eq_getElem?_getD]
def fitsAt (P Q h : List Int) (x : Int) (k : Nat) : Bool := decide (P.getD (h.getD k 0 - 1).toNat 0 < P.getD (x - 1).toNat 0) == decide (Q.getD k 0 < Q.getD h.length 0)
/-- May the place x be the next one behind the places h? -/
def fitsB (P Q h : List Int) (x : Int) : Bool := (List.range h.length).all (fitsAt P Q h x)
theorem fitsB_iff {P Q h : List Int} {x : Int} : fitsB P Q h x = true ↔ ∀ k, k < h.length → fitsAt P Q h x k = true := by simp [fitsB]
/-- All ways to go on from the places h with m more. -/
def occN (P Q : List Int) : Nat → List Int → List (List Int)
  | 0, h => [h]
  | m + 1, h => (seqI (lastD h + 1) ((P.length : Int) - lastD h).toNat).flatMap fun x => if fitsB P Q h x then occN P Q m (h ++ [x]) else []
def hasB (P Q : List Int) (m : Nat) (h : List Int) : Bool := !(occN P Q m h).isEmpty
theorem hasB_zero (P Q h : List Int) : hasB P Q 0 h = true := rfl
theorem hasB_succ {P Q h : List Int} {m : Nat} : hasB P Q (m + 1) h = true ↔ ∃ x, lastD h < x ∧ x ≤ P.length ∧ fitsB P Q h x = true ∧ hasB P Q m (h ++ [x]) = true := by
  simp only [hasB, occN, Bool.not_eq_true', List.isEmpty_eq_false_iff, ne_eq, List.flatMap_eq_nil_iff, mem_seqI]
  constructor
  · intro hn
    apply Classical.byContradiction
    intro hc
    apply hn
    intro x hx
    split
    · rename_i hf
      apply Classical.byContradiction
      intro hne
      exact hc ⟨x, by omega, by omega, hf, hne⟩
    · rfl
  · rintro ⟨x, h1, h2, h3, h4⟩ hall
    have := hall x ⟨by omega, by omega⟩
    rw [if_pos h3] at this
    exact h4 this
/-- Places of a list. -/
def Places (P h : List Int) : Prop := ∀ x ∈ h, 1 ≤ x ∧ x ≤ P.length
theorem Places.snoc {P h : List Int} {x : Int} (hh : Places P h) (h1 : 1 ≤ x) (h2 : x ≤ P.length) : Places P (h ++ [x]) := fun y hy => by
  rcases List.mem_append.1 hy with h3 | h3
  · exact hh y h3
  · have : y = x := by simpa using h3
    subst this; exact ⟨h1, h2⟩
theorem lastD_mem {h : List Int} (hne : h ≠ []) : lastD h ∈ h := by
  unfold lastD
  have : 0 < h.length := List.length_pos_iff.2 hne
  rw [getD_lt (by omega)]
  exact List.getElem_mem _
theorem Places.last {P h : List Int} (hh : Places P h) : 0 ≤ lastD h ∧ lastD h ≤ P.length := by
  by_cases hne : h = []
  · subst hne; simp [lastD]
  · have := hh _ (lastD_mem hne); omega
theorem Places.nil (P : List Int) : Places P [] := fun x hx => by simp at hx
/-- There must be room. -/
theorem hasB_room {P Q : List Int} : ∀ (m : Nat) (h : List Int), Places P h → hasB P Q m h = true → lastD h + m ≤ P.length
  | 0, h, hh, _ => by have := hh.last; omega
  | m + 1, h, hh, hb => by
    obtain ⟨x, h1, h2, _, h4⟩ := hasB_succ.1 hb
    have h0 := hh.last
    have := hasB_room m (h ++ [x]) (hh.snoc (by omega) h2) h4
    rw [lastD_snoc] at this
    omega
theorem length_flatMap_le {α β : Type} (l : List α) (f : α → List β) (c : Nat) (h : ∀ x ∈ l, (f x).length ≤ c) : (l.flatMap f).length ≤ l.length * c := by
  induction l with
  | nil => simp
  | cons x r ih =>
    have h1 := h x (by simp)
    have h2 := ih (fun y hy => h y (by simp [hy]))
    simp only [List.flatMap_cons, List.length_append, List.length_cons, Nat.succ_mul]
    omega
theorem occN_length {P Q : List Int} : ∀ (m : Nat) (h : List Int), Places P h → (occN P Q m h).length ≤ P.length ^ m
  | 0, h, _ => by simp [occN]
  | m + 1, h, hh => by
    have h0 := hh.last
    rw [occN]
    refine Nat.le_trans (length_flatMap_le _ _ (P.length ^ m) (fun x hx => ?_)) ?_
    · rw [mem_seqI] at hx
      split
      · exact occN_length m (h ++ [x]) (hh.snoc (by omega) (by omega))
      · simp
    · rw [seqI_length, Nat.pow_succ, Nat.mul_comm]
      exact Nat.mul_le_mul_left _ (by omega)
/-- Does the pattern occur? -/
def hasP (P Q : List Int) : Bool := hasB P Q Q.length []
end Go.Proofs.Ytdchjhhpbdekeaa

/- Occurrences of a pattern: the model's search and the program's. -/
namespace Go.Proofs.Ytdchjhhpbdekeaa
open Go Go.RowKit
set_option maxRecDepth 100000

theorem getD_snoc_lt {h : List Int} {x : Int} {k : Nat} (hk : k < h.length) : (h ++ [x]).getD k 0 = h.getD k 0 := by
  simp [List.getD_eq_getElem?_getD, List.getElem?_append_left hk]
theorem getD_snoc_eq (h : List Int) (x : Int) : (h ++ [x]).getD h.length 0 = x := by simp [List.getD_eq_getElem?_getD]
theorem Places.at_ {P h : List Int} (hh : Places P h) {k : Nat} (hk : k < h.length) : 1 ≤ h.getD k 0 ∧ h.getD k 0 ≤ P.length := by
  rw [getD_lt hk]; exact hh _ (List.getElem_mem hk)

theorem c_l7Fits {w : World} {p q pl : Sl} {P Q h : List Int} {x : Int} (hp : RowI w p P) (hq : RowI w q Q) (hpl : RowI w pl (h ++ [x])) (hP : P.length < 2^38) (hQ : h.length < Q.length) (hQ2 : Q.length < 2^38) (hh : Places P (h ++ [x])) :
    Quiet F.spec_l7Fits #[p.v, q.v, pl.v] w (.bool (fitsB P Q h x)) := by
  intro w1 hd
  have hpn : pl.n = h.length + 1 := by have := hpl.n; simpa using this
  have hx := hh x (by simp)
  refine spec_l7Fits.calls p q pl ?_
  rw [spec_l7Fits.E_s, hpn, w64_id (by omega) (by omega)]
  rw [show ((h.length + 1 : Nat) : Int) - 1 = (h.length : Int) by omega]
  refine spec_l7Fits.L3_rule _ _ _ _ _ _ _ (I := fun k w' => 0 ≤ k ∧ k ≤ h.length ∧ (∀ j, j < k.toNat → fitsAt P Q h x j = true) ∧ Drew w1 w') (μ := fun k _ => (h.length - k).toNat)
    ⟨by omega, by omega, fun j hj => by simp at hj, Drew.refl _⟩ ?_
  rintro k w' ⟨h0, hk, hall, hd2⟩
  have hhp : w'.heap = w.heap := (hd.trans hd2).heap'
  rw [spec_l7Fits.B3_s]
  refine bif_dec (fun h3 => ?_) (fun h3 => ?_)
  · have hlt : k.toNat < h.length := by omega
    have hat := Places.at_ (P := P) (h := h) (fun y hy => hh y (by simp [hy])) hlt
    refine RowI.get (hq.heap hhp) h0 (by omega) ?_
    refine RowI.get (hq.heap hhp) (by omega) (by omega) ?_
    refine RowI.get (hpl.heap hhp) h0 (by simp; omega) ?_
    rw [getD_snoc_lt hlt, w64_id (n := h.getD k.toNat 0 - 1) (by omega) (by omega)]
    refine RowI.get (hp.heap hhp) (by omega) (by omega) ?_
    refine RowI.get (hpl.heap hhp) (by omega) (by simp; omega) ?_
    rw [Int.toNat_natCast, getD_snoc_eq, w64_id (n := x - 1) (by omega) (by omega)]
    refine RowI.get (hp.heap hhp) (by omega) (by omega) ?_
    refine drew_intro fun w3 hd3 => ?_
    have e1 : fitsAt P Q h x k.toNat = (decide (Q.getD k.toNat 0 < Q.getD h.length 0) == decide (P.getD (h.getD k.toNat 0 - 1).toNat 0 < P.getD (x - 1).toNat 0)) := by
      rw [fitsAt, Bool.beq_comm]
    rw [← e1]
    refine bif_intro (fun h4 => ?_) (fun h4 => ?_)
    · rw [spec_l7Fits.R3_s]
      have : fitsB P Q h x = false := by
        cases hb : fitsB P Q h x
        · rfl
        · have := fitsB_iff.1 hb k.toNat hlt
          rw [this] at h4; simp at h4
      exact ⟨by rw [this], hd2.trans hd3⟩
    · refine ⟨k + 1, by rw [w64_succ h0 (by omega)], ⟨by omega, by omega, fun j hj => ?_, hd2.trans hd3⟩, by omega⟩
      by_cases e : j = k.toNat
      · rw [e]; simpa using h4
      · exact hall j (by omega)
  · rw [spec_l7Fits.A3_0_s]
    have : fitsB P Q h x = true := fitsB_iff.2 fun j hj => hall j (by omega)
    exact ⟨by rw [this], hd2⟩

theorem c_l7Find {w0 : World} {p q : Sl} {P Q : List Int} (hp : RowI w0 p P) (hq : RowI w0 q Q) (hP : P.length ≤ 8) (hQ : Q.length ≤ 8) : ∀ (m : Nat) (w : World) (hd out : Sl) (rs : List Sl) (h : List Int) (LL : List (List Int)),
    Below w0.heap.size w0 w → OwnRows w w0.heap.size out rs LL → OwnI w w0.heap.size hd h → (∀ t ∈ rs, Apt t hd) → h.length + m = Q.length → Places P h → LL.length + 8 ^ m ≤ 2^30 →
    Calls PP F.spec_l7Find #[p.v, q.v, hd.v, out.v] w fun e w' => ∃ s : Sl, e = .returned s.v ∧ OwnSS w' w0.heap.size s (LL ++ occN P Q m h) ∧ w.grownBy w' out.blk ∧ Next w out s
  | 0, w, hd, out, rs, h, LL, hb, ho, hh, hap, hl, hpl, hc => by
    have hdn : hd.n = h.length := by have := hh.n; simpa using this
    have hqn : q.n = Q.length := by have := hq.n; simpa using this
    refine spec_l7Find.calls p q hd out ?_
    rw [spec_l7Find.E_s]
    refine bif_t (by simp; omega) ?_
    refine append_sl ho hb.size hh hap (by omega) ?_
    intro s' w' h1 h2 h3
    exact ⟨s', rfl, ⟨_, h1⟩, h2, h3⟩
  | m + 1, w, hd, out, rs, h, LL, hb, ho, hh, hap, hl, hpl, hc => by
    have hdn : hd.n = h.length := by have := hh.n; simpa using this
    have hqn : q.n = Q.length := by have := hq.n; simpa using this
    have hpn : p.n = P.length := by have := hp.n; simpa using this
    have h0 := hpl.last
    have main : spec_l7Find.J6 std p q hd out (lastD h + 1) w (fun e w' => ∃ s : Sl, e = .returned s.v ∧ OwnSS w' w0.heap.size s (LL ++ occN P Q (m + 1) h) ∧ w.grownBy w' out.blk ∧ Next w out s) := by
      rw [spec_l7Find.J6_s]
      refine spec_l7Find.L7_rule _ _ _ _ _ _ _ (I := fun s x w' => lastD h + 1 ≤ x ∧ x ≤ P.length + 1 ∧ OwnSS w' w0.heap.size s (LL ++ (seqI (lastD h + 1) (x - (lastD h + 1)).toNat).flatMap fun x => if fitsB P Q h x then occN P Q m (h ++ [x]) else []) ∧ w.grownBy w' out.blk ∧ Next w out s) (μ := fun _ x _ => (P.length + 1 - x).toNat)
        ⟨by omega, by omega, by simpa [seqI] using ⟨rs, ho⟩, grownBy_refl _ _, fun g hg => .inl hg⟩ ?_
      rintro s x w' ⟨hx0, hx, hs, hg, hn⟩
      have hbw : Below w0.heap.size w0 w' := hb.grown hg hb.size (fun g hg => (ho.out.lt g hg).1)
      have hh' : OwnI w' w0.heap.size hd h := hh.kept hg (fun g hg' e => (ho.out.apt hh (by decide)) g e hg')
      rw [spec_l7Find.B7_s]
      refine bif_dec (fun h3 => ?_) (fun h3 => ?_)
      · rw [hpn] at h3
        obtain ⟨rs', hs⟩ := hs
        refine lit0 oneInt (B := w'.heap.size) (Nat.le_refl _) ?_
        intro t1 w1 ht1 hg1 _
        have hb1 := below_of_grow hg1
        refine append_row oneInt ht1 hb1.size (hh'.row.grow hb1) (fun v hv => by obtain ⟨y, _, rfl⟩ := List.mem_map.1 hv; exact One.int y) (by simp; omega) ?_
        intro t2 w2 ht2 hg2 _ _
        have ht2 : OwnI w2 w'.heap.size t2 h := by simpa [OwnI] using ht2
        have hb2 := hb1.grown hg2 hb1.size (fun g hg => (ht1.lt g hg).1)
        refine append_int ht2 hb2.size (by omega) ?_
        intro t3 w3 ht3 hg3 _
        have hb3 := hb2.grown hg3 hb2.size (fun g hg => (ht2.lt g hg).1)
        have hb03 : Below w0.heap.size w0 w3 := hbw.trans (hb3.mono hbw.size)
        have hpl2 : Places P (h ++ [x]) := hpl.snoc (by omega) h3
        refine Quiet.call1 (s := .bool) (c_l7Fits (hp.grow hb03) (hq.grow hb03) ht3.row (by omega) (by omega) (by omega) hpl2) ?_
        intro w4 hd4
        have hb4 : Below w'.heap.size w' w4 := hb3.trans (hd4.below _)
        have esq : ∀ f : Int → List (List Int), (seqI (lastD h + 1) (x + 1 - (lastD h + 1)).toNat).flatMap f = (seqI (lastD h + 1) (x - (lastD h + 1)).toNat).flatMap f ++ f x := fun f => by
          rw [show (x + 1 - (lastD h + 1)).toNat = (x - (lastD h + 1)).toNat + 1 by omega, seqI_succ, List.flatMap_append]
          simp only [List.flatMap_cons, List.flatMap_nil, List.append_nil]
          congr 2; omega
        have hcnt : ((seqI (lastD h + 1) (x - (lastD h + 1)).toNat).flatMap fun x => if fitsB P Q h x then occN P Q m (h ++ [x]) else []).length ≤ 7 * 8 ^ m := by
          refine Nat.le_trans (length_flatMap_le _ _ (8 ^ m) (fun y hy => ?_)) ?_
          · rw [mem_seqI] at hy
            split
            · exact Nat.le_trans (occN_length m (h ++ [y]) (hpl.snoc (by omega) (by omega))) (Nat.pow_le_pow_left hP m)
            · simp
          · rw [seqI_length]; exact Nat.mul_le_mul_right _ (by omega)
        have hpow : 8 ^ (m + 1) = 8 * 8 ^ m := by rw [Nat.pow_succ]; omega
        refine bif_intro (fun h5 => ?_) (fun h5 => ?_)
        · have hs4 := hs.grow hb4
          refine (c_l7Find hp hq hP hQ m w4 t3 s rs' (h ++ [x]) _ (hb03.trans (hd4.below _)) hs4 ((ht3.heap hd4.heap').mono hbw.size) (fun t ht => Apt.of_lt (fun g hg => (hs.lt ht hg).2) (fun g hg => (ht3.lt g hg).1)) (by simp; omega) hpl2 (by rw [List.length_append]; omega)).mono ?_
          rintro e w5 ⟨s5, rfl, hs5, hg5, hn5⟩
          refine ⟨s5, rfl, s5, x + 1, by rw [w64_id (by omega) (by omega)], ⟨by omega, by omega, ?_, ?_, ?_⟩, by omega⟩
          · rw [esq, if_pos h5, ← List.append_assoc]; exact hs5
          · refine ⟨hg5.os.trans (hb4.os.trans hg.os), hg5.tape.trans (hb4.tape.trans hg.tape), hg5.output.trans (hb4.output.trans hg.output), Nat.le_trans hg.size (Nat.le_trans hb4.size hg5.size), fun k hk hne => ?_⟩
            have hk' : k < w'.heap.size := Nat.lt_of_lt_of_le hk hg.size
            rw [hg5.block k (Nat.lt_of_lt_of_le hk' hb4.size) (fun e => by
              rcases hn k e.symm with h6 | h6
              · exact hne h6.symm
              · omega), hb4.block k hk', hg.block k hk hne]
          · intro g hg'
            rcases hn5 g hg' with h6 | h6
            · exact hn g h6
            · have := hg.size; have := hb4.size; exact .inr (by omega)
        · refine ⟨s, x + 1, by rw [w64_id (by omega) (by omega)], ⟨by omega, by omega, ?_, ?_, hn⟩, by omega⟩
          · rw [esq, if_neg (by simp [h5]), List.append_nil]; exact ⟨rs', hs.grow hb4⟩
          · refine ⟨hb4.os.trans hg.os, hb4.tape.trans hg.tape, hb4.output.trans hg.output, Nat.le_trans hg.size hb4.size, fun k hk hne => ?_⟩
            rw [hb4.block k (Nat.lt_of_lt_of_le hk hg.size), hg.block k hk hne]
      · rw [spec_l7Find.A7_0_s]
        rw [hpn] at h3
        have e : x = P.length + 1 := by omega
        subst e
        refine ⟨s, rfl, ?_, hg, hn⟩
        rw [occN, show ((P.length : Int) - lastD h).toNat = ((P.length : Int) + 1 - (lastD h + 1)).toNat by omega]
        exact hs
    refine spec_l7Find.calls p q hd out ?_
    rw [spec_l7Find.E_s]
    refine bif_f (by simp; omega) ?_
    refine bif_dec (fun h4 => ?_) (fun h4 => ?_)
    · rw [hdn, w64_id (by omega) (by omega)]
      refine RowI.get hh.row (by omega) (by omega) ?_
      rw [show ((h.length : Int) - 1).toNat = h.length - 1 by omega]
      show spec_l7Find.J6 std p q hd out (w64 (lastD h + 1)) w _
      rw [w64_id (by omega) (by omega)]
      exact main
    · have : h = [] := List.eq_nil_of_length_eq_zero (by omega)
      subst this
      exact main

theorem c_l7Has {w : World} {p q : Sl} {P Q : List Int} (hp : RowI w p P) (hq : RowI w q Q) (hP : P.length ≤ 8) (hQ : Q.length ≤ 8) :
    Calls PP F.spec_l7Has #[p.v, q.v] w fun e w' => e = .returned (.bool (hasP P Q)) ∧ Below w.heap.size w w' := by
  refine spec_l7Has.calls p q ?_
  rw [spec_l7Has.E_s]
  refine lit0 oneInt (B := w.heap.size) (Nat.le_refl _) ?_
  intro s w1 hs hg1 hc1
  refine lit0 oneSint (B := w.heap.size) (by have := hg1.size; omega) ?_
  intro t w2 ht hg2 hc2
  have hb1 := below_of_grow hg1
  have hb2 := hb1.grown hg2 hb1.size (by simp)
  have h8 : 8 ^ Q.length ≤ 8 ^ 8 := Nat.pow_le_pow_right (by omega) hQ
  refine (c_l7Find hp hq hP hQ Q.length w2 s t [] [] [] hb2 (OwnRows.nil ht) (hs.kept hg2 (by simp)) (fun t ht => by simp at ht) (by simp) (Places.nil P) (by simp only [List.length_nil]; omega)).mono ?_
  rintro e w3 ⟨u, rfl, hu, hg3, _⟩
  refine ⟨u, rfl, ?_, hb2.grown hg3 hb2.size (fun g hg => (ht.lt g hg).1)⟩
  have hn := hu.row.n
  rw [List.nil_append] at hn
  rw [hn]
  congr 2
  unfold hasP hasB
  cases occN P Q Q.length [] <;> simp <;> omega

theorem c_has {w0 : World} {p q : Sl} {P Q : List Int} (hp : RowI w0 p P) (hq : RowI w0 q Q) (hP : P.length < 2^37) (hQ : Q.length < 2^37) : ∀ (m : Nat) (w : World) (ch : Sl) (h : List Int),
    Below w0.heap.size w0 w → RowI w ch (h.map (· - 1)) → h.length + m = Q.length → Places P h →
    Calls PP F.impl_has #[p.v, q.v, ch.v] w fun e w' => e = .returned (.bool (hasB P Q m h)) ∧ Below w.heap.size w w'
  | 0, w, ch, h, hb, hh, hl, hpl => by
    have hdn : ch.n = h.length := by have := hh.n; simpa using this
    have hqn : q.n = Q.length := by have := hq.n; simpa using this
    refine impl_has.calls p q ch ?_
    rw [impl_has.E_s]
    refine bif_t (by simp; omega) ?_
    exact ⟨by rw [hasB_zero], Below.refl _ _⟩
  | m + 1, w, ch, h, hb, hh, hl, hpl => by
    have hdn : ch.n = h.length := by have := hh.n; simpa using this
    have hqn : q.n = Q.length := by have := hq.n; simpa using this
    have hpn : p.n = P.length := by have := hp.n; simpa using this
    have h0 := hpl.last
    have main : impl_has.J6 std p q ch (lastD h) w (fun e w' => e = .returned (.bool (hasB P Q (m + 1) h)) ∧ Below w.heap.size w w') := by
      rw [impl_has.J6_s]
      refine impl_has.L8_rule _ _ _ _ _ _ _ (I := fun i w' => lastD h ≤ i ∧ i ≤ P.length + 1 ∧ Below w.heap.size w w' ∧ ∀ x, lastD h < x → x ≤ i → x ≤ P.length → fitsB P Q h x = true → hasB P Q m (h ++ [x]) = false) (μ := fun i _ => (P.length + 2 - i).toNat)
        ⟨by omega, by omega, Below.refl _ _, fun x h1 h2 => by omega⟩ ?_
      rintro i w' ⟨hi0, hi, hbw, hall⟩
      have hb0 : Below w0.heap.size w0 w' := hb.trans (hbw.mono hb.size)
      have hh' := hh.grow hbw
      have elen : (List.map (fun x => x - 1) h).length = h.length := by simp
      rw [impl_has.B8_s, hpn, hqn, hdn]
      rw [w64_id (n := (Q.length : Int) - h.length) (by omega) (by omega), w64_id (n := (P.length : Int) - ((Q.length : Int) - h.length)) (by omega) (by omega)]
      refine bif_dec (fun h3 => ?_) (fun h3 => ?_)
      · have hx1 : 1 ≤ i + 1 := by omega
        refine impl_has.L12_rule _ _ _ _ _ _ _ _ _ _ _ (I := fun f k w2 => 0 ≤ k ∧ k ≤ h.length ∧ f = (List.range k.toNat).all (fitsAt P Q h (i + 1)) ∧ Drew w' w2) (μ := fun _ k _ => (h.length - k).toNat)
          ⟨by omega, by omega, by simp, Drew.refl _⟩ ?_
        rintro f k w2 ⟨hk0, hk, hf, hd⟩
        have hhp2 := hd.heap'
        rw [impl_has.B12_s]
        refine bif_dec (fun h4 => ?_) (fun h4 => ?_)
        · have hlt : k.toNat < h.length := by omega
          have hat := hpl.at_ hlt
          refine RowI.get (hh'.heap hhp2) hk0 (by rw [elen]; omega) ?_
          have e0 : (List.map (fun x => x - 1) h).getD k.toNat 0 = h.getD k.toNat 0 - 1 := by
            rw [getD_lt (by rw [elen]; exact hlt), getD_lt hlt, List.getElem_map]
          rw [e0]
          have hs : (List.range (k + 1).toNat).all (fitsAt P Q h (i + 1)) = (f && fitsAt P Q h (i + 1) k.toNat) := by
            rw [show (k + 1).toNat = k.toNat + 1 by omega, List.range_succ, List.all_append, ← hf]; simp
          refine bif_intro (fun h5 => ?_) (fun h5 => ?_)
          · refine RowI.get ((hp.grow hb0).heap hhp2) (by omega) (by omega) ?_
            refine RowI.get ((hp.grow hb0).heap hhp2) (by omega) (by omega) ?_
            refine RowI.get ((hq.grow hb0).heap hhp2) hk0 (by omega) ?_
            refine RowI.get ((hq.grow hb0).heap hhp2) (by omega) (by omega) ?_
            refine drew_intro fun w3 hd3 => ?_
            refine ⟨_, k + 1, by rw [w64_succ hk0 (by omega)], ⟨by omega, by omega, ?_, hd.trans hd3⟩, by omega⟩
            rw [hs, h5, Bool.true_and, fitsAt, Int.toNat_natCast, show i + 1 - 1 = i by omega]
          · refine drew_intro fun w3 hd3 => ?_
            refine ⟨_, k + 1, by rw [w64_succ hk0 (by omega)], ⟨by omega, by omega, ?_, hd.trans hd3⟩, by omega⟩
            rw [hs, h5, Bool.false_and]
        · rw [impl_has.A12_2_s]
          have ek : k.toNat = h.length := by omega
          rw [ek] at hf
          have hf : f = fitsB P Q h (i + 1) := hf
          have hbw2 := hbw.trans (hd.below _)
          refine bif_intro (fun h5 => ?_) (fun h5 => ?_)
          · refine (c_Clone (hh'.heap hhp2) (by rw [elen]; omega)).mono ?_
            rintro e w3 ⟨s, rfl, hs, hb3⟩
            refine ⟨s, rfl, ?_⟩
            refine append_int hs hb3.size (by rw [elen]; omega) ?_
            intro t w4 ht hg4 _
            have hb4 : Below w2.heap.size w2 w4 := hb3.grown hg4 hb3.size (fun g hg => (hs.lt g hg).1)
            have hb04 : Below w0.heap.size w0 w4 := (hb0.trans (hd.below _)).trans (hb4.mono (by have := hb0.size; have := hhp2; rw [hhp2]; exact this |> fun _ => hb0.size))
            have hpl2 : Places P (h ++ [i + 1]) := hpl.snoc (by omega) (by omega)
            have ht' : RowI w4 t ((h ++ [i + 1]).map (· - 1)) := by
              have := ht.row
              rw [List.map_append, List.map_cons, List.map_nil, show i + 1 - 1 = i by omega]
              exact this
            refine (c_has hp hq hP hQ m w4 t (h ++ [i + 1]) hb04 ht' (by simp; omega) hpl2).mono ?_
            rintro e w5 ⟨rfl, hb5⟩
            refine ⟨_, rfl, ?_⟩
            have hb15 : Below w.heap.size w w5 := (hbw2.trans (hb4.mono hbw2.size)).trans (hb5.mono (Nat.le_trans hbw2.size hb4.size))
            refine bif_intro (fun h6 => ?_) (fun h6 => ?_)
            · rw [impl_has.R8_s]
              have : hasB P Q (m + 1) h = true := hasB_succ.2 ⟨i + 1, by omega, by omega, by rw [← hf]; exact h5, h6⟩
              exact ⟨by rw [this], hb15⟩
            · refine ⟨i + 1, by rw [w64_succ (by omega) (by omega)], ⟨by omega, by omega, hb15, fun x h7 h8 h9 h10 => ?_⟩, by omega⟩
              by_cases e : x = i + 1
              · rw [e]; exact h6
              · exact hall x h7 (by omega) h9 h10
          · refine ⟨i + 1, by rw [w64_succ (by omega) (by omega)], ⟨by omega, by omega, hbw2, fun x h7 h8 h9 h10 => ?_⟩, by omega⟩
            by_cases e : x = i + 1
            · rw [e, ← hf, h5] at h10; cases h10
            · exact hall x h7 (by omega) h9 h10
      · rw [impl_has.A8_0_s]
        have : hasB P Q (m + 1) h = false := by
          cases hb2 : hasB P Q (m + 1) h
          · rfl
          · obtain ⟨x, h7, h8, h9, h10⟩ := hasB_succ.1 hb2
            have h11 := hasB_room m (h ++ [x]) (hpl.snoc (by omega) h8) h10
            rw [lastD_snoc] at h11
            rw [hall x h7 (by omega) h8 h9] at h10
            cases h10
        exact ⟨by rw [this], hbw⟩
    refine impl_has.calls p q ch ?_
    rw [impl_has.E_s]
    refine bif_f (by simp; omega) ?_
    refine bif_dec (fun h4 => ?_) (fun h4 => ?_)
    · rw [hdn, w64_id (by omega) (by omega)]
      refine RowI.get hh (by omega) (by simp; omega) ?_
      have e0 : (List.map (fun x => x - 1) h).getD ((h.length : Int) - 1).toNat 0 = lastD h - 1 := by
        rw [getD_lt (by simp; omega), List.getElem_map, lastD, getD_lt (by omega)]
        congr 2; omega
      rw [e0, show lastD h - 1 + 1 = lastD h by omega, w64_id (by omega) (by omega)]
      exact main
    · have : h = [] := List.eq_nil_of_length_eq_zero (by omega)
      subst this
      exact main
theorem c_has_nil {w : World} {p q : Sl} {P Q : List Int} (hp : RowI w p P) (hq : RowI w q Q) (hP : P.length < 2^37) (hQ : Q.length < 2^37) :
    Calls PP F.impl_has #[p.v, q.v, Sl.nil.v] w fun e w' => e = .returned (.bool (hasP P Q)) ∧ Below w.heap.size w w' :=
  c_has hp hq hP hQ Q.length w Sl.nil [] (Below.refl _ _) ⟨rfl, Nat.le_refl _, fun i v hv => by simp at hv⟩ (by simp) (Places.nil P)
end Go.Proofs.Ytdchjhhpbdekeaa

/- HasPattern of the model text. -/
namespace Go.Proofs.Ytdchjhhpbdekeaa
open Go Go.RowKit
set_option maxRecDepth 100000

open Classical in
noncomputable def occP (P Q : List Int) : List (List Int) := if IsP P ∧ IsP Q then occN P Q Q.length [] else []
theorem c_specOccurrencesOf {w : World} {p q : Sl} {P Q : List Int} (hp : RowI w p P) (hq : RowI w q Q) (hP : P.length < 2^38) (hQ : Q.length < 2^38) :
    Calls PP F.spec_OccurrencesOf #[p.v, q.v] w fun e w' => ∃ s : Sl, e = .returned s.v ∧ OwnSS w' w.heap.size s (occP P Q) ∧ Below w.heap.size w w' := by
  refine spec_OccurrencesOf.calls p q ?_
  rw [spec_OccurrencesOf.E_s]
  refine Quiet.call1 (s := .bool) (c_specIsPerm hp hP) ?_
  intro w1 hd1
  have hb1 := hd1.below w.heap.size
  refine bif_intro (fun h => ?_) (fun h => ?_)
  · have h : ¬ IsP P := by simpa using h
    refine lit0 oneSint (B := w.heap.size) hb1.size ?_
    intro o w2 ho hg2 _
    rw [occP, if_neg (fun hh => h hh.1)]
    exact ⟨o, rfl, OwnSS.nil ho, hb1.grown hg2 hb1.size (fun g hg => by cases hg)⟩
  have h1 : IsP P := by simpa using h
  refine Quiet.call1 (s := .bool) (c_specIsPerm (hq.grow hb1) hQ) ?_
  intro w2 hd2
  have hb2 := hb1.trans (hd2.below w.heap.size)
  refine bif_intro (fun h => ?_) (fun h => ?_)
  · have h : ¬ IsP Q := by simpa using h
    refine lit0 oneSint (B := w.heap.size) hb2.size ?_
    intro o w3 ho hg3 _
    rw [occP, if_neg (fun hh => h hh.2)]
    exact ⟨o, rfl, OwnSS.nil ho, hb2.grown hg3 hb2.size (fun g hg => by cases hg)⟩
  have h2 : IsP Q := by simpa using h
  refine lit0 oneInt (B := w2.heap.size) (Nat.le_refl _) ?_
  intro hd w5 hhd hg5 hdc
  have hb5 := below_of_grow hg5
  refine lit0 oneSint (B := w2.heap.size) hb5.size ?_
  intro o w6 ho hg6 hoc
  have hb6 := below_of_grow hg6
  have hb46 := hb5.trans (hb6.mono hb5.size)
  have hb06 := hb2.trans (hb46.mono hb2.size)
  refine (c_l7Find (hp.grow hb2) (hq.grow hb2) h1.1 h2.1 Q.length w6 hd o [] [] [] hb46 (OwnRows.nil ho) (by simpa [OwnI] using Own.grow hhd hb6) (fun t ht => by cases ht) (by simp) (Places.nil P) (by have := Nat.pow_le_pow_right (n := 8) (by omega) h2.1; simp; omega)).mono ?_
  rintro e w7 ⟨s, rfl, hs, hg7, hn7⟩
  rw [occP, if_pos ⟨h1, h2⟩]
  refine ⟨s, rfl, s, rfl, ?_, hb06.grown hg7 hb06.size (fun g hg => by simp [Sl.blk, hoc] at hg)⟩
  rw [List.nil_append] at hs
  exact hs.mono hb2.size
/-- What HasPattern answers. -/
noncomputable def hasPV (P Q : List Int) : Bool := decide (0 < (occP P Q).length)
theorem occP_len (P Q : List Int) : (occP P Q).length < 2^40 := by
  unfold occP
  split
  · rename_i h
    have h1 := occN_length (P := P) (Q := Q) Q.length [] (Places.nil P)
    have h2 := Nat.pow_le_pow_left h.1.1 Q.length
    have h3 := Nat.pow_le_pow_right (n := 8) (by omega) h.2.1
    omega
  · simp
theorem c_specHasPattern {w : World} {p q : Sl} {P Q : List Int} (hp : RowI w p P) (hq : RowI w q Q) (hP : P.length < 2^38) (hQ : Q.length < 2^38) :
    Calls PP F.spec_HasPattern #[p.v, q.v] w fun e w' => e = .returned (.bool (hasPV P Q)) ∧ Below w.heap.size w w' := by
  have neg : ∀ b, ¬ (IsP P ∧ IsP Q) → Ending.returned (.bool (decide ((-1 : Int) ≥ 1))) = .returned (.bool b) → b = hasPV P Q := fun b h e => by
    rw [hasPV, occP, if_neg h]; simpa using e.symm
  refine spec_HasPattern.calls p q ?_
  rw [spec_HasPattern.E_s]
  show Calls PP F.spec_CountPattern _ _ _
  refine spec_CountPattern.calls p q ?_
  rw [spec_CountPattern.E_s]
  refine Quiet.call1 (s := .bool) (c_specIsPerm hp hP) ?_
  intro w1 hd1
  have hb1 := hd1.below w.heap.size
  refine bif_intro (fun h => ?_) (fun h => ?_)
  · have h : ¬ IsP P := by simpa using h
    refine ⟨-1, rfl, ?_, hb1⟩
    rw [hasPV, occP, if_neg (fun hh => h hh.1)]; rfl
  refine Quiet.call1 (s := .bool) (c_specIsPerm (hq.grow hb1) hQ) ?_
  intro w2 hd2
  have hb2 := hb1.trans (hd2.below w.heap.size)
  refine bif_intro (fun h' => ?_) (fun h' => ?_)
  · have h' : ¬ IsP Q := by simpa using h'
    refine ⟨-1, rfl, ?_, hb2⟩
    rw [hasPV, occP, if_neg (fun hh => h' hh.2)]; rfl
  refine (c_specOccurrencesOf (hp.grow hb2) (hq.grow hb2) hP hQ).mono ?_
  rintro e w3 ⟨s, rfl, hs, hb3⟩
  refine ⟨s, rfl, _, rfl, ?_, hb2.trans (hb3.mono hb2.size)⟩
  have := hs.row.n
  rw [this, hasPV]
  congr 2
  simp only [decide_eq_decide]
  omega
theorem hasPV_eq {P Q : List Int} (h : IsP P) (hQ : IsP Q) : hasPV P Q = hasP P Q := by
  rw [hasPV, occP, if_pos ⟨h, hQ⟩]; unfold hasP hasB
  cases occN P Q Q.length [] <;> simp
end Go.Proofs.Ytdchjhhpbdekeaa

/- What each function does, step by step, written by a program (Gen.lean); each equation is checked by the kernel. -/
namespace Go.Proofs.Ytdchjhhpbdekeaa
open Go
set_option linter.unusedVariables false
set_option maxRecDepth 100000
namespace spec_CountTwoPasses
@[reducible] def cfg : Cfg := ⟨28, [(6, [3, 4, 5])], [(1, [3, 4, 5]), (0, [3])], [], [2], [], [101, 107, 112, 15, 21, 124, 76, 137, 28, 115, 91, 81, 130], [138, 140, 82, 6, 86, 85, 132]⟩
def q3 (pr : Prims) (R : Ending → World → Prop) : Exit → Env → World → Prop := fun ex e w => normQ ex (fun e w => contE pr cfg (sub (codeOf Try.f24) [1, 1, 1, 1, 1]) (fun e w => wpC pr PP cfg (DD pr) (sub (codeOf Try.f24) [1, 1, 1, 1, 1]) (retQ Try.f24.results.toList R) e w) e w) (retQ Try.f24.results.toList R) e w
def q4 (pr : Prims) (R : Ending → World → Prop) : Exit → Env → World → Prop := fun ex e w => blockQ ex 0 (q3 pr R) e w
def emb6 (sum_3 : Int) (all_4 : Sl) (k_5 : Int) : Env := [(3, vI sum_3), (4, Sl.v all_4), (5, vI k_5)]
def x0 (sum_3 : Int) : Env := [(3, vI sum_3)]
def S6 (pr : Prims) (Q : Exit → Env → World → Prop) : (Env → World → Prop) → Env → World → Prop := fun k e w => wpC pr PP cfg (DD pr) (sub (codeOf Try.f24) [1, 1, 1, 1, 0, 1, 0, 0]) (fun ex e w => normQ ex (fun e' w' => k (Env.restr e' (lookN cfg.loops (keyOf (sub (codeOf Try.f24) [1, 1, 1, 1, 0, 1, 0, 0])))) w') Q e w) e w
def B6 (pr : Prims) (sum_3 : Int) (all_4 : Sl) (k_5 : Int) (w : World) (k : Env → World → Prop) (Q : Exit → Env → World → Prop) : Prop :=
  S6 pr Q k (emb6 sum_3 all_4 k_5) w
def L6 (pr : Prims) (sum_3 : Int) (all_4 : Sl) (k_5 : Int) (w : World) (Q : Exit → Env → World → Prop) : Prop :=
  pr.loop (S6 pr Q) (emb6 sum_3 all_4 k_5) w
def E (pr : Prims) (n_0 : Int) (w : World) (R : Ending → World → Prop) : Prop :=
  wpC pr PP cfg (DD pr) (codeOf Try.f24) (retQ Try.f24.results.toList R) (argE 0 [vI n_0]) w
theorem B6_eq (pr : Prims) (sum_3 : Int) (all_4 : Sl) (k_5 : Int) (w : World) (k : Env → World → Prop) (Q : Exit → Env → World → Prop) : B6 pr sum_3 all_4 k_5 w k Q = (
  bif decide (k_5 < (all_4.n : Int)) then (
  pr.idxK 1 all_4 k_5 fun (a5 : Addr) =>
  pr.load1 .sl a5 w fun (ξ6 : Sl) =>
  pr.call1 .sl PP F.spec_l21Pass #[Sl.v ξ6] w fun (ρ7 : Sl) ω8 =>
  pr.call1 .sl PP F.spec_l21Pass #[Sl.v ρ7] ω8 fun (ρ9 : Sl) ω10 =>
  pr.call1 .bool PP F.spec_l13Straight #[Sl.v ρ9] ω10 fun (ρ11 : Bool) ω12 =>
  pr.pcall1 (.int .i64) PP F.spec_l1Bit #[.bool ρ11] fun (ρ13 : Int) =>
  k (emb6 (w64 (sum_3 + ρ13)) all_4 (w64 (k_5 + 1))) ω12)
  else (
  Q (.exit 0) (x0 sum_3) w)) := by kernel_rfl
theorem B6_s (sum_3 : Int) (all_4 : Sl) (k_5 : Int) (w : World) (k : Env → World → Prop) (Q : Exit → Env → World → Prop) : B6 std sum_3 all_4 k_5 w k Q = (
  bif decide (k_5 < (all_4.n : Int)) then (
  idxK 1 all_4 k_5 fun (a5 : Addr) =>
  load1 .sl a5 w fun (ξ6 : Sl) =>
  call1 .sl PP F.spec_l21Pass #[Sl.v ξ6] w fun (ρ7 : Sl) ω8 =>
  call1 .sl PP F.spec_l21Pass #[Sl.v ρ7] ω8 fun (ρ9 : Sl) ω10 =>
  call1 .bool PP F.spec_l13Straight #[Sl.v ρ9] ω10 fun (ρ11 : Bool) ω12 =>
  pcall1 (.int .i64) PP F.spec_l1Bit #[.bool ρ11] fun (ρ13 : Int) =>
  k (emb6 (w64 (sum_3 + ρ13)) all_4 (w64 (k_5 + 1))) ω12)
  else (
  Q (.exit 0) (x0 sum_3) w)) := B6_eq std sum_3 all_4 k_5 w k Q
theorem L6_rule (sum_3 : Int) (all_4 : Sl) (k_5 : Int) (w : World) (Q : Exit → Env → World → Prop) (I : Int → Int → World → Prop) (μ : Int → Int → World → Nat) (h0 : I sum_3 k_5 w)
    (h : ∀ (sum_3 : Int) (k_5 : Int) (w' : World), I sum_3 k_5 w' → B6 std sum_3 all_4 k_5 w' (fun e2 w2 => ∃ sum_3_n k_5_n, e2 = emb6 sum_3_n all_4 k_5_n ∧ I sum_3_n k_5_n w2 ∧ μ sum_3_n k_5_n w2 < μ sum_3 k_5 w') Q) :
    L6 std sum_3 all_4 k_5 w Q := by
  unfold L6
  refine LoopE.intro (σ := Int × Int) (step := S6 std Q) (fun s => emb6 s.1 all_4 s.2) (fun s w => I s.1 s.2 w) (fun s w => μ s.1 s.2 w) (sum_3, k_5) rfl h0 ?_
  intro s w' hI
  have h1 := h s.1 s.2 w' hI
  unfold B6 at h1
  simp only [Prod.exists]
  exact h1
theorem A6_0_eq (pr : Prims) (sum_3 : Int) (w : World) (R : Ending → World → Prop) : (q4 pr R) (.exit 0) (x0 sum_3) w = (
  R (.returned (vI sum_3)) w) := by kernel_rfl
theorem A6_0_s (sum_3 : Int) (w : World) (R : Ending → World → Prop) : (q4 std R) (.exit 0) (x0 sum_3) w = (
  R (.returned (vI sum_3)) w) := A6_0_eq std sum_3 w R
theorem E_eq (pr : Prims) (n_0 : Int) (w : World) (R : Ending → World → Prop) : E pr n_0 w R = (
  pr.pcall1 .bool PP F.spec_l1In #[vI n_0, vI 0, vI 6] fun (ρ0 : Bool) =>
  bif !ρ0 then (
  R (.returned (vI (-1))) w)
  else (
  pr.call1 .sl PP F.spec_PermsOf #[vI n_0] w fun (ρ1 : Sl) ω2 =>
  L6 pr 0 ρ1 0 ω2 (q4 pr R))) := by kernel_rfl
theorem E_s (n_0 : Int) (w : World) (R : Ending → World → Prop) : E std n_0 w R = (
  pcall1 .bool PP F.spec_l1In #[vI n_0, vI 0, vI 6] fun (ρ0 : Bool) =>
  bif !ρ0 then (
  R (.returned (vI (-1))) w)
  else (
  call1 .sl PP F.spec_PermsOf #[vI n_0] w fun (ρ1 : Sl) ω2 =>
  L6 std 0 ρ1 0 ω2 (q4 std R))) := E_eq std n_0 w R
theorem drawsOk : drawsOk PP cfg okD (codeOf Try.f24) = true := by kernel_rfl
theorem calls (n_0 : Int) {w : World} {R : Ending → World → Prop} (h : E std n_0 w R) : Calls PP F.spec_CountTwoPasses #[vI n_0] w R :=
  calls_of noCount mixed drawOk Try.func24 rfl (c := cfg) (args := [vI n_0]) rfl (Nat.le_of_ble_eq_true (by kernel_rfl)) drawsOk h
end spec_CountTwoPasses

namespace impl_CountTwoPasses
@[reducible] def cfg : Cfg := ⟨8, [], [], [], [2], [], [101, 107, 112, 15, 21, 124, 76, 137, 28, 115, 91, 81, 130], [138, 140, 82, 6, 86, 85, 132]⟩
def E (pr : Prims) (n_0 : Int) (w : World) (R : Ending → World → Prop) : Prop :=
  wpC pr PP cfg (DD pr) (codeOf Try.f23) (retQ Try.f23.results.toList R) (argE 0 [vI n_0]) w
theorem E_eq (pr : Prims) (n_0 : Int) (w : World) (R : Ending → World → Prop) : E pr n_0 w R = (
  pr.pcall1 .bool PP F.impl_isSix #[vI n_0] fun (ρ0 : Bool) =>
  bif !ρ0 then (
  R (.returned (vI (-1))) w)
  else (
  pr.call1 (.int .i64) PP F.impl_counted #[vI n_0, .func (.func F.impl_CountTwoPassesL1) #[] #[]] w fun (ρ1 : Int) ω2 =>
  R (.returned (vI ρ1)) ω2)) := by kernel_rfl
theorem E_s (n_0 : Int) (w : World) (R : Ending → World → Prop) : E std n_0 w R = (
  pcall1 .bool PP F.impl_isSix #[vI n_0] fun (ρ0 : Bool) =>
  bif !ρ0 then (
  R (.returned (vI (-1))) w)
  else (
  call1 (.int .i64) PP F.impl_counted #[vI n_0, .func (.func F.impl_CountTwoPassesL1) #[] #[]] w fun (ρ1 : Int) ω2 =>
  R (.returned (vI ρ1)) ω2)) := E_eq std n_0 w R
theorem drawsOk : drawsOk PP cfg okD (codeOf Try.f23) = true := by kernel_rfl
theorem calls (n_0 : Int) {w : World} {R : Ending → World → Prop} (h : E std n_0 w R) : Calls PP F.impl_CountTwoPasses #[vI n_0] w R :=
  calls_of noCount mixed drawOk Try.func23 rfl (c := cfg) (args := [vI n_0]) rfl (Nat.le_of_ble_eq_true (by kernel_rfl)) drawsOk h
end impl_CountTwoPasses

namespace impl_CountTwoPassesL1
@[reducible] def cfg : Cfg := ⟨6, [], [], [], [2], [], [101, 107, 112, 15, 21, 124, 76, 137, 28, 115, 91, 81, 130], [138, 140, 82, 6, 86, 85, 132]⟩
def E (pr : Prims) (p_0 : Sl) (w : World) (R : Ending → World → Prop) : Prop :=
  wpC pr PP cfg (DD pr) (codeOf Try.f84) (retQ Try.f84.results.toList R) (argE 0 [Sl.v p_0]) w
theorem E_eq (pr : Prims) (p_0 : Sl) (w : World) (R : Ending → World → Prop) : E pr p_0 w R = (
  pr.call1 (.int .i64) PP F.impl_timesOf #[Sl.v p_0, .func (.func F.impl_stackPass) #[] #[]] w fun (ρ0 : Int) ω1 =>
  R (.returned (.bool (decide (ρ0 ≤ 2)))) ω1) := by kernel_rfl
theorem E_s (p_0 : Sl) (w : World) (R : Ending → World → Prop) : E std p_0 w R = (
  call1 (.int .i64) PP F.impl_timesOf #[Sl.v p_0, .func (.func F.impl_stackPass) #[] #[]] w fun (ρ0 : Int) ω1 =>
  R (.returned (.bool (decide (ρ0 ≤ 2)))) ω1) := E_eq std p_0 w R
theorem drawsOk : drawsOk PP cfg okD (codeOf Try.f84) = true := by kernel_rfl
theorem calls (p_0 : Sl) {w : World} {R : Ending → World → Prop} (h : E std p_0 w R) : Calls PP F.impl_CountTwoPassesL1 #[Sl.v p_0] w R :=
  calls_of noCount mixed drawOk Try.func84 rfl (c := cfg) (args := [Sl.v p_0]) rfl (Nat.le_of_ble_eq_true (by kernel_rfl)) drawsOk h
end impl_CountTwoPassesL1

namespace spec_StackSources
@[reducible] def cfg : Cfg := ⟨40, [(6, [0, 3, 4, 5])], [(1, [0, 3, 4, 5]), (0, [3])], [], [2], [], [101, 107, 112, 15, 21, 124, 76, 137, 28, 115, 91, 81, 130], [138, 140, 82, 6, 86, 85, 132]⟩
def q6 (pr : Prims) (R : Ending → World → Prop) : Exit → Env → World → Prop := fun ex e w => normQ ex (fun e w => contE pr cfg (sub (codeOf Try.f22) [1, 1, 1, 1, 1]) (fun e w => wpC pr PP cfg (DD pr) (sub (codeOf Try.f22) [1, 1, 1, 1, 1]) (retQ Try.f22.results.toList R) e w) e w) (retQ Try.f22.results.toList R) e w
def q7 (pr : Prims) (R : Ending → World → Prop) : Exit → Env → World → Prop := fun ex e w => blockQ ex 0 (q6 pr R) e w
def emb6 (q_0 : Sl) (out_3 : Sl) (all_4 : Sl) (k_5 : Int) : Env := [(0, Sl.v q_0), (3, Sl.v out_3), (4, Sl.v all_4), (5, vI k_5)]
def x0 (out_3 : Sl) : Env := [(3, Sl.v out_3)]
def S6 (pr : Prims) (Q : Exit → Env → World → Prop) : (Env → World → Prop) → Env → World → Prop := fun k e w => wpC pr PP cfg (DD pr) (sub (codeOf Try.f22) [1, 1, 1, 1, 0, 1, 0, 0]) (fun ex e w => normQ ex (fun e' w' => k (Env.restr e' (lookN cfg.loops (keyOf (sub (codeOf Try.f22) [1, 1, 1, 1, 0, 1, 0, 0])))) w') Q e w) e w
def B6 (pr : Prims) (q_0 : Sl) (out_3 : Sl) (all_4 : Sl) (k_5 : Int) (w : World) (k : Env → World → Prop) (Q : Exit → Env → World → Prop) : Prop :=
  S6 pr Q k (emb6 q_0 out_3 all_4 k_5) w
def L6 (pr : Prims) (q_0 : Sl) (out_3 : Sl) (all_4 : Sl) (k_5 : Int) (w : World) (Q : Exit → Env → World → Prop) : Prop :=
  pr.loop (S6 pr Q) (emb6 q_0 out_3 all_4 k_5) w
def E (pr : Prims) (q_0 : Sl) (w : World) (R : Ending → World → Prop) : Prop :=
  wpC pr PP cfg (DD pr) (codeOf Try.f22) (retQ Try.f22.results.toList R) (argE 0 [Sl.v q_0]) w
theorem B6_eq (pr : Prims) (q_0 : Sl) (out_3 : Sl) (all_4 : Sl) (k_5 : Int) (w : World) (k : Env → World → Prop) (Q : Exit → Env → World → Prop) : B6 pr q_0 out_3 all_4 k_5 w k Q = (
  bif decide (k_5 < (all_4.n : Int)) then (
  pr.idxK 1 all_4 k_5 fun (a8 : Addr) =>
  pr.load1 .sl a8 w fun (ξ9 : Sl) =>
  pr.call1 .sl PP F.spec_l21Pass #[Sl.v ξ9] w fun (ρ10 : Sl) ω11 =>
  pr.call1 .bool PP F.spec_l2Same #[Sl.v ρ10, Sl.v q_0] ω11 fun (ρ12 : Bool) ω13 =>
  bif ρ12 then (
  pr.idxK 1 all_4 k_5 fun (a14 : Addr) =>
  pr.load1 .sl a14 ω13 fun (ξ15 : Sl) =>
  pr.sem1 .sl PP (Instr.buildSlice T_SSint 1 #[(0, Sl.v ξ15)]) ω13 fun (ρ16 : Sl) ω17 =>
  pr.sem1 .sl PP (Builtin.append_ #[T_SSint, T_SSint] T_SSint #[Sl.v out_3, Sl.v ρ16]) ω17 fun (ρ18 : Sl) ω19 =>
  k (emb6 q_0 ρ18 all_4 (w64 (k_5 + 1))) ω19)
  else (
  k (emb6 q_0 out_3 all_4 (w64 (k_5 + 1))) ω13))
  else (
  Q (.exit 0) (x0 out_3) w)) := by kernel_rfl
theorem B6_s (q_0 : Sl) (out_3 : Sl) (all_4 : Sl) (k_5 : Int) (w : World) (k : Env → World → Prop) (Q : Exit → Env → World → Prop) : B6 std q_0 out_3 all_4 k_5 w k Q = (
  bif decide (k_5 < (all_4.n : Int)) then (
  idxK 1 all_4 k_5 fun (a8 : Addr) =>
  load1 .sl a8 w fun (ξ9 : Sl) =>
  call1 .sl PP F.spec_l21Pass #[Sl.v ξ9] w fun (ρ10 : Sl) ω11 =>
  call1 .bool PP F.spec_l2Same #[Sl.v ρ10, Sl.v q_0] ω11 fun (ρ12 : Bool) ω13 =>
  bif ρ12 then (
  idxK 1 all_4 k_5 fun (a14 : Addr) =>
  load1 .sl a14 ω13 fun (ξ15 : Sl) =>
  sem1 .sl PP (Instr.buildSlice T_SSint 1 #[(0, Sl.v ξ15)]) ω13 fun (ρ16 : Sl) ω17 =>
  sem1 .sl PP (Builtin.append_ #[T_SSint, T_SSint] T_SSint #[Sl.v out_3, Sl.v ρ16]) ω17 fun (ρ18 : Sl) ω19 =>
  k (emb6 q_0 ρ18 all_4 (w64 (k_5 + 1))) ω19)
  else (
  k (emb6 q_0 out_3 all_4 (w64 (k_5 + 1))) ω13))
  else (
  Q (.exit 0) (x0 out_3) w)) := B6_eq std q_0 out_3 all_4 k_5 w k Q
theorem L6_rule (q_0 : Sl) (out_3 : Sl) (all_4 : Sl) (k_5 : Int) (w : World) (Q : Exit → Env → World → Prop) (I : Sl → Int → World → Prop) (μ : Sl → Int → World → Nat) (h0 : I out_3 k_5 w)
    (h : ∀ (out_3 : Sl) (k_5 : Int) (w' : World), I out_3 k_5 w' → B6 std q_0 out_3 all_4 k_5 w' (fun e2 w2 => ∃ out_3_n k_5_n, e2 = emb6 q_0 out_3_n all_4 k_5_n ∧ I out_3_n k_5_n w2 ∧ μ out_3_n k_5_n w2 < μ out_3 k_5 w') Q) :
    L6 std q_0 out_3 all_4 k_5 w Q := by
  unfold L6
  refine LoopE.intro (σ := Sl × Int) (step := S6 std Q) (fun s => emb6 q_0 s.1 all_4 s.2) (fun s w => I s.1 s.2 w) (fun s w => μ s.1 s.2 w) (out_3, k_5) rfl h0 ?_
  intro s w' hI
  have h1 := h s.1 s.2 w' hI
  unfold B6 at h1
  simp only [Prod.exists]
  exact h1
theorem A6_0_eq (pr : Prims) (out_3 : Sl) (w : World) (R : Ending → World → Prop) : (q7 pr R) (.exit 0) (x0 out_3) w = (
  R (.returned (Sl.v out_3)) w) := by kernel_rfl
theorem A6_0_s (out_3 : Sl) (w : World) (R : Ending → World → Prop) : (q7 std R) (.exit 0) (x0 out_3) w = (
  R (.returned (Sl.v out_3)) w) := A6_0_eq std out_3 w R
theorem E_eq (pr : Prims) (q_0 : Sl) (w : World) (R : Ending → World → Prop) : E pr q_0 w R = (
  pr.sem1 .sl PP (Instr.buildSlice T_SSint 0 #[]) w fun (ρ0 : Sl) ω1 =>
  pr.call1 .bool PP F.spec_IsPerm #[Sl.v q_0] ω1 fun (ρ2 : Bool) ω3 =>
  bif !ρ2 then (
  R (.returned (Sl.v ρ0)) ω3)
  else (
  bif decide ((q_0.n : Int) > 6) then (
  R (.returned (Sl.v ρ0)) ω3)
  else (
  pr.call1 .sl PP F.spec_PermsOf #[vI (q_0.n : Int)] ω3 fun (ρ4 : Sl) ω5 =>
  L6 pr q_0 ρ0 ρ4 0 ω5 (q7 pr R)))) := by kernel_rfl
theorem E_s (q_0 : Sl) (w : World) (R : Ending → World → Prop) : E std q_0 w R = (
  sem1 .sl PP (Instr.buildSlice T_SSint 0 #[]) w fun (ρ0 : Sl) ω1 =>
  call1 .bool PP F.spec_IsPerm #[Sl.v q_0] ω1 fun (ρ2 : Bool) ω3 =>
  bif !ρ2 then (
  R (.returned (Sl.v ρ0)) ω3)
  else (
  bif decide ((q_0.n : Int) > 6) then (
  R (.returned (Sl.v ρ0)) ω3)
  else (
  call1 .sl PP F.spec_PermsOf #[vI (q_0.n : Int)] ω3 fun (ρ4 : Sl) ω5 =>
  L6 std q_0 ρ0 ρ4 0 ω5 (q7 std R)))) := E_eq std q_0 w R
theorem drawsOk : drawsOk PP cfg okD (codeOf Try.f22) = true := by kernel_rfl
theorem calls (q_0 : Sl) {w : World} {R : Ending → World → Prop} (h : E std q_0 w R) : Calls PP F.spec_StackSources #[Sl.v q_0] w R :=
  calls_of noCount mixed drawOk Try.func22 rfl (c := cfg) (args := [Sl.v q_0]) rfl (Nat.le_of_ble_eq_true (by kernel_rfl)) drawsOk h
end spec_StackSources

namespace impl_StackSources
@[reducible] def cfg : Cfg := ⟨33, [(5, [0, 3, 17, 18, 19])], [(1, [0, 3, 17, 18, 19]), (0, [3])], [], [2], [], [101, 107, 112, 15, 21, 124, 76, 137, 28, 115, 91, 81, 130], [138, 140, 82, 6, 86, 85, 132]⟩
def q4 (pr : Prims) (R : Ending → World → Prop) : Exit → Env → World → Prop := fun ex e w => normQ ex (fun e w => contE pr cfg (sub (codeOf Try.f12) [1, 1, 1, 1]) (fun e w => wpC pr PP cfg (DD pr) (sub (codeOf Try.f12) [1, 1, 1, 1]) (retQ Try.f12.results.toList R) e w) e w) (retQ Try.f12.results.toList R) e w
def q7 (pr : Prims) (R : Ending → World → Prop) : Exit → Env → World → Prop := fun ex e w => blockQ ex 0 (q4 pr R) e w
def emb5 (q_0 : Sl) (out_3 : Sl) (t17 : Sl) (t18 : Int) (t19 : Int) : Env := [(0, Sl.v q_0), (3, Sl.v out_3), (17, Sl.v t17), (18, vI t18), (19, vI t19)]
def x0 (out_3 : Sl) : Env := [(3, Sl.v out_3)]
def S5 (pr : Prims) (Q : Exit → Env → World → Prop) : (Env → World → Prop) → Env → World → Prop := fun k e w => wpC pr PP cfg (DD pr) (sub (codeOf Try.f12) [1, 1, 1, 0, 1, 0, 0]) (fun ex e w => normQ ex (fun e' w' => k (Env.restr e' (lookN cfg.loops (keyOf (sub (codeOf Try.f12) [1, 1, 1, 0, 1, 0, 0])))) w') Q e w) e w
def B5 (pr : Prims) (q_0 : Sl) (out_3 : Sl) (t17 : Sl) (t18 : Int) (t19 : Int) (w : World) (k : Env → World → Prop) (Q : Exit → Env → World → Prop) : Prop :=
  S5 pr Q k (emb5 q_0 out_3 t17 t18 t19) w
def L5 (pr : Prims) (q_0 : Sl) (out_3 : Sl) (t17 : Sl) (t18 : Int) (t19 : Int) (w : World) (Q : Exit → Env → World → Prop) : Prop :=
  pr.loop (S5 pr Q) (emb5 q_0 out_3 t17 t18 t19) w
def E (pr : Prims) (q_0 : Sl) (w : World) (R : Ending → World → Prop) : Prop :=
  wpC pr PP cfg (DD pr) (codeOf Try.f12) (retQ Try.f12.results.toList R) (argE 0 [Sl.v q_0]) w
theorem B5_eq (pr : Prims) (q_0 : Sl) (out_3 : Sl) (t17 : Sl) (t18 : Int) (t19 : Int) (w : World) (k : Env → World → Prop) (Q : Exit → Env → World → Prop) : B5 pr q_0 out_3 t17 t18 t19 w k Q = (
  bif decide (t19 < t18) then (
  pr.idxK 1 t17 t19 fun (a8 : Addr) =>
  pr.load1 .sl a8 w fun (ξ9 : Sl) =>
  pr.call1 .sl PP F.impl_stackPass #[Sl.v ξ9] w fun (ρ10 : Sl) ω11 =>
  pr.call1 .bool PP F.slices_Equal___int_int_ #[Sl.v ρ10, Sl.v q_0] ω11 fun (ρ12 : Bool) ω13 =>
  bif ρ12 then (
  pr.sem1 .sl PP (Instr.buildSlice T_SSint 1 #[(0, Sl.v ξ9)]) ω13 fun (ρ14 : Sl) ω15 =>
  pr.sem1 .sl PP (Builtin.append_ #[T_SSint, T_SSint] T_SSint #[Sl.v out_3, Sl.v ρ14]) ω15 fun (ρ16 : Sl) ω17 =>
  k (emb5 q_0 ρ16 t17 t18 (w64 (t19 + 1))) ω17)
  else (
  k (emb5 q_0 out_3 t17 t18 (w64 (t19 + 1))) ω13))
  else (
  Q (.exit 0) (x0 out_3) w)) := by kernel_rfl
theorem B5_s (q_0 : Sl) (out_3 : Sl) (t17 : Sl) (t18 : Int) (t19 : Int) (w : World) (k : Env → World → Prop) (Q : Exit → Env → World → Prop) : B5 std q_0 out_3 t17 t18 t19 w k Q = (
  bif decide (t19 < t18) then (
  idxK 1 t17 t19 fun (a8 : Addr) =>
  load1 .sl a8 w fun (ξ9 : Sl) =>
  call1 .sl PP F.impl_stackPass #[Sl.v ξ9] w fun (ρ10 : Sl) ω11 =>
  call1 .bool PP F.slices_Equal___int_int_ #[Sl.v ρ10, Sl.v q_0] ω11 fun (ρ12 : Bool) ω13 =>
  bif ρ12 then (
  sem1 .sl PP (Instr.buildSlice T_SSint 1 #[(0, Sl.v ξ9)]) ω13 fun (ρ14 : Sl) ω15 =>
  sem1 .sl PP (Builtin.append_ #[T_SSint, T_SSint] T_SSint #[Sl.v out_3, Sl.v ρ14]) ω15 fun (ρ16 : Sl) ω17 =>
  k (emb5 q_0 ρ16 t17 t18 (w64 (t19 + 1))) ω17)
  else (
  k (emb5 q_0 out_3 t17 t18 (w64 (t19 + 1))) ω13))
  else (
  Q (.exit 0) (x0 out_3) w)) := B5_eq std q_0 out_3 t17 t18 t19 w k Q
theorem L5_rule (q_0 : Sl) (out_3 : Sl) (t17 : Sl) (t18 : Int) (t19 : Int) (w : World) (Q : Exit → Env → World → Prop) (I : Sl → Int → World → Prop) (μ : Sl → Int → World → Nat) (h0 : I out_3 t19 w)
    (h : ∀ (out_3 : Sl) (t19 : Int) (w' : World), I out_3 t19 w' → B5 std q_0 out_3 t17 t18 t19 w' (fun e2 w2 => ∃ out_3_n t19_n, e2 = emb5 q_0 out_3_n t17 t18 t19_n ∧ I out_3_n t19_n w2 ∧ μ out_3_n t19_n w2 < μ out_3 t19 w') Q) :
    L5 std q_0 out_3 t17 t18 t19 w Q := by
  unfold L5
  refine LoopE.intro (σ := Sl × Int) (step := S5 std Q) (fun s => emb5 q_0 s.1 t17 t18 s.2) (fun s w => I s.1 s.2 w) (fun s w => μ s.1 s.2 w) (out_3, t19) rfl h0 ?_
  intro s w' hI
  have h1 := h s.1 s.2 w' hI
  unfold B5 at h1
  simp only [Prod.exists]
  exact h1
theorem A5_0_eq (pr : Prims) (out_3 : Sl) (w : World) (R : Ending → World → Prop) : (q7 pr R) (.exit 0) (x0 out_3) w = (
  R (.returned (Sl.v out_3)) w) := by kernel_rfl
theorem A5_0_s (out_3 : Sl) (w : World) (R : Ending → World → Prop) : (q7 std R) (.exit 0) (x0 out_3) w = (
  R (.returned (Sl.v out_3)) w) := A5_0_eq std out_3 w R
theorem E_eq (pr : Prims) (q_0 : Sl) (w : World) (R : Ending → World → Prop) : E pr q_0 w R = (
  pr.call1 .bool PP F.impl_IsPerm #[Sl.v q_0] w fun (ρ0 : Bool) ω1 =>
  bif !ρ0 then (
  R (.returned (Sl.v Sl.nil)) ω1)
  else (
  bif decide ((q_0.n : Int) > 6) then (
  R (.returned (Sl.v Sl.nil)) ω1)
  else (
  pr.sem1 .sl PP (Instr.buildSlice T_SSint 0 #[]) ω1 fun (ρ2 : Sl) ω3 =>
  pr.call1 .sl PP F.impl_perms #[vI (q_0.n : Int)] ω3 fun (ρ5 : Sl) ω6 =>
  L5 pr q_0 ρ2 ρ5 (ρ5.n : Int) 0 ω6 (q7 pr R)))) := by kernel_rfl
theorem E_s (q_0 : Sl) (w : World) (R : Ending → World → Prop) : E std q_0 w R = (
  call1 .bool PP F.impl_IsPerm #[Sl.v q_0] w fun (ρ0 : Bool) ω1 =>
  bif !ρ0 then (
  R (.returned (Sl.v Sl.nil)) ω1)
  else (
  bif decide ((q_0.n : Int) > 6) then (
  R (.returned (Sl.v Sl.nil)) ω1)
  else (
  sem1 .sl PP (Instr.buildSlice T_SSint 0 #[]) ω1 fun (ρ2 : Sl) ω3 =>
  call1 .sl PP F.impl_perms #[vI (q_0.n : Int)] ω3 fun (ρ5 : Sl) ω6 =>
  L5 std q_0 ρ2 ρ5 (ρ5.n : Int) 0 ω6 (q7 std R)))) := E_eq std q_0 w R
theorem drawsOk : drawsOk PP cfg okD (codeOf Try.f12) = true := by kernel_rfl
theorem calls (q_0 : Sl) {w : World} {R : Ending → World → Prop} (h : E std q_0 w R) : Calls PP F.impl_StackSources #[Sl.v q_0] w R :=
  calls_of noCount mixed drawOk Try.func12 rfl (c := cfg) (args := [Sl.v q_0]) rfl (Nat.le_of_ble_eq_true (by kernel_rfl)) drawsOk h
end impl_StackSources

namespace impl_counted
@[reducible] def cfg : Cfg := ⟨22, [(3, [1, 5, 9, 10, 11])], [(1, [1, 5, 9, 10, 11]), (0, [5])], [], [4], [], [101, 107, 112, 15, 21, 124, 76, 137, 28, 115, 91, 81, 130], [138, 140, 82, 6, 86, 85, 132]⟩
def q0 (pr : Prims) (R : Ending → World → Prop) : Exit → Env → World → Prop := fun ex e w => normQ ex (fun e w => contE pr cfg (sub (codeOf Try.f83) [1, 1, 1]) (fun e w => wpC pr PP cfg (DD pr) (sub (codeOf Try.f83) [1, 1, 1]) (retQ Try.f83.results.toList R) e w) e w) (retQ Try.f83.results.toList R) e w
def q3 (pr : Prims) (R : Ending → World → Prop) : Exit → Env → World → Prop := fun ex e w => blockQ ex 0 (q0 pr R) e w
def emb3 (holds_1 : Value) (many_5 : Int) (t9 : Sl) (t10 : Int) (t11 : Int) : Env := [(1, holds_1), (5, vI many_5), (9, Sl.v t9), (10, vI t10), (11, vI t11)]
def x0 (many_5 : Int) : Env := [(5, vI many_5)]
def S3 (pr : Prims) (Q : Exit → Env → World → Prop) : (Env → World → Prop) → Env → World → Prop := fun k e w => wpC pr PP cfg (DD pr) (sub (codeOf Try.f83) [1, 1, 0, 1, 0, 0]) (fun ex e w => normQ ex (fun e' w' => k (Env.restr e' (lookN cfg.loops (keyOf (sub (codeOf Try.f83) [1, 1, 0, 1, 0, 0])))) w') Q e w) e w
def B3 (pr : Prims) (holds_1 : Value) (many_5 : Int) (t9 : Sl) (t10 : Int) (t11 : Int) (w : World) (k : Env → World → Prop) (Q : Exit → Env → World → Prop) : Prop :=
  S3 pr Q k (emb3 holds_1 many_5 t9 t10 t11) w
def L3 (pr : Prims) (holds_1 : Value) (many_5 : Int) (t9 : Sl) (t10 : Int) (t11 : Int) (w : World) (Q : Exit → Env → World → Prop) : Prop :=
  pr.loop (S3 pr Q) (emb3 holds_1 many_5 t9 t10 t11) w
def E (pr : Prims) (n_0 : Int) (holds_1 : Value) (w : World) (R : Ending → World → Prop) : Prop :=
  wpC pr PP cfg (DD pr) (codeOf Try.f83) (retQ Try.f83.results.toList R) (argE 0 [vI n_0, holds_1]) w
theorem B3_eq (pr : Prims) (holds_1 : Value) (many_5 : Int) (t9 : Sl) (t10 : Int) (t11 : Int) (w : World) (k : Env → World → Prop) (Q : Exit → Env → World → Prop) : B3 pr holds_1 many_5 t9 t10 t11 w k Q = (
  bif decide (t11 < t10) then (
  pr.idxK 1 t9 t11 fun (a4 : Addr) =>
  pr.load1 .sl a4 w fun (ξ5 : Sl) =>
  pr.callV1 .bool PP (holds_1) [Sl.v ξ5] w fun (ρ6 : Bool) ω7 =>
  bif ρ6 then (
  k (emb3 holds_1 (w64 (many_5 + 1)) t9 t10 (w64 (t11 + 1))) ω7)
  else (
  k (emb3 holds_1 many_5 t9 t10 (w64 (t11 + 1))) ω7))
  else (
  Q (.exit 0) (x0 many_5) w)) := by kernel_rfl
theorem B3_s (holds_1 : Value) (many_5 : Int) (t9 : Sl) (t10 : Int) (t11 : Int) (w : World) (k : Env → World → Prop) (Q : Exit → Env → World → Prop) : B3 std holds_1 many_5 t9 t10 t11 w k Q = (
  bif decide (t11 < t10) then (
  idxK 1 t9 t11 fun (a4 : Addr) =>
  load1 .sl a4 w fun (ξ5 : Sl) =>
  callV1 .bool PP (holds_1) [Sl.v ξ5] w fun (ρ6 : Bool) ω7 =>
  bif ρ6 then (
  k (emb3 holds_1 (w64 (many_5 + 1)) t9 t10 (w64 (t11 + 1))) ω7)
  else (
  k (emb3 holds_1 many_5 t9 t10 (w64 (t11 + 1))) ω7))
  else (
  Q (.exit 0) (x0 many_5) w)) := B3_eq std holds_1 many_5 t9 t10 t11 w k Q
theorem L3_rule (holds_1 : Value) (many_5 : Int) (t9 : Sl) (t10 : Int) (t11 : Int) (w : World) (Q : Exit → Env → World → Prop) (I : Int → Int → World → Prop) (μ : Int → Int → World → Nat) (h0 : I many_5 t11 w)
    (h : ∀ (many_5 : Int) (t11 : Int) (w' : World), I many_5 t11 w' → B3 std holds_1 many_5 t9 t10 t11 w' (fun e2 w2 => ∃ many_5_n t11_n, e2 = emb3 holds_1 many_5_n t9 t10 t11_n ∧ I many_5_n t11_n w2 ∧ μ many_5_n t11_n w2 < μ many_5 t11 w') Q) :
    L3 std holds_1 many_5 t9 t10 t11 w Q := by
  unfold L3
  refine LoopE.intro (σ := Int × Int) (step := S3 std Q) (fun s => emb3 holds_1 s.1 t9 t10 s.2) (fun s w => I s.1 s.2 w) (fun s w => μ s.1 s.2 w) (many_5, t11) rfl h0 ?_
  intro s w' hI
  have h1 := h s.1 s.2 w' hI
  unfold B3 at h1
  simp only [Prod.exists]
  exact h1
theorem A3_0_eq (pr : Prims) (many_5 : Int) (w : World) (R : Ending → World → Prop) : (q3 pr R) (.exit 0) (x0 many_5) w = (
  R (.returned (vI many_5)) w) := by kernel_rfl
theorem A3_0_s (many_5 : Int) (w : World) (R : Ending → World → Prop) : (q3 std R) (.exit 0) (x0 many_5) w = (
  R (.returned (vI many_5)) w) := A3_0_eq std many_5 w R
theorem E_eq (pr : Prims) (n_0 : Int) (holds_1 : Value) (w : World) (R : Ending → World → Prop) : E pr n_0 holds_1 w R = (
  pr.call1 .sl PP F.impl_perms #[vI n_0] w fun (ρ1 : Sl) ω2 =>
  L3 pr holds_1 0 ρ1 (ρ1.n : Int) 0 ω2 (q3 pr R)) := by kernel_rfl
theorem E_s (n_0 : Int) (holds_1 : Value) (w : World) (R : Ending → World → Prop) : E std n_0 holds_1 w R = (
  call1 .sl PP F.impl_perms #[vI n_0] w fun (ρ1 : Sl) ω2 =>
  L3 std holds_1 0 ρ1 (ρ1.n : Int) 0 ω2 (q3 std R)) := E_eq std n_0 holds_1 w R
theorem drawsOk : drawsOk PP cfg okD (codeOf Try.f83) = true := by kernel_rfl
theorem calls (n_0 : Int) (holds_1 : Value) {w : World} {R : Ending → World → Prop} (h : E std n_0 holds_1 w R) : Calls PP F.impl_counted #[vI n_0, holds_1] w R :=
  calls_of noCount mixed drawOk Try.func83 rfl (c := cfg) (args := [vI n_0, holds_1]) rfl (Nat.le_of_ble_eq_true (by kernel_rfl)) drawsOk h
end impl_counted

end Go.Proofs.Ytdchjhhpbdekeaa

/- What each function does, step by step, written by a program (Gen.lean); each equation is checked by the kernel. -/
namespace Go.Proofs.Ytdchjhhpbdekeaa
open Go
set_option linter.unusedVariables false
set_option maxRecDepth 100000
namespace slices_Equal___int_int_
@[reducible] def cfg : Cfg := ⟨26, [(4, [0, 1, 12, 13])], [(1, [0, 1, 12, 13]), (0, [])], [], [4], [6], [101, 107, 112, 15, 21, 124, 76, 137, 28, 115, 91, 81, 130], [138, 140, 82, 6, 86, 85, 132]⟩
def q0 (pr : Prims) (R : Ending → World → Prop) : Exit → Env → World → Prop := fun ex e w => normQ ex (fun e w => contE pr cfg (sub (codeOf Try.f76) [1, 1, 1]) (fun e w => wpC pr PP cfg (DD pr) (sub (codeOf Try.f76) [1, 1, 1]) (retQ Try.f76.results.toList R) e w) e w) (retQ Try.f76.results.toList R) e w
def q1 (pr : Prims) (R : Ending → World → Prop) : Exit → Env → World → Prop := fun ex e w => blockQ ex 0 (q0 pr R) e w
def emb4 (s1_0 : Sl) (s2_1 : Sl) (t12 : Int) (t13 : Int) : Env := [(0, Sl.v s1_0), (1, Sl.v s2_1), (12, vI t12), (13, vI t13)]
def x0 : Env := []
def S4 (pr : Prims) (Q : Exit → Env → World → Prop) : (Env → World → Prop) → Env → World → Prop := fun k e w => wpC pr PP cfg (DD pr) (sub (codeOf Try.f76) [1, 1, 0, 1, 0, 0]) (fun ex e w => normQ ex (fun e' w' => k (Env.restr e' (lookN cfg.loops (keyOf (sub (codeOf Try.f76) [1, 1, 0, 1, 0, 0])))) w') Q e w) e w
def B4 (pr : Prims) (s1_0 : Sl) (s2_1 : Sl) (t12 : Int) (t13 : Int) (w : World) (k : Env → World → Prop) (Q : Exit → Env → World → Prop) : Prop :=
  S4 pr Q k (emb4 s1_0 s2_1 t12 t13) w
def L4 (pr : Prims) (s1_0 : Sl) (s2_1 : Sl) (t12 : Int) (t13 : Int) (w : World) (Q : Exit → Env → World → Prop) : Prop :=
  pr.loop (S4 pr Q) (emb4 s1_0 s2_1 t12 t13) w
def E (pr : Prims) (s1_0 : Sl) (s2_1 : Sl) (w : World) (R : Ending → World → Prop) : Prop :=
  wpC pr PP cfg (DD pr) (codeOf Try.f76) (retQ Try.f76.results.toList R) (argE 0 [Sl.v s1_0, Sl.v s2_1]) w
theorem B4_eq (pr : Prims) (s1_0 : Sl) (s2_1 : Sl) (t12 : Int) (t13 : Int) (w : World) (k : Env → World → Prop) (Q : Exit → Env → World → Prop) : B4 pr s1_0 s2_1 t12 t13 w k Q = (
  bif decide (t13 < t12) then (
  pr.idxK 1 s1_0 t13 fun (a2 : Addr) =>
  pr.load1 (.int .i64) a2 w fun (ξ3 : Int) =>
  pr.idxK 1 s2_1 t13 fun (a4 : Addr) =>
  pr.load1 (.int .i64) a4 w fun (ξ5 : Int) =>
  pr.drewAll w fun ω6 =>
  bif ξ3 != ξ5 then (
  Q .ret [(4, .bool false)] ω6)
  else (
  k (emb4 s1_0 s2_1 t12 (w64 (t13 + 1))) ω6))
  else (
  Q (.exit 0) (x0) w)) := by kernel_rfl
theorem B4_s (s1_0 : Sl) (s2_1 : Sl) (t12 : Int) (t13 : Int) (w : World) (k : Env → World → Prop) (Q : Exit → Env → World → Prop) : B4 std s1_0 s2_1 t12 t13 w k Q = (
  bif decide (t13 < t12) then (
  idxK 1 s1_0 t13 fun (a2 : Addr) =>
  load1 (.int .i64) a2 w fun (ξ3 : Int) =>
  idxK 1 s2_1 t13 fun (a4 : Addr) =>
  load1 (.int .i64) a4 w fun (ξ5 : Int) =>
  drewAll w fun ω6 =>
  bif ξ3 != ξ5 then (
  Q .ret [(4, .bool false)] ω6)
  else (
  k (emb4 s1_0 s2_1 t12 (w64 (t13 + 1))) ω6))
  else (
  Q (.exit 0) (x0) w)) := B4_eq std s1_0 s2_1 t12 t13 w k Q
theorem L4_rule (s1_0 : Sl) (s2_1 : Sl) (t12 : Int) (t13 : Int) (w : World) (Q : Exit → Env → World → Prop) (I : Int → World → Prop) (μ : Int → World → Nat) (h0 : I t13 w)
    (h : ∀ (t13 : Int) (w' : World), I t13 w' → B4 std s1_0 s2_1 t12 t13 w' (fun e2 w2 => ∃ t13_n, e2 = emb4 s1_0 s2_1 t12 t13_n ∧ I t13_n w2 ∧ μ t13_n w2 < μ t13 w') Q) :
    L4 std s1_0 s2_1 t12 t13 w Q := by
  unfold L4
  refine LoopE.intro (σ := Int) (step := S4 std Q) (fun s => emb4 s1_0 s2_1 t12 s) (fun s w => I s w) (fun s w => μ s w) t13 rfl h0 ?_
  intro s w' hI
  have h1 := h s w' hI
  unfold B4 at h1
  exact h1
theorem A4_0_eq (pr : Prims) (w : World) (R : Ending → World → Prop) : (q1 pr R) (.exit 0) (x0) w = (
  R (.returned (.bool true)) w) := by kernel_rfl
theorem A4_0_s (w : World) (R : Ending → World → Prop) : (q1 std R) (.exit 0) (x0) w = (
  R (.returned (.bool true)) w) := A4_0_eq std w R
theorem R4_eq (pr : Prims) (v4 : Value) (w : World) (R : Ending → World → Prop) : (q1 pr R) .ret [(4, v4)] w = (
  R (.returned (v4)) w) := by kernel_rfl
theorem R4_s (v4 : Value) (w : World) (R : Ending → World → Prop) : (q1 std R) .ret [(4, v4)] w = (
  R (.returned (v4)) w) := R4_eq std v4 w R
theorem E_eq (pr : Prims) (s1_0 : Sl) (s2_1 : Sl) (w : World) (R : Ending → World → Prop) : E pr s1_0 s2_1 w R = (
  bif (s1_0.n : Int) != (s2_1.n : Int) then (
  R (.returned (.bool false)) w)
  else (
  L4 pr s1_0 s2_1 (s1_0.n : Int) 0 w (q1 pr R))) := by kernel_rfl
theorem E_s (s1_0 : Sl) (s2_1 : Sl) (w : World) (R : Ending → World → Prop) : E std s1_0 s2_1 w R = (
  bif (s1_0.n : Int) != (s2_1.n : Int) then (
  R (.returned (.bool false)) w)
  else (
  L4 std s1_0 s2_1 (s1_0.n : Int) 0 w (q1 std R))) := E_eq std s1_0 s2_1 w R
theorem drawsOk : drawsOk PP cfg okD (codeOf Try.f76) = true := by kernel_rfl
theorem calls (s1_0 : Sl) (s2_1 : Sl) {w : World} {R : Ending → World → Prop} (h : E std s1_0 s2_1 w R) : Calls PP F.slices_Equal___int_int_ #[Sl.v s1_0, Sl.v s2_1] w R :=
  calls_of noCount mixed drawOk Try.func76 rfl (c := cfg) (args := [Sl.v s1_0, Sl.v s2_1]) rfl (Nat.le_of_ble_eq_true (by kernel_rfl)) drawsOk h
end slices_Equal___int_int_

end Go.Proofs.Ytdchjhhpbdekeaa

/- The library's equality of rows. -/
namespace Go.Proofs.Ytdchjhhpbdekeaa
open Go Go.RowKit
set_option maxRecDepth 100000

theorem c_Equal {w : World} {a b : Sl} {L M : List Int} (ha : RowI w a L) (hb : RowI w b M) (hL : L.length < 2^39) : Quiet F.slices_Equal___int_int_ #[a.v, b.v] w (.bool (decide (L = M))) := by
  intro w1 hd
  have han : a.n = L.length := by have := ha.n; simpa using this
  have hbn : b.n = M.length := by have := hb.n; simpa using this
  refine slices_Equal___int_int_.calls a b ?_
  rw [slices_Equal___int_int_.E_s]
  refine bif_intro (fun h => ?_) (fun h => ?_)
  · have : L.length ≠ M.length := by simp at h; omega
    have : L ≠ M := fun e => this (by rw [e])
    exact ⟨by simp [this], Drew.refl _⟩
  have hlen : L.length = M.length := by simp at h; omega
  refine slices_Equal___int_int_.L4_rule _ _ _ _ _ _ (I := fun i w' => 0 ≤ i ∧ i ≤ L.length ∧ (∀ k, k < i.toNat → L[k]? = M[k]?) ∧ Drew w1 w') (μ := fun i _ => (L.length - i).toNat)
    ⟨by omega, by omega, fun k hk => by simp at hk, Drew.refl _⟩ ?_
  rintro i w' ⟨h0, hi, hall, hd2⟩
  have hh : w'.heap = w.heap := (hd.trans hd2).heap'
  rw [slices_Equal___int_int_.B4_s]
  refine bif_dec (fun h3 => ?_) (fun h3 => ?_)
  · have hlt : i.toNat < L.length := by omega
    have hlt2 : i.toNat < M.length := by omega
    refine RowI.get (ha.heap hh) h0 (by omega) ?_
    refine RowI.get (hb.heap hh) h0 (by omega) ?_
    refine drew_intro fun w3 hd3 => ?_
    rw [getD_eq hlt, getD_eq hlt2]
    refine bif_intro (fun h4 => ?_) (fun h4 => ?_)
    · have : L ≠ M := fun e => by subst e; simp at h4
      rw [slices_Equal___int_int_.R4_s]
      exact ⟨by simp [this], hd2.trans hd3⟩
    · have h4 : L[i.toNat] = M[i.toNat] := by simpa using h4
      refine ⟨i + 1, by rw [w64_succ h0 (by omega)], ⟨by omega, by omega, fun k hk => ?_, hd2.trans hd3⟩, by omega⟩
      by_cases hk2 : k < i.toNat
      · exact hall k hk2
      · have : k = i.toNat := by omega
        subst this
        rw [List.getElem?_eq_getElem hlt, List.getElem?_eq_getElem hlt2, h4]
  · rw [slices_Equal___int_int_.A4_0_s]
    have : L = M := by
      apply List.ext_getElem?
      intro k
      by_cases hk : k < L.length
      · exact hall k (by omega)
      · rw [List.getElem?_eq_none (by omega), List.getElem?_eq_none (by omega)]
    exact ⟨by simp [this], hd2⟩
end Go.Proofs.Ytdchjhhpbdekeaa
