/- The texts Code, L1, Law1, Perm, PermMath, Knuth, Rs, InsMath, InsV, InsS, Greene in one (gmerge.py). -/
import Derived.Test.YtdchjhhpbdekeaaTbM2
/- What each function does, step by step, written by a program (Gen.lean); each equation is checked by the kernel. -/
namespace Go.Proofs.Ytdchjhhpbdekeaa
open Go
set_option linter.unusedVariables false
set_option maxRecDepth 100000
namespace spec_l1In
@[reducible] def cfg : Cfg := ⟨15, [], [], [], [6], [], [101, 107, 112, 15, 21, 124, 76, 137, 28, 115, 91, 81, 130], [138, 140, 82, 6, 86, 85, 132]⟩
def E (pr : Prims) (x_0 : Int) (lo_1 : Int) (hi_2 : Int) (w : World) (R : Ending → World → Prop) : Prop :=
  wpC pr PP cfg (DD pr) (codeOf Try.f85) (retQ Try.f85.results.toList R) (argE 0 [vI x_0, vI lo_1, vI hi_2]) w
theorem E_eq (pr : Prims) (x_0 : Int) (lo_1 : Int) (hi_2 : Int) (w : World) (R : Ending → World → Prop) : E pr x_0 lo_1 hi_2 w R = (
  bif decide (x_0 ≥ lo_1) then (
  R (.returned (.bool (decide (x_0 ≤ hi_2)))) w)
  else (
  R (.returned (.bool false)) w)) := by kernel_rfl
theorem E_s (x_0 : Int) (lo_1 : Int) (hi_2 : Int) (w : World) (R : Ending → World → Prop) : E std x_0 lo_1 hi_2 w R = (
  bif decide (x_0 ≥ lo_1) then (
  R (.returned (.bool (decide (x_0 ≤ hi_2)))) w)
  else (
  R (.returned (.bool false)) w)) := E_eq std x_0 lo_1 hi_2 w R
theorem drawsOk : drawsOk PP cfg okD (codeOf Try.f85) = true := by kernel_rfl
theorem calls (x_0 : Int) (lo_1 : Int) (hi_2 : Int) {w : World} {R : Ending → World → Prop} (h : E std x_0 lo_1 hi_2 w R) : Calls PP F.spec_l1In #[vI x_0, vI lo_1, vI hi_2] w R :=
  calls_of noCount mixed drawOk Try.func85 rfl (c := cfg) (args := [vI x_0, vI lo_1, vI hi_2]) rfl (Nat.le_of_ble_eq_true (by kernel_rfl)) drawsOk h
end spec_l1In

namespace spec_l1Bit
@[reducible] def cfg : Cfg := ⟨4, [], [], [], [2], [], [101, 107, 112, 15, 21, 124, 76, 137, 28, 115, 91, 81, 130], [138, 140, 82, 6, 86, 85, 132]⟩
def E (pr : Prims) (on_0 : Bool) (w : World) (R : Ending → World → Prop) : Prop :=
  wpC pr PP cfg (DD pr) (codeOf Try.f86) (retQ Try.f86.results.toList R) (argE 0 [.bool on_0]) w
theorem E_eq (pr : Prims) (on_0 : Bool) (w : World) (R : Ending → World → Prop) : E pr on_0 w R = (
  bif on_0 then (
  R (.returned (vI 1)) w)
  else (
  R (.returned (vI 0)) w)) := by kernel_rfl
theorem E_s (on_0 : Bool) (w : World) (R : Ending → World → Prop) : E std on_0 w R = (
  bif on_0 then (
  R (.returned (vI 1)) w)
  else (
  R (.returned (vI 0)) w)) := E_eq std on_0 w R
theorem drawsOk : drawsOk PP cfg okD (codeOf Try.f86) = true := by kernel_rfl
theorem calls (on_0 : Bool) {w : World} {R : Ending → World → Prop} (h : E std on_0 w R) : Calls PP F.spec_l1Bit #[.bool on_0] w R :=
  calls_of noCount mixed drawOk Try.func86 rfl (c := cfg) (args := [.bool on_0]) rfl (Nat.le_of_ble_eq_true (by kernel_rfl)) drawsOk h
end spec_l1Bit

namespace impl_isPerm
@[reducible] def cfg : Cfg := ⟨34, [(3, [0, 3, 10, 11, 12])], [(1, [0, 3, 10, 11, 12]), (0, [])], [], [2], [], [101, 107, 112, 15, 21, 124, 76, 137, 28, 115, 91, 81, 130], [138, 140, 82, 6, 86, 85, 132]⟩
def q2 (pr : Prims) (R : Ending → World → Prop) : Exit → Env → World → Prop := fun ex e w => normQ ex (fun e w => contE pr cfg (sub (codeOf Try.f117) [1, 1, 1]) (fun e w => wpC pr PP cfg (DD pr) (sub (codeOf Try.f117) [1, 1, 1]) (retQ Try.f117.results.toList R) e w) e w) (retQ Try.f117.results.toList R) e w
def q3 (pr : Prims) (R : Ending → World → Prop) : Exit → Env → World → Prop := fun ex e w => blockQ ex 0 (q2 pr R) e w
def emb3 (p_0 : Sl) (seen_3 : Sl) (t10 : Sl) (t11 : Int) (t12 : Int) : Env := [(0, Sl.v p_0), (3, Sl.v seen_3), (10, Sl.v t10), (11, vI t11), (12, vI t12)]
def x0 : Env := []
def S3 (pr : Prims) (Q : Exit → Env → World → Prop) : (Env → World → Prop) → Env → World → Prop := fun k e w => wpC pr PP cfg (DD pr) (sub (codeOf Try.f117) [1, 1, 0, 1, 0, 0]) (fun ex e w => normQ ex (fun e' w' => k (Env.restr e' (lookN cfg.loops (keyOf (sub (codeOf Try.f117) [1, 1, 0, 1, 0, 0])))) w') Q e w) e w
def B3 (pr : Prims) (p_0 : Sl) (seen_3 : Sl) (t10 : Sl) (t11 : Int) (t12 : Int) (w : World) (k : Env → World → Prop) (Q : Exit → Env → World → Prop) : Prop :=
  S3 pr Q k (emb3 p_0 seen_3 t10 t11 t12) w
def L3 (pr : Prims) (p_0 : Sl) (seen_3 : Sl) (t10 : Sl) (t11 : Int) (t12 : Int) (w : World) (Q : Exit → Env → World → Prop) : Prop :=
  pr.loop (S3 pr Q) (emb3 p_0 seen_3 t10 t11 t12) w
def E (pr : Prims) (p_0 : Sl) (w : World) (R : Ending → World → Prop) : Prop :=
  wpC pr PP cfg (DD pr) (codeOf Try.f117) (retQ Try.f117.results.toList R) (argE 0 [Sl.v p_0]) w
theorem B3_eq (pr : Prims) (p_0 : Sl) (seen_3 : Sl) (t10 : Sl) (t11 : Int) (t12 : Int) (w : World) (k : Env → World → Prop) (Q : Exit → Env → World → Prop) : B3 pr p_0 seen_3 t10 t11 t12 w k Q = (
  bif decide (t12 < t11) then (
  pr.idxK 1 t10 t12 fun (a4 : Addr) =>
  pr.load1 (.int .i64) a4 w fun (ξ5 : Int) =>
  bif decide (ξ5 < 1) then (
  Q .ret [(2, .bool false)] w)
  else (
  bif decide (ξ5 > (p_0.n : Int)) then (
  Q .ret [(2, .bool false)] w)
  else (
  pr.idxK 1 seen_3 ξ5 fun (a6 : Addr) =>
  pr.load1 .bool a6 w fun (ξ7 : Bool) =>
  bif ξ7 then (
  Q .ret [(2, .bool false)] w)
  else (
  pr.idxK 1 seen_3 ξ5 fun (a8 : Addr) =>
  pr.storeC a8 (.bool true) w fun ω9 =>
  k (emb3 p_0 seen_3 t10 t11 (w64 (t12 + 1))) ω9))))
  else (
  Q (.exit 0) (x0) w)) := by kernel_rfl
theorem B3_s (p_0 : Sl) (seen_3 : Sl) (t10 : Sl) (t11 : Int) (t12 : Int) (w : World) (k : Env → World → Prop) (Q : Exit → Env → World → Prop) : B3 std p_0 seen_3 t10 t11 t12 w k Q = (
  bif decide (t12 < t11) then (
  idxK 1 t10 t12 fun (a4 : Addr) =>
  load1 (.int .i64) a4 w fun (ξ5 : Int) =>
  bif decide (ξ5 < 1) then (
  Q .ret [(2, .bool false)] w)
  else (
  bif decide (ξ5 > (p_0.n : Int)) then (
  Q .ret [(2, .bool false)] w)
  else (
  idxK 1 seen_3 ξ5 fun (a6 : Addr) =>
  load1 .bool a6 w fun (ξ7 : Bool) =>
  bif ξ7 then (
  Q .ret [(2, .bool false)] w)
  else (
  idxK 1 seen_3 ξ5 fun (a8 : Addr) =>
  storeC a8 (.bool true) w fun ω9 =>
  k (emb3 p_0 seen_3 t10 t11 (w64 (t12 + 1))) ω9))))
  else (
  Q (.exit 0) (x0) w)) := B3_eq std p_0 seen_3 t10 t11 t12 w k Q
theorem L3_rule (p_0 : Sl) (seen_3 : Sl) (t10 : Sl) (t11 : Int) (t12 : Int) (w : World) (Q : Exit → Env → World → Prop) (I : Int → World → Prop) (μ : Int → World → Nat) (h0 : I t12 w)
    (h : ∀ (t12 : Int) (w' : World), I t12 w' → B3 std p_0 seen_3 t10 t11 t12 w' (fun e2 w2 => ∃ t12_n, e2 = emb3 p_0 seen_3 t10 t11 t12_n ∧ I t12_n w2 ∧ μ t12_n w2 < μ t12 w') Q) :
    L3 std p_0 seen_3 t10 t11 t12 w Q := by
  unfold L3
  refine LoopE.intro (σ := Int) (step := S3 std Q) (fun s => emb3 p_0 seen_3 t10 t11 s) (fun s w => I s w) (fun s w => μ s w) t12 rfl h0 ?_
  intro s w' hI
  have h1 := h s w' hI
  unfold B3 at h1
  exact h1
theorem A3_0_eq (pr : Prims) (w : World) (R : Ending → World → Prop) : (q3 pr R) (.exit 0) (x0) w = (
  R (.returned (.bool true)) w) := by kernel_rfl
theorem A3_0_s (w : World) (R : Ending → World → Prop) : (q3 std R) (.exit 0) (x0) w = (
  R (.returned (.bool true)) w) := A3_0_eq std w R
theorem R3_eq (pr : Prims) (v2 : Value) (w : World) (R : Ending → World → Prop) : (q3 pr R) .ret [(2, v2)] w = (
  R (.returned (v2)) w) := by kernel_rfl
theorem R3_s (v2 : Value) (w : World) (R : Ending → World → Prop) : (q3 std R) .ret [(2, v2)] w = (
  R (.returned (v2)) w) := R3_eq std v2 w R
theorem E_eq (pr : Prims) (p_0 : Sl) (w : World) (R : Ending → World → Prop) : E pr p_0 w R = (
  pr.sem1 .sl PP (Instr.makeSlice T_Sbool (vI (w64 ((p_0.n : Int) + 1))) (vI (w64 ((p_0.n : Int) + 1)))) w fun (ρ0 : Sl) ω1 =>
  L3 pr p_0 ρ0 p_0 (p_0.n : Int) 0 ω1 (q3 pr R)) := by kernel_rfl
theorem E_s (p_0 : Sl) (w : World) (R : Ending → World → Prop) : E std p_0 w R = (
  sem1 .sl PP (Instr.makeSlice T_Sbool (vI (w64 ((p_0.n : Int) + 1))) (vI (w64 ((p_0.n : Int) + 1)))) w fun (ρ0 : Sl) ω1 =>
  L3 std p_0 ρ0 p_0 (p_0.n : Int) 0 ω1 (q3 std R)) := E_eq std p_0 w R
theorem drawsOk : drawsOk PP cfg okD (codeOf Try.f117) = true := by kernel_rfl
theorem calls (p_0 : Sl) {w : World} {R : Ending → World → Prop} (h : E std p_0 w R) : Calls PP F.impl_isPerm #[Sl.v p_0] w R :=
  calls_of noCount mixed drawOk Try.func117 rfl (c := cfg) (args := [Sl.v p_0]) rfl (Nat.le_of_ble_eq_true (by kernel_rfl)) drawsOk h
end impl_isPerm

namespace impl_IsPerm
@[reducible] def cfg : Cfg := ⟨10, [], [], [], [2], [], [101, 107, 112, 15, 21, 124, 76, 137, 28, 115, 91, 81, 130], [138, 140, 82, 6, 86, 85, 132]⟩
def E (pr : Prims) (p_0 : Sl) (w : World) (R : Ending → World → Prop) : Prop :=
  wpC pr PP cfg (DD pr) (codeOf Try.f67) (retQ Try.f67.results.toList R) (argE 0 [Sl.v p_0]) w
theorem E_eq (pr : Prims) (p_0 : Sl) (w : World) (R : Ending → World → Prop) : E pr p_0 w R = (
  bif decide ((p_0.n : Int) ≤ 8) then (
  pr.call1 .bool PP F.impl_isPerm #[Sl.v p_0] w fun (ρ0 : Bool) ω1 =>
  R (.returned (.bool ρ0)) ω1)
  else (
  R (.returned (.bool false)) w)) := by kernel_rfl
theorem E_s (p_0 : Sl) (w : World) (R : Ending → World → Prop) : E std p_0 w R = (
  bif decide ((p_0.n : Int) ≤ 8) then (
  call1 .bool PP F.impl_isPerm #[Sl.v p_0] w fun (ρ0 : Bool) ω1 =>
  R (.returned (.bool ρ0)) ω1)
  else (
  R (.returned (.bool false)) w)) := E_eq std p_0 w R
theorem drawsOk : drawsOk PP cfg okD (codeOf Try.f67) = true := by kernel_rfl
theorem calls (p_0 : Sl) {w : World} {R : Ending → World → Prop} (h : E std p_0 w R) : Calls PP F.impl_IsPerm #[Sl.v p_0] w R :=
  calls_of noCount mixed drawOk Try.func67 rfl (c := cfg) (args := [Sl.v p_0]) rfl (Nat.le_of_ble_eq_true (by kernel_rfl)) drawsOk h
end impl_IsPerm

namespace spec_IsPerm
@[reducible] def cfg : Cfg := ⟨36, [(2, [0, 3])], [(1, [0, 3]), (0, [0])], [], [2], [4], [101, 107, 112, 15, 21, 124, 76, 137, 28, 115, 91, 81, 130], [138, 140, 82, 6, 86, 85, 132]⟩
def q0 (pr : Prims) (R : Ending → World → Prop) : Exit → Env → World → Prop := fun ex e w => normQ ex (fun e w => contE pr cfg (sub (codeOf Try.f28) [1, 1]) (fun e w => wpC pr PP cfg (DD pr) (sub (codeOf Try.f28) [1, 1]) (retQ Try.f28.results.toList R) e w) e w) (retQ Try.f28.results.toList R) e w
def q1 (pr : Prims) (R : Ending → World → Prop) : Exit → Env → World → Prop := fun ex e w => blockQ ex 0 (q0 pr R) e w
def emb2 (p_0 : Sl) (k_3 : Int) : Env := [(0, Sl.v p_0), (3, vI k_3)]
def x0 (p_0 : Sl) : Env := [(0, Sl.v p_0)]
def S2 (pr : Prims) (Q : Exit → Env → World → Prop) : (Env → World → Prop) → Env → World → Prop := fun k e w => wpC pr PP cfg (DD pr) (sub (codeOf Try.f28) [1, 0, 1, 0, 0]) (fun ex e w => normQ ex (fun e' w' => k (Env.restr e' (lookN cfg.loops (keyOf (sub (codeOf Try.f28) [1, 0, 1, 0, 0])))) w') Q e w) e w
def B2 (pr : Prims) (p_0 : Sl) (k_3 : Int) (w : World) (k : Env → World → Prop) (Q : Exit → Env → World → Prop) : Prop :=
  S2 pr Q k (emb2 p_0 k_3) w
def L2 (pr : Prims) (p_0 : Sl) (k_3 : Int) (w : World) (Q : Exit → Env → World → Prop) : Prop :=
  pr.loop (S2 pr Q) (emb2 p_0 k_3) w
def E (pr : Prims) (p_0 : Sl) (w : World) (R : Ending → World → Prop) : Prop :=
  wpC pr PP cfg (DD pr) (codeOf Try.f28) (retQ Try.f28.results.toList R) (argE 0 [Sl.v p_0]) w
theorem B2_eq (pr : Prims) (p_0 : Sl) (k_3 : Int) (w : World) (k : Env → World → Prop) (Q : Exit → Env → World → Prop) : B2 pr p_0 k_3 w k Q = (
  bif decide (k_3 < (p_0.n : Int)) then (
  bif decide ((p_0.n : Int) ≤ 8) then (
  pr.idxK 1 p_0 k_3 fun (a2 : Addr) =>
  pr.load1 (.int .i64) a2 w fun (ξ3 : Int) =>
  pr.pcall1 .bool PP F.spec_l1In #[vI ξ3, vI 1, vI (p_0.n : Int)] fun (ρ4 : Bool) =>
  bif !ρ4 then (
  pr.drewAll w fun ω5 =>
  Q .ret [(2, .bool false)] ω5)
  else (
  pr.cutK 1 p_0 none (some k_3) fun (s6 : Sl) =>
  pr.idxK 1 p_0 k_3 fun (a7 : Addr) =>
  pr.load1 (.int .i64) a7 w fun (ξ8 : Int) =>
  pr.qcall1 .bool PP F.spec_l2Has #[Sl.v s6, vI ξ8] w fun (ρ9 : Bool) =>
  pr.drewAll w fun ω10 =>
  bif ρ9 then (
  Q .ret [(2, .bool false)] ω10)
  else (
  k (emb2 p_0 (w64 (k_3 + 1))) ω10)))
  else (
  Q (.exit 0) (x0 p_0) w))
  else (
  Q (.exit 0) (x0 p_0) w)) := by kernel_rfl
theorem B2_s (p_0 : Sl) (k_3 : Int) (w : World) (k : Env → World → Prop) (Q : Exit → Env → World → Prop) : B2 std p_0 k_3 w k Q = (
  bif decide (k_3 < (p_0.n : Int)) then (
  bif decide ((p_0.n : Int) ≤ 8) then (
  idxK 1 p_0 k_3 fun (a2 : Addr) =>
  load1 (.int .i64) a2 w fun (ξ3 : Int) =>
  pcall1 .bool PP F.spec_l1In #[vI ξ3, vI 1, vI (p_0.n : Int)] fun (ρ4 : Bool) =>
  bif !ρ4 then (
  drewAll w fun ω5 =>
  Q .ret [(2, .bool false)] ω5)
  else (
  cutK 1 p_0 none (some k_3) fun (s6 : Sl) =>
  idxK 1 p_0 k_3 fun (a7 : Addr) =>
  load1 (.int .i64) a7 w fun (ξ8 : Int) =>
  qcall1 .bool PP F.spec_l2Has #[Sl.v s6, vI ξ8] w fun (ρ9 : Bool) =>
  drewAll w fun ω10 =>
  bif ρ9 then (
  Q .ret [(2, .bool false)] ω10)
  else (
  k (emb2 p_0 (w64 (k_3 + 1))) ω10)))
  else (
  Q (.exit 0) (x0 p_0) w))
  else (
  Q (.exit 0) (x0 p_0) w)) := B2_eq std p_0 k_3 w k Q
theorem L2_rule (p_0 : Sl) (k_3 : Int) (w : World) (Q : Exit → Env → World → Prop) (I : Int → World → Prop) (μ : Int → World → Nat) (h0 : I k_3 w)
    (h : ∀ (k_3 : Int) (w' : World), I k_3 w' → B2 std p_0 k_3 w' (fun e2 w2 => ∃ k_3_n, e2 = emb2 p_0 k_3_n ∧ I k_3_n w2 ∧ μ k_3_n w2 < μ k_3 w') Q) :
    L2 std p_0 k_3 w Q := by
  unfold L2
  refine LoopE.intro (σ := Int) (step := S2 std Q) (fun s => emb2 p_0 s) (fun s w => I s w) (fun s w => μ s w) k_3 rfl h0 ?_
  intro s w' hI
  have h1 := h s w' hI
  unfold B2 at h1
  exact h1
theorem A2_0_eq (pr : Prims) (p_0 : Sl) (w : World) (R : Ending → World → Prop) : (q1 pr R) (.exit 0) (x0 p_0) w = (
  R (.returned (.bool (decide ((p_0.n : Int) ≤ 8)))) w) := by kernel_rfl
theorem A2_0_s (p_0 : Sl) (w : World) (R : Ending → World → Prop) : (q1 std R) (.exit 0) (x0 p_0) w = (
  R (.returned (.bool (decide ((p_0.n : Int) ≤ 8)))) w) := A2_0_eq std p_0 w R
theorem R2_eq (pr : Prims) (v2 : Value) (w : World) (R : Ending → World → Prop) : (q1 pr R) .ret [(2, v2)] w = (
  R (.returned (v2)) w) := by kernel_rfl
theorem R2_s (v2 : Value) (w : World) (R : Ending → World → Prop) : (q1 std R) .ret [(2, v2)] w = (
  R (.returned (v2)) w) := R2_eq std v2 w R
theorem E_eq (pr : Prims) (p_0 : Sl) (w : World) (R : Ending → World → Prop) : E pr p_0 w R = (
  L2 pr p_0 0 w (q1 pr R)) := by kernel_rfl
theorem E_s (p_0 : Sl) (w : World) (R : Ending → World → Prop) : E std p_0 w R = (
  L2 std p_0 0 w (q1 std R)) := E_eq std p_0 w R
theorem drawsOk : drawsOk PP cfg okD (codeOf Try.f28) = true := by kernel_rfl
theorem calls (p_0 : Sl) {w : World} {R : Ending → World → Prop} (h : E std p_0 w R) : Calls PP F.spec_IsPerm #[Sl.v p_0] w R :=
  calls_of noCount mixed drawOk Try.func28 rfl (c := cfg) (args := [Sl.v p_0]) rfl (Nat.le_of_ble_eq_true (by kernel_rfl)) drawsOk h
end spec_IsPerm

namespace spec_l2Has
@[reducible] def cfg : Cfg := ⟨18, [(2, [0, 1, 5])], [(1, [0, 1, 5]), (0, [])], [], [4], [], [101, 107, 112, 15, 21, 124, 76, 137, 28, 115, 91, 81, 130], [138, 140, 82, 6, 86, 85, 132]⟩
def q0 (pr : Prims) (R : Ending → World → Prop) : Exit → Env → World → Prop := fun ex e w => normQ ex (fun e w => contE pr cfg (sub (codeOf Try.f91) [1, 1]) (fun e w => wpC pr PP cfg (DD pr) (sub (codeOf Try.f91) [1, 1]) (retQ Try.f91.results.toList R) e w) e w) (retQ Try.f91.results.toList R) e w
def q1 (pr : Prims) (R : Ending → World → Prop) : Exit → Env → World → Prop := fun ex e w => blockQ ex 0 (q0 pr R) e w
def emb2 (list_0 : Sl) (n_1 : Int) (k_5 : Int) : Env := [(0, Sl.v list_0), (1, vI n_1), (5, vI k_5)]
def x0 : Env := []
def S2 (pr : Prims) (Q : Exit → Env → World → Prop) : (Env → World → Prop) → Env → World → Prop := fun k e w => wpC pr PP cfg (DD pr) (sub (codeOf Try.f91) [1, 0, 1, 0, 0]) (fun ex e w => normQ ex (fun e' w' => k (Env.restr e' (lookN cfg.loops (keyOf (sub (codeOf Try.f91) [1, 0, 1, 0, 0])))) w') Q e w) e w
def B2 (pr : Prims) (list_0 : Sl) (n_1 : Int) (k_5 : Int) (w : World) (k : Env → World → Prop) (Q : Exit → Env → World → Prop) : Prop :=
  S2 pr Q k (emb2 list_0 n_1 k_5) w
def L2 (pr : Prims) (list_0 : Sl) (n_1 : Int) (k_5 : Int) (w : World) (Q : Exit → Env → World → Prop) : Prop :=
  pr.loop (S2 pr Q) (emb2 list_0 n_1 k_5) w
def E (pr : Prims) (list_0 : Sl) (n_1 : Int) (w : World) (R : Ending → World → Prop) : Prop :=
  wpC pr PP cfg (DD pr) (codeOf Try.f91) (retQ Try.f91.results.toList R) (argE 0 [Sl.v list_0, vI n_1]) w
theorem B2_eq (pr : Prims) (list_0 : Sl) (n_1 : Int) (k_5 : Int) (w : World) (k : Env → World → Prop) (Q : Exit → Env → World → Prop) : B2 pr list_0 n_1 k_5 w k Q = (
  bif decide (k_5 < (list_0.n : Int)) then (
  pr.idxK 1 list_0 k_5 fun (a2 : Addr) =>
  pr.load1 (.int .i64) a2 w fun (ξ3 : Int) =>
  bif ξ3 == n_1 then (
  Q .ret [(4, .bool true)] w)
  else (
  k (emb2 list_0 n_1 (w64 (k_5 + 1))) w))
  else (
  Q (.exit 0) (x0) w)) := by kernel_rfl
theorem B2_s (list_0 : Sl) (n_1 : Int) (k_5 : Int) (w : World) (k : Env → World → Prop) (Q : Exit → Env → World → Prop) : B2 std list_0 n_1 k_5 w k Q = (
  bif decide (k_5 < (list_0.n : Int)) then (
  idxK 1 list_0 k_5 fun (a2 : Addr) =>
  load1 (.int .i64) a2 w fun (ξ3 : Int) =>
  bif ξ3 == n_1 then (
  Q .ret [(4, .bool true)] w)
  else (
  k (emb2 list_0 n_1 (w64 (k_5 + 1))) w))
  else (
  Q (.exit 0) (x0) w)) := B2_eq std list_0 n_1 k_5 w k Q
theorem L2_rule (list_0 : Sl) (n_1 : Int) (k_5 : Int) (w : World) (Q : Exit → Env → World → Prop) (I : Int → World → Prop) (μ : Int → World → Nat) (h0 : I k_5 w)
    (h : ∀ (k_5 : Int) (w' : World), I k_5 w' → B2 std list_0 n_1 k_5 w' (fun e2 w2 => ∃ k_5_n, e2 = emb2 list_0 n_1 k_5_n ∧ I k_5_n w2 ∧ μ k_5_n w2 < μ k_5 w') Q) :
    L2 std list_0 n_1 k_5 w Q := by
  unfold L2
  refine LoopE.intro (σ := Int) (step := S2 std Q) (fun s => emb2 list_0 n_1 s) (fun s w => I s w) (fun s w => μ s w) k_5 rfl h0 ?_
  intro s w' hI
  have h1 := h s w' hI
  unfold B2 at h1
  exact h1
theorem A2_0_eq (pr : Prims) (w : World) (R : Ending → World → Prop) : (q1 pr R) (.exit 0) (x0) w = (
  R (.returned (.bool false)) w) := by kernel_rfl
theorem A2_0_s (w : World) (R : Ending → World → Prop) : (q1 std R) (.exit 0) (x0) w = (
  R (.returned (.bool false)) w) := A2_0_eq std w R
theorem R2_eq (pr : Prims) (v4 : Value) (w : World) (R : Ending → World → Prop) : (q1 pr R) .ret [(4, v4)] w = (
  R (.returned (v4)) w) := by kernel_rfl
theorem R2_s (v4 : Value) (w : World) (R : Ending → World → Prop) : (q1 std R) .ret [(4, v4)] w = (
  R (.returned (v4)) w) := R2_eq std v4 w R
theorem E_eq (pr : Prims) (list_0 : Sl) (n_1 : Int) (w : World) (R : Ending → World → Prop) : E pr list_0 n_1 w R = (
  L2 pr list_0 n_1 0 w (q1 pr R)) := by kernel_rfl
theorem E_s (list_0 : Sl) (n_1 : Int) (w : World) (R : Ending → World → Prop) : E std list_0 n_1 w R = (
  L2 std list_0 n_1 0 w (q1 std R)) := E_eq std list_0 n_1 w R
theorem drawsOk : drawsOk PP cfg okD (codeOf Try.f91) = true := by kernel_rfl
theorem calls (list_0 : Sl) (n_1 : Int) {w : World} {R : Ending → World → Prop} (h : E std list_0 n_1 w R) : Calls PP F.spec_l2Has #[Sl.v list_0, vI n_1] w R :=
  calls_of noCount mixed drawOk Try.func91 rfl (c := cfg) (args := [Sl.v list_0, vI n_1]) rfl (Nat.le_of_ble_eq_true (by kernel_rfl)) drawsOk h
end spec_l2Has

namespace impl_lengths
@[reducible] def cfg : Cfg := ⟨95, [(7, [0, 4, 5, 6, 7]), (3, [0, 4, 5, 6])], [(4, [0, 4, 5, 6, 7]), (3, [0, 4, 5, 6, 7]), (2, [0, 4, 5, 6]), (1, [0, 4, 5, 6]), (0, [4, 5])], [(2, [0, 4, 5])], [2, 3], [10, 11], [101, 107, 112, 15, 21, 124, 76, 137, 28, 115, 91, 81, 130], [138, 140, 82, 6, 86, 85, 132]⟩
def q0 (pr : Prims) (R : Ending → World → Prop) : Exit → Env → World → Prop := fun ex e w => normQ ex (fun e w => contE pr cfg (sub (codeOf Try.f93) [1, 1]) (fun e w => wpC pr PP cfg (DD pr) (sub (codeOf Try.f93) [1, 1]) (retQ Try.f93.results.toList R) e w) e w) (retQ Try.f93.results.toList R) e w
def q6 (pr : Prims) (R : Ending → World → Prop) : Exit → Env → World → Prop := fun ex e w => normQ ex (fun e w => contE pr cfg (sub (codeOf Try.f93) [1, 1, 1]) (fun e w => wpC pr PP cfg (DD pr) (sub (codeOf Try.f93) [1, 1, 1]) (retQ Try.f93.results.toList R) e w) e w) (retQ Try.f93.results.toList R) e w
def q7 (pr : Prims) (R : Ending → World → Prop) : Exit → Env → World → Prop := fun ex e w => blockQ ex 0 (q6 pr R) e w
def q8 (pr : Prims) (k : Env → World → Prop) (Q : Exit → Env → World → Prop) : Exit → Env → World → Prop := fun ex e w => normQ ex (fun e w => contE pr cfg (sub (codeOf Try.f93) [1, 1, 0, 1, 0, 0, 1, 1]) (fun e w => wpC pr PP cfg (DD pr) (sub (codeOf Try.f93) [1, 1, 0, 1, 0, 0, 1, 1]) (fun ex e w => normQ ex (fun e' w' => k (Env.restr e' (lookN cfg.loops (keyOf (sub (codeOf Try.f93) [1, 1, 0, 1, 0, 0])))) w') Q e w) e w) e w) (fun ex e w => normQ ex (fun e' w' => k (Env.restr e' (lookN cfg.loops (keyOf (sub (codeOf Try.f93) [1, 1, 0, 1, 0, 0])))) w') Q e w) e w
def q9 (pr : Prims) (k : Env → World → Prop) (Q : Exit → Env → World → Prop) : Exit → Env → World → Prop := fun ex e w => blockQ ex 1 (q8 pr k Q) e w
def q14 (pr : Prims) (k : Env → World → Prop) (Q : Exit → Env → World → Prop) : Exit → Env → World → Prop := fun ex e w => blockQ ex 2 (q9 pr k Q) e w
def j2 (p_0 : Sl) (long_4 : Sl) (many_5 : Sl) : Env := [(0, Sl.v p_0), (4, Sl.v long_4), (5, Sl.v many_5)]
def emb3 (p_0 : Sl) (long_4 : Sl) (many_5 : Sl) (i_6 : Int) : Env := [(0, Sl.v p_0), (4, Sl.v long_4), (5, Sl.v many_5), (6, vI i_6)]
def emb7 (p_0 : Sl) (long_4 : Sl) (many_5 : Sl) (i_6 : Int) (k_7 : Int) : Env := [(0, Sl.v p_0), (4, Sl.v long_4), (5, Sl.v many_5), (6, vI i_6), (7, vI k_7)]
def x2 (p_0 : Sl) (long_4 : Sl) (many_5 : Sl) (i_6 : Int) : Env := [(0, Sl.v p_0), (4, Sl.v long_4), (5, Sl.v many_5), (6, vI i_6)]
def x0 (long_4 : Sl) (many_5 : Sl) : Env := [(4, Sl.v long_4), (5, Sl.v many_5)]
def S7 (pr : Prims) (Q : Exit → Env → World → Prop) : (Env → World → Prop) → Env → World → Prop := fun k e w => wpC pr PP cfg (DD pr) (sub (codeOf Try.f93) [1, 1, 0, 1, 0, 0, 1, 0, 0, 1, 1, 0, 0]) (fun ex e w => normQ ex (fun e' w' => k (Env.restr e' (lookN cfg.loops (keyOf (sub (codeOf Try.f93) [1, 1, 0, 1, 0, 0, 1, 0, 0, 1, 1, 0, 0])))) w') Q e w) e w
def S3 (pr : Prims) (Q : Exit → Env → World → Prop) : (Env → World → Prop) → Env → World → Prop := fun k e w => wpC pr PP cfg (DD pr) (sub (codeOf Try.f93) [1, 1, 0, 1, 0, 0]) (fun ex e w => normQ ex (fun e' w' => k (Env.restr e' (lookN cfg.loops (keyOf (sub (codeOf Try.f93) [1, 1, 0, 1, 0, 0])))) w') Q e w) e w
def B7 (pr : Prims) (p_0 : Sl) (long_4 : Sl) (many_5 : Sl) (i_6 : Int) (k_7 : Int) (w : World) (k : Env → World → Prop) (Q : Exit → Env → World → Prop) : Prop :=
  S7 pr Q k (emb7 p_0 long_4 many_5 i_6 k_7) w
def L7 (pr : Prims) (p_0 : Sl) (long_4 : Sl) (many_5 : Sl) (i_6 : Int) (k_7 : Int) (w : World) (Q : Exit → Env → World → Prop) : Prop :=
  pr.loop (S7 pr Q) (emb7 p_0 long_4 many_5 i_6 k_7) w
def B3 (pr : Prims) (p_0 : Sl) (long_4 : Sl) (many_5 : Sl) (i_6 : Int) (w : World) (k : Env → World → Prop) (Q : Exit → Env → World → Prop) : Prop :=
  S3 pr Q k (emb3 p_0 long_4 many_5 i_6) w
def L3 (pr : Prims) (p_0 : Sl) (long_4 : Sl) (many_5 : Sl) (i_6 : Int) (w : World) (Q : Exit → Env → World → Prop) : Prop :=
  pr.loop (S3 pr Q) (emb3 p_0 long_4 many_5 i_6) w
def J2 (pr : Prims) (p_0 : Sl) (long_4 : Sl) (many_5 : Sl) (w : World) (R : Ending → World → Prop) : Prop :=
  pr.seg (fun e w => wpC pr PP cfg (DD pr) (sub (codeOf Try.f93) [1, 1]) (retQ Try.f93.results.toList R) e w) (j2 p_0 long_4 many_5) w
def E (pr : Prims) (p_0 : Sl) (w : World) (R : Ending → World → Prop) : Prop :=
  wpC pr PP cfg (DD pr) (codeOf Try.f93) (retQ Try.f93.results.toList R) (argE 0 [Sl.v p_0]) w
theorem B7_eq (pr : Prims) (p_0 : Sl) (long_4 : Sl) (many_5 : Sl) (i_6 : Int) (k_7 : Int) (w : World) (k : Env → World → Prop) (Q : Exit → Env → World → Prop) : B7 pr p_0 long_4 many_5 i_6 k_7 w k Q = (
  bif decide (k_7 < (p_0.n : Int)) then (
  pr.idxK 1 p_0 k_7 fun (a15 : Addr) =>
  pr.load1 (.int .i64) a15 w fun (ξ16 : Int) =>
  pr.idxK 1 p_0 i_6 fun (a17 : Addr) =>
  pr.load1 (.int .i64) a17 w fun (ξ18 : Int) =>
  bif decide (ξ16 < ξ18) then (
  pr.drewAll w fun ω19 =>
  k (emb7 p_0 long_4 many_5 i_6 (w64 (k_7 + 1))) ω19)
  else (
  pr.idxK 1 long_4 k_7 fun (a20 : Addr) =>
  pr.load1 (.int .i64) a20 w fun (ξ21 : Int) =>
  pr.idxK 1 long_4 i_6 fun (a22 : Addr) =>
  pr.load1 (.int .i64) a22 w fun (ξ23 : Int) =>
  pr.drewAll w fun ω24 =>
  bif decide ((w64 (ξ21 + 1)) < ξ23) then (
  k (emb7 p_0 long_4 many_5 i_6 (w64 (k_7 + 1))) ω24)
  else (
  pr.idxK 1 long_4 k_7 fun (a25 : Addr) =>
  pr.load1 (.int .i64) a25 ω24 fun (ξ26 : Int) =>
  pr.idxK 1 long_4 i_6 fun (a27 : Addr) =>
  pr.load1 (.int .i64) a27 ω24 fun (ξ28 : Int) =>
  pr.drewAll ω24 fun ω29 =>
  bif decide ((w64 (ξ26 + 1)) > ξ28) then (
  pr.drewAll ω29 fun ω30 =>
  pr.idxK 1 long_4 k_7 fun (a31 : Addr) =>
  pr.idxK 1 many_5 k_7 fun (a32 : Addr) =>
  (pr.load1 (.int .i64) a31 ω30 fun (ξ33 : Int) =>
  pr.load1 (.int .i64) a32 ω30 fun (ξ34 : Int) =>
  pr.idxK 1 long_4 i_6 fun (a35 : Addr) =>
  pr.storeC a35 (vI (w64 (ξ33 + 1))) ω30 fun ω36 =>
  pr.idxK 1 many_5 i_6 fun (a37 : Addr) =>
  pr.storeC a37 (vI ξ34) ω36 fun ω38 =>
  k (emb7 p_0 long_4 many_5 i_6 (w64 (k_7 + 1))) ω38) ∧
  (pr.load1 (.int .i64) a32 ω30 fun (ξ39 : Int) =>
  pr.load1 (.int .i64) a31 ω30 fun (ξ40 : Int) =>
  pr.idxK 1 long_4 i_6 fun (a41 : Addr) =>
  pr.storeC a41 (vI (w64 (ξ40 + 1))) ω30 fun ω42 =>
  pr.idxK 1 many_5 i_6 fun (a43 : Addr) =>
  pr.storeC a43 (vI ξ39) ω42 fun ω44 =>
  k (emb7 p_0 long_4 many_5 i_6 (w64 (k_7 + 1))) ω44))
  else (
  pr.drewAll ω29 fun ω45 =>
  pr.idxK 1 many_5 i_6 fun (a46 : Addr) =>
  pr.idxK 1 many_5 k_7 fun (a47 : Addr) =>
  (pr.load1 (.int .i64) a46 ω45 fun (ξ48 : Int) =>
  pr.load1 (.int .i64) a47 ω45 fun (ξ49 : Int) =>
  pr.idxK 1 many_5 i_6 fun (a50 : Addr) =>
  pr.storeC a50 (vI (w64 (ξ48 + ξ49))) ω45 fun ω51 =>
  k (emb7 p_0 long_4 many_5 i_6 (w64 (k_7 + 1))) ω51) ∧
  (pr.load1 (.int .i64) a47 ω45 fun (ξ52 : Int) =>
  pr.load1 (.int .i64) a46 ω45 fun (ξ53 : Int) =>
  pr.idxK 1 many_5 i_6 fun (a54 : Addr) =>
  pr.storeC a54 (vI (w64 (ξ53 + ξ52))) ω45 fun ω55 =>
  k (emb7 p_0 long_4 many_5 i_6 (w64 (k_7 + 1))) ω55)))))
  else (
  Q (.exit 2) (x2 p_0 long_4 many_5 i_6) w)) := by kernel_rfl
theorem B7_s (p_0 : Sl) (long_4 : Sl) (many_5 : Sl) (i_6 : Int) (k_7 : Int) (w : World) (k : Env → World → Prop) (Q : Exit → Env → World → Prop) : B7 std p_0 long_4 many_5 i_6 k_7 w k Q = (
  bif decide (k_7 < (p_0.n : Int)) then (
  idxK 1 p_0 k_7 fun (a15 : Addr) =>
  load1 (.int .i64) a15 w fun (ξ16 : Int) =>
  idxK 1 p_0 i_6 fun (a17 : Addr) =>
  load1 (.int .i64) a17 w fun (ξ18 : Int) =>
  bif decide (ξ16 < ξ18) then (
  drewAll w fun ω19 =>
  k (emb7 p_0 long_4 many_5 i_6 (w64 (k_7 + 1))) ω19)
  else (
  idxK 1 long_4 k_7 fun (a20 : Addr) =>
  load1 (.int .i64) a20 w fun (ξ21 : Int) =>
  idxK 1 long_4 i_6 fun (a22 : Addr) =>
  load1 (.int .i64) a22 w fun (ξ23 : Int) =>
  drewAll w fun ω24 =>
  bif decide ((w64 (ξ21 + 1)) < ξ23) then (
  k (emb7 p_0 long_4 many_5 i_6 (w64 (k_7 + 1))) ω24)
  else (
  idxK 1 long_4 k_7 fun (a25 : Addr) =>
  load1 (.int .i64) a25 ω24 fun (ξ26 : Int) =>
  idxK 1 long_4 i_6 fun (a27 : Addr) =>
  load1 (.int .i64) a27 ω24 fun (ξ28 : Int) =>
  drewAll ω24 fun ω29 =>
  bif decide ((w64 (ξ26 + 1)) > ξ28) then (
  drewAll ω29 fun ω30 =>
  idxK 1 long_4 k_7 fun (a31 : Addr) =>
  idxK 1 many_5 k_7 fun (a32 : Addr) =>
  (load1 (.int .i64) a31 ω30 fun (ξ33 : Int) =>
  load1 (.int .i64) a32 ω30 fun (ξ34 : Int) =>
  idxK 1 long_4 i_6 fun (a35 : Addr) =>
  storeC a35 (vI (w64 (ξ33 + 1))) ω30 fun ω36 =>
  idxK 1 many_5 i_6 fun (a37 : Addr) =>
  storeC a37 (vI ξ34) ω36 fun ω38 =>
  k (emb7 p_0 long_4 many_5 i_6 (w64 (k_7 + 1))) ω38) ∧
  (load1 (.int .i64) a32 ω30 fun (ξ39 : Int) =>
  load1 (.int .i64) a31 ω30 fun (ξ40 : Int) =>
  idxK 1 long_4 i_6 fun (a41 : Addr) =>
  storeC a41 (vI (w64 (ξ40 + 1))) ω30 fun ω42 =>
  idxK 1 many_5 i_6 fun (a43 : Addr) =>
  storeC a43 (vI ξ39) ω42 fun ω44 =>
  k (emb7 p_0 long_4 many_5 i_6 (w64 (k_7 + 1))) ω44))
  else (
  drewAll ω29 fun ω45 =>
  idxK 1 many_5 i_6 fun (a46 : Addr) =>
  idxK 1 many_5 k_7 fun (a47 : Addr) =>
  (load1 (.int .i64) a46 ω45 fun (ξ48 : Int) =>
  load1 (.int .i64) a47 ω45 fun (ξ49 : Int) =>
  idxK 1 many_5 i_6 fun (a50 : Addr) =>
  storeC a50 (vI (w64 (ξ48 + ξ49))) ω45 fun ω51 =>
  k (emb7 p_0 long_4 many_5 i_6 (w64 (k_7 + 1))) ω51) ∧
  (load1 (.int .i64) a47 ω45 fun (ξ52 : Int) =>
  load1 (.int .i64) a46 ω45 fun (ξ53 : Int) =>
  idxK 1 many_5 i_6 fun (a54 : Addr) =>
  storeC a54 (vI (w64 (ξ53 + ξ52))) ω45 fun ω55 =>
  k (emb7 p_0 long_4 many_5 i_6 (w64 (k_7 + 1))) ω55)))))
  else (
  Q (.exit 2) (x2 p_0 long_4 many_5 i_6) w)) := B7_eq std p_0 long_4 many_5 i_6 k_7 w k Q
theorem L7_rule (p_0 : Sl) (long_4 : Sl) (many_5 : Sl) (i_6 : Int) (k_7 : Int) (w : World) (Q : Exit → Env → World → Prop) (I : Int → World → Prop) (μ : Int → World → Nat) (h0 : I k_7 w)
    (h : ∀ (k_7 : Int) (w' : World), I k_7 w' → B7 std p_0 long_4 many_5 i_6 k_7 w' (fun e2 w2 => ∃ k_7_n, e2 = emb7 p_0 long_4 many_5 i_6 k_7_n ∧ I k_7_n w2 ∧ μ k_7_n w2 < μ k_7 w') Q) :
    L7 std p_0 long_4 many_5 i_6 k_7 w Q := by
  unfold L7
  refine LoopE.intro (σ := Int) (step := S7 std Q) (fun s => emb7 p_0 long_4 many_5 i_6 s) (fun s w => I s w) (fun s w => μ s w) k_7 rfl h0 ?_
  intro s w' hI
  have h1 := h s w' hI
  unfold B7 at h1
  exact h1
theorem A7_2_eq (pr : Prims) (p_0 : Sl) (long_4 : Sl) (many_5 : Sl) (i_6 : Int) (w : World) (k : Env → World → Prop) (Q : Exit → Env → World → Prop) : (q14 pr k Q) (.exit 2) (x2 p_0 long_4 many_5 i_6) w = (
  k (emb3 p_0 long_4 many_5 (w64 (i_6 - 1))) w) := by kernel_rfl
theorem A7_2_s (p_0 : Sl) (long_4 : Sl) (many_5 : Sl) (i_6 : Int) (w : World) (k : Env → World → Prop) (Q : Exit → Env → World → Prop) : (q14 std k Q) (.exit 2) (x2 p_0 long_4 many_5 i_6) w = (
  k (emb3 p_0 long_4 many_5 (w64 (i_6 - 1))) w) := A7_2_eq std p_0 long_4 many_5 i_6 w k Q
theorem B3_eq (pr : Prims) (p_0 : Sl) (long_4 : Sl) (many_5 : Sl) (i_6 : Int) (w : World) (k : Env → World → Prop) (Q : Exit → Env → World → Prop) : B3 pr p_0 long_4 many_5 i_6 w k Q = (
  bif decide (i_6 ≥ 0) then (
  pr.idxK 1 long_4 i_6 fun (a10 : Addr) =>
  pr.storeC a10 (vI 1) w fun ω11 =>
  pr.idxK 1 many_5 i_6 fun (a12 : Addr) =>
  pr.storeC a12 (vI 1) ω11 fun ω13 =>
  L7 pr p_0 long_4 many_5 i_6 (w64 (i_6 + 1)) ω13 (q14 pr k Q))
  else (
  Q (.exit 0) (x0 long_4 many_5) w)) := by kernel_rfl
theorem B3_s (p_0 : Sl) (long_4 : Sl) (many_5 : Sl) (i_6 : Int) (w : World) (k : Env → World → Prop) (Q : Exit → Env → World → Prop) : B3 std p_0 long_4 many_5 i_6 w k Q = (
  bif decide (i_6 ≥ 0) then (
  idxK 1 long_4 i_6 fun (a10 : Addr) =>
  storeC a10 (vI 1) w fun ω11 =>
  idxK 1 many_5 i_6 fun (a12 : Addr) =>
  storeC a12 (vI 1) ω11 fun ω13 =>
  L7 std p_0 long_4 many_5 i_6 (w64 (i_6 + 1)) ω13 (q14 std k Q))
  else (
  Q (.exit 0) (x0 long_4 many_5) w)) := B3_eq std p_0 long_4 many_5 i_6 w k Q
theorem L3_rule (p_0 : Sl) (long_4 : Sl) (many_5 : Sl) (i_6 : Int) (w : World) (Q : Exit → Env → World → Prop) (I : Int → World → Prop) (μ : Int → World → Nat) (h0 : I i_6 w)
    (h : ∀ (i_6 : Int) (w' : World), I i_6 w' → B3 std p_0 long_4 many_5 i_6 w' (fun e2 w2 => ∃ i_6_n, e2 = emb3 p_0 long_4 many_5 i_6_n ∧ I i_6_n w2 ∧ μ i_6_n w2 < μ i_6 w') Q) :
    L3 std p_0 long_4 many_5 i_6 w Q := by
  unfold L3
  refine LoopE.intro (σ := Int) (step := S3 std Q) (fun s => emb3 p_0 long_4 many_5 s) (fun s w => I s w) (fun s w => μ s w) i_6 rfl h0 ?_
  intro s w' hI
  have h1 := h s w' hI
  unfold B3 at h1
  exact h1
theorem A3_0_eq (pr : Prims) (long_4 : Sl) (many_5 : Sl) (w : World) (R : Ending → World → Prop) : (q7 pr R) (.exit 0) (x0 long_4 many_5) w = (
  R (.returned (.tuple #[Sl.v long_4, Sl.v many_5])) w) := by kernel_rfl
theorem A3_0_s (long_4 : Sl) (many_5 : Sl) (w : World) (R : Ending → World → Prop) : (q7 std R) (.exit 0) (x0 long_4 many_5) w = (
  R (.returned (.tuple #[Sl.v long_4, Sl.v many_5])) w) := A3_0_eq std long_4 many_5 w R
theorem J2_gen (pr : Prims) (p_0 : Sl) (long_4 : Sl) (many_5 : Sl) (w : World) (R : Ending → World → Prop) : wpC pr PP cfg (DD pr) (sub (codeOf Try.f93) [1, 1]) (retQ Try.f93.results.toList R) (j2 p_0 long_4 many_5) w = (
  L3 pr p_0 long_4 many_5 (w64 ((p_0.n : Int) - 1)) w (q7 pr R)) := by kernel_rfl
theorem J2_s (p_0 : Sl) (long_4 : Sl) (many_5 : Sl) (w : World) (R : Ending → World → Prop) : J2 std p_0 long_4 many_5 w R = (
  L3 std p_0 long_4 many_5 (w64 ((p_0.n : Int) - 1)) w (q7 std R)) := J2_gen std p_0 long_4 many_5 w R
theorem E_eq (pr : Prims) (p_0 : Sl) (w : World) (R : Ending → World → Prop) : E pr p_0 w R = (
  pr.drewAll w fun ω1 =>
  (pr.sem1 .sl PP (Instr.makeSlice T_Sint (vI (p_0.n : Int)) (vI (p_0.n : Int))) ω1 fun (ρ2 : Sl) ω3 =>
  pr.sem1 .sl PP (Instr.makeSlice T_Sint (vI (p_0.n : Int)) (vI (p_0.n : Int))) ω3 fun (ρ4 : Sl) ω5 =>
  J2 pr p_0 ρ2 ρ4 ω5 R) ∧
  (pr.sem1 .sl PP (Instr.makeSlice T_Sint (vI (p_0.n : Int)) (vI (p_0.n : Int))) ω1 fun (ρ56 : Sl) ω57 =>
  pr.sem1 .sl PP (Instr.makeSlice T_Sint (vI (p_0.n : Int)) (vI (p_0.n : Int))) ω57 fun (ρ58 : Sl) ω59 =>
  J2 pr p_0 ρ58 ρ56 ω59 R)) := by kernel_rfl
theorem E_s (p_0 : Sl) (w : World) (R : Ending → World → Prop) : E std p_0 w R = (
  drewAll w fun ω1 =>
  (sem1 .sl PP (Instr.makeSlice T_Sint (vI (p_0.n : Int)) (vI (p_0.n : Int))) ω1 fun (ρ2 : Sl) ω3 =>
  sem1 .sl PP (Instr.makeSlice T_Sint (vI (p_0.n : Int)) (vI (p_0.n : Int))) ω3 fun (ρ4 : Sl) ω5 =>
  J2 std p_0 ρ2 ρ4 ω5 R) ∧
  (sem1 .sl PP (Instr.makeSlice T_Sint (vI (p_0.n : Int)) (vI (p_0.n : Int))) ω1 fun (ρ56 : Sl) ω57 =>
  sem1 .sl PP (Instr.makeSlice T_Sint (vI (p_0.n : Int)) (vI (p_0.n : Int))) ω57 fun (ρ58 : Sl) ω59 =>
  J2 std p_0 ρ58 ρ56 ω59 R)) := E_eq std p_0 w R
theorem drawsOk : drawsOk PP cfg okD (codeOf Try.f93) = true := by kernel_rfl
theorem calls (p_0 : Sl) {w : World} {R : Ending → World → Prop} (h : E std p_0 w R) : Calls PP F.impl_lengths #[Sl.v p_0] w R :=
  calls_of noCount mixed drawOk Try.func93 rfl (c := cfg) (args := [Sl.v p_0]) rfl (Nat.le_of_ble_eq_true (by kernel_rfl)) drawsOk h
end impl_lengths

namespace impl_longestUp
@[reducible] def cfg : Cfg := ⟨24, [(4, [5, 13, 14, 15])], [(1, [5, 13, 14, 15]), (0, [5])], [], [2], [], [101, 107, 112, 15, 21, 124, 76, 137, 28, 115, 91, 81, 130], [138, 140, 82, 6, 86, 85, 132]⟩
def q3 (pr : Prims) (R : Ending → World → Prop) : Exit → Env → World → Prop := fun ex e w => normQ ex (fun e w => contE pr cfg (sub (codeOf Try.f94) [1, 1, 1, 1]) (fun e w => wpC pr PP cfg (DD pr) (sub (codeOf Try.f94) [1, 1, 1, 1]) (retQ Try.f94.results.toList R) e w) e w) (retQ Try.f94.results.toList R) e w
def q4 (pr : Prims) (R : Ending → World → Prop) : Exit → Env → World → Prop := fun ex e w => blockQ ex 0 (q3 pr R) e w
def emb4 (most_5 : Int) (t13 : Sl) (t14 : Int) (t15 : Int) : Env := [(5, vI most_5), (13, Sl.v t13), (14, vI t14), (15, vI t15)]
def x0 (most_5 : Int) : Env := [(5, vI most_5)]
def S4 (pr : Prims) (Q : Exit → Env → World → Prop) : (Env → World → Prop) → Env → World → Prop := fun k e w => wpC pr PP cfg (DD pr) (sub (codeOf Try.f94) [1, 1, 1, 0, 1, 0, 0]) (fun ex e w => normQ ex (fun e' w' => k (Env.restr e' (lookN cfg.loops (keyOf (sub (codeOf Try.f94) [1, 1, 1, 0, 1, 0, 0])))) w') Q e w) e w
def B4 (pr : Prims) (most_5 : Int) (t13 : Sl) (t14 : Int) (t15 : Int) (w : World) (k : Env → World → Prop) (Q : Exit → Env → World → Prop) : Prop :=
  S4 pr Q k (emb4 most_5 t13 t14 t15) w
def L4 (pr : Prims) (most_5 : Int) (t13 : Sl) (t14 : Int) (t15 : Int) (w : World) (Q : Exit → Env → World → Prop) : Prop :=
  pr.loop (S4 pr Q) (emb4 most_5 t13 t14 t15) w
def E (pr : Prims) (p_0 : Sl) (w : World) (R : Ending → World → Prop) : Prop :=
  wpC pr PP cfg (DD pr) (codeOf Try.f94) (retQ Try.f94.results.toList R) (argE 0 [Sl.v p_0]) w
theorem B4_eq (pr : Prims) (most_5 : Int) (t13 : Sl) (t14 : Int) (t15 : Int) (w : World) (k : Env → World → Prop) (Q : Exit → Env → World → Prop) : B4 pr most_5 t13 t14 t15 w k Q = (
  bif decide (t15 < t14) then (
  pr.idxK 1 t13 t15 fun (a5 : Addr) =>
  pr.load1 (.int .i64) a5 w fun (ξ6 : Int) =>
  k (emb4 (if ξ6 > most_5 then ξ6 else most_5) t13 t14 (w64 (t15 + 1))) w)
  else (
  Q (.exit 0) (x0 most_5) w)) := by kernel_rfl
theorem B4_s (most_5 : Int) (t13 : Sl) (t14 : Int) (t15 : Int) (w : World) (k : Env → World → Prop) (Q : Exit → Env → World → Prop) : B4 std most_5 t13 t14 t15 w k Q = (
  bif decide (t15 < t14) then (
  idxK 1 t13 t15 fun (a5 : Addr) =>
  load1 (.int .i64) a5 w fun (ξ6 : Int) =>
  k (emb4 (if ξ6 > most_5 then ξ6 else most_5) t13 t14 (w64 (t15 + 1))) w)
  else (
  Q (.exit 0) (x0 most_5) w)) := B4_eq std most_5 t13 t14 t15 w k Q
theorem L4_rule (most_5 : Int) (t13 : Sl) (t14 : Int) (t15 : Int) (w : World) (Q : Exit → Env → World → Prop) (I : Int → Int → World → Prop) (μ : Int → Int → World → Nat) (h0 : I most_5 t15 w)
    (h : ∀ (most_5 : Int) (t15 : Int) (w' : World), I most_5 t15 w' → B4 std most_5 t13 t14 t15 w' (fun e2 w2 => ∃ most_5_n t15_n, e2 = emb4 most_5_n t13 t14 t15_n ∧ I most_5_n t15_n w2 ∧ μ most_5_n t15_n w2 < μ most_5 t15 w') Q) :
    L4 std most_5 t13 t14 t15 w Q := by
  unfold L4
  refine LoopE.intro (σ := Int × Int) (step := S4 std Q) (fun s => emb4 s.1 t13 t14 s.2) (fun s w => I s.1 s.2 w) (fun s w => μ s.1 s.2 w) (most_5, t15) rfl h0 ?_
  intro s w' hI
  have h1 := h s.1 s.2 w' hI
  unfold B4 at h1
  simp only [Prod.exists]
  exact h1
theorem A4_0_eq (pr : Prims) (most_5 : Int) (w : World) (R : Ending → World → Prop) : (q4 pr R) (.exit 0) (x0 most_5) w = (
  R (.returned (vI most_5)) w) := by kernel_rfl
theorem A4_0_s (most_5 : Int) (w : World) (R : Ending → World → Prop) : (q4 std R) (.exit 0) (x0 most_5) w = (
  R (.returned (vI most_5)) w) := A4_0_eq std most_5 w R
theorem E_eq (pr : Prims) (p_0 : Sl) (w : World) (R : Ending → World → Prop) : E pr p_0 w R = (
  pr.call2 .sl .sl PP F.impl_lengths #[Sl.v p_0] w fun (ρ0 : Sl) (ρ1 : Sl) ω2 =>
  L4 pr 0 ρ0 (ρ0.n : Int) 0 ω2 (q4 pr R)) := by kernel_rfl
theorem E_s (p_0 : Sl) (w : World) (R : Ending → World → Prop) : E std p_0 w R = (
  call2 .sl .sl PP F.impl_lengths #[Sl.v p_0] w fun (ρ0 : Sl) (ρ1 : Sl) ω2 =>
  L4 std 0 ρ0 (ρ0.n : Int) 0 ω2 (q4 std R)) := E_eq std p_0 w R
theorem drawsOk : drawsOk PP cfg okD (codeOf Try.f94) = true := by kernel_rfl
theorem calls (p_0 : Sl) {w : World} {R : Ending → World → Prop} (h : E std p_0 w R) : Calls PP F.impl_longestUp #[Sl.v p_0] w R :=
  calls_of noCount mixed drawOk Try.func94 rfl (c := cfg) (args := [Sl.v p_0]) rfl (Nat.le_of_ble_eq_true (by kernel_rfl)) drawsOk h
end impl_longestUp

namespace impl_LongestUp
@[reducible] def cfg : Cfg := ⟨8, [], [], [], [2], [], [101, 107, 112, 15, 21, 124, 76, 137, 28, 115, 91, 81, 130], [138, 140, 82, 6, 86, 85, 132]⟩
def E (pr : Prims) (p_0 : Sl) (w : World) (R : Ending → World → Prop) : Prop :=
  wpC pr PP cfg (DD pr) (codeOf Try.f41) (retQ Try.f41.results.toList R) (argE 0 [Sl.v p_0]) w
theorem E_eq (pr : Prims) (p_0 : Sl) (w : World) (R : Ending → World → Prop) : E pr p_0 w R = (
  pr.call1 .bool PP F.impl_IsPerm #[Sl.v p_0] w fun (ρ0 : Bool) ω1 =>
  bif !ρ0 then (
  R (.returned (vI (-1))) ω1)
  else (
  pr.call1 (.int .i64) PP F.impl_longestUp #[Sl.v p_0] ω1 fun (ρ2 : Int) ω3 =>
  R (.returned (vI ρ2)) ω3)) := by kernel_rfl
theorem E_s (p_0 : Sl) (w : World) (R : Ending → World → Prop) : E std p_0 w R = (
  call1 .bool PP F.impl_IsPerm #[Sl.v p_0] w fun (ρ0 : Bool) ω1 =>
  bif !ρ0 then (
  R (.returned (vI (-1))) ω1)
  else (
  call1 (.int .i64) PP F.impl_longestUp #[Sl.v p_0] ω1 fun (ρ2 : Int) ω3 =>
  R (.returned (vI ρ2)) ω3)) := E_eq std p_0 w R
theorem drawsOk : drawsOk PP cfg okD (codeOf Try.f41) = true := by kernel_rfl
theorem calls (p_0 : Sl) {w : World} {R : Ending → World → Prop} (h : E std p_0 w R) : Calls PP F.impl_LongestUp #[Sl.v p_0] w R :=
  calls_of noCount mixed drawOk Try.func41 rfl (c := cfg) (args := [Sl.v p_0]) rfl (Nat.le_of_ble_eq_true (by kernel_rfl)) drawsOk h
end impl_LongestUp

namespace impl_LongestDown
@[reducible] def cfg : Cfg := ⟨9, [], [], [], [2], [], [101, 107, 112, 15, 21, 124, 76, 137, 28, 115, 91, 81, 130], [138, 140, 82, 6, 86, 85, 132]⟩
def E (pr : Prims) (p_0 : Sl) (w : World) (R : Ending → World → Prop) : Prop :=
  wpC pr PP cfg (DD pr) (codeOf Try.f43) (retQ Try.f43.results.toList R) (argE 0 [Sl.v p_0]) w
theorem E_eq (pr : Prims) (p_0 : Sl) (w : World) (R : Ending → World → Prop) : E pr p_0 w R = (
  pr.call1 .bool PP F.impl_IsPerm #[Sl.v p_0] w fun (ρ0 : Bool) ω1 =>
  bif !ρ0 then (
  R (.returned (vI (-1))) ω1)
  else (
  pr.call1 .sl PP F.impl_reverse #[Sl.v p_0] ω1 fun (ρ2 : Sl) ω3 =>
  pr.call1 (.int .i64) PP F.impl_longestUp #[Sl.v ρ2] ω3 fun (ρ4 : Int) ω5 =>
  R (.returned (vI ρ4)) ω5)) := by kernel_rfl
theorem E_s (p_0 : Sl) (w : World) (R : Ending → World → Prop) : E std p_0 w R = (
  call1 .bool PP F.impl_IsPerm #[Sl.v p_0] w fun (ρ0 : Bool) ω1 =>
  bif !ρ0 then (
  R (.returned (vI (-1))) ω1)
  else (
  call1 .sl PP F.impl_reverse #[Sl.v p_0] ω1 fun (ρ2 : Sl) ω3 =>
  call1 (.int .i64) PP F.impl_longestUp #[Sl.v ρ2] ω3 fun (ρ4 : Int) ω5 =>
  R (.returned (vI ρ4)) ω5)) := E_eq std p_0 w R
theorem drawsOk : drawsOk PP cfg okD (codeOf Try.f43) = true := by kernel_rfl
theorem calls (p_0 : Sl) {w : World} {R : Ending → World → Prop} (h : E std p_0 w R) : Calls PP F.impl_LongestDown #[Sl.v p_0] w R :=
  calls_of noCount mixed drawOk Try.func43 rfl (c := cfg) (args := [Sl.v p_0]) rfl (Nat.le_of_ble_eq_true (by kernel_rfl)) drawsOk h
end impl_LongestDown

namespace impl_reverse
@[reducible] def cfg : Cfg := ⟨9, [], [], [], [2], [], [101, 107, 112, 15, 21, 124, 76, 137, 28, 115, 91, 81, 130], [138, 140, 82, 6, 86, 85, 132]⟩
def E (pr : Prims) (p_0 : Sl) (w : World) (R : Ending → World → Prop) : Prop :=
  wpC pr PP cfg (DD pr) (codeOf Try.f97) (retQ Try.f97.results.toList R) (argE 0 [Sl.v p_0]) w
theorem E_eq (pr : Prims) (p_0 : Sl) (w : World) (R : Ending → World → Prop) : E pr p_0 w R = (
  pr.call1 .sl PP F.slices_Clone___int_int_ #[Sl.v p_0] w fun (ρ0 : Sl) ω1 =>
  pr.call0  PP F.slices_Reverse___int_int_ #[Sl.v ρ0] ω1 fun ω2 =>
  R (.returned (Sl.v ρ0)) ω2) := by kernel_rfl
theorem E_s (p_0 : Sl) (w : World) (R : Ending → World → Prop) : E std p_0 w R = (
  call1 .sl PP F.slices_Clone___int_int_ #[Sl.v p_0] w fun (ρ0 : Sl) ω1 =>
  call0  PP F.slices_Reverse___int_int_ #[Sl.v ρ0] ω1 fun ω2 =>
  R (.returned (Sl.v ρ0)) ω2) := E_eq std p_0 w R
theorem drawsOk : drawsOk PP cfg okD (codeOf Try.f97) = true := by kernel_rfl
theorem calls (p_0 : Sl) {w : World} {R : Ending → World → Prop} (h : E std p_0 w R) : Calls PP F.impl_reverse #[Sl.v p_0] w R :=
  calls_of noCount mixed drawOk Try.func97 rfl (c := cfg) (args := [Sl.v p_0]) rfl (Nat.le_of_ble_eq_true (by kernel_rfl)) drawsOk h
end impl_reverse

namespace impl_HasLongRun
@[reducible] def cfg : Cfg := ⟨22, [], [], [], [6], [], [101, 107, 112, 15, 21, 124, 76, 137, 28, 115, 91, 81, 130], [138, 140, 82, 6, 86, 85, 132]⟩
def E (pr : Prims) (p_0 : Sl) (k_1 : Int) (m_2 : Int) (w : World) (R : Ending → World → Prop) : Prop :=
  wpC pr PP cfg (DD pr) (codeOf Try.f39) (retQ Try.f39.results.toList R) (argE 0 [Sl.v p_0, vI k_1, vI m_2]) w
theorem E_eq (pr : Prims) (p_0 : Sl) (k_1 : Int) (m_2 : Int) (w : World) (R : Ending → World → Prop) : E pr p_0 k_1 m_2 w R = (
  pr.call1 .bool PP F.impl_IsPerm #[Sl.v p_0] w fun (ρ0 : Bool) ω1 =>
  bif ρ0 then (
  pr.call1 (.int .i64) PP F.impl_longestUp #[Sl.v p_0] ω1 fun (ρ2 : Int) ω3 =>
  bif decide (ρ2 > k_1) then (
  R (.returned (.bool true)) ω3)
  else (
  pr.call1 .sl PP F.impl_reverse #[Sl.v p_0] ω3 fun (ρ4 : Sl) ω5 =>
  pr.call1 (.int .i64) PP F.impl_longestUp #[Sl.v ρ4] ω5 fun (ρ6 : Int) ω7 =>
  R (.returned (.bool (decide (ρ6 > m_2)))) ω7))
  else (
  R (.returned (.bool false)) ω1)) := by kernel_rfl
theorem E_s (p_0 : Sl) (k_1 : Int) (m_2 : Int) (w : World) (R : Ending → World → Prop) : E std p_0 k_1 m_2 w R = (
  call1 .bool PP F.impl_IsPerm #[Sl.v p_0] w fun (ρ0 : Bool) ω1 =>
  bif ρ0 then (
  call1 (.int .i64) PP F.impl_longestUp #[Sl.v p_0] ω1 fun (ρ2 : Int) ω3 =>
  bif decide (ρ2 > k_1) then (
  R (.returned (.bool true)) ω3)
  else (
  call1 .sl PP F.impl_reverse #[Sl.v p_0] ω3 fun (ρ4 : Sl) ω5 =>
  call1 (.int .i64) PP F.impl_longestUp #[Sl.v ρ4] ω5 fun (ρ6 : Int) ω7 =>
  R (.returned (.bool (decide (ρ6 > m_2)))) ω7))
  else (
  R (.returned (.bool false)) ω1)) := E_eq std p_0 k_1 m_2 w R
theorem drawsOk : drawsOk PP cfg okD (codeOf Try.f39) = true := by kernel_rfl
theorem calls (p_0 : Sl) (k_1 : Int) (m_2 : Int) {w : World} {R : Ending → World → Prop} (h : E std p_0 k_1 m_2 w R) : Calls PP F.impl_HasLongRun #[Sl.v p_0, vI k_1, vI m_2] w R :=
  calls_of noCount mixed drawOk Try.func39 rfl (c := cfg) (args := [Sl.v p_0, vI k_1, vI m_2]) rfl (Nat.le_of_ble_eq_true (by kernel_rfl)) drawsOk h
end impl_HasLongRun

namespace spec_LongestUp
@[reducible] def cfg : Cfg := ⟨8, [], [], [], [2], [], [101, 107, 112, 15, 21, 124, 76, 137, 28, 115, 91, 81, 130], [138, 140, 82, 6, 86, 85, 132]⟩
def E (pr : Prims) (p_0 : Sl) (w : World) (R : Ending → World → Prop) : Prop :=
  wpC pr PP cfg (DD pr) (codeOf Try.f42) (retQ Try.f42.results.toList R) (argE 0 [Sl.v p_0]) w
theorem E_eq (pr : Prims) (p_0 : Sl) (w : World) (R : Ending → World → Prop) : E pr p_0 w R = (
  pr.call1 .bool PP F.spec_IsPerm #[Sl.v p_0] w fun (ρ0 : Bool) ω1 =>
  bif !ρ0 then (
  R (.returned (vI (-1))) ω1)
  else (
  pr.call1 (.int .i64) PP F.spec_l20Up #[Sl.v p_0] ω1 fun (ρ2 : Int) ω3 =>
  R (.returned (vI ρ2)) ω3)) := by kernel_rfl
theorem E_s (p_0 : Sl) (w : World) (R : Ending → World → Prop) : E std p_0 w R = (
  call1 .bool PP F.spec_IsPerm #[Sl.v p_0] w fun (ρ0 : Bool) ω1 =>
  bif !ρ0 then (
  R (.returned (vI (-1))) ω1)
  else (
  call1 (.int .i64) PP F.spec_l20Up #[Sl.v p_0] ω1 fun (ρ2 : Int) ω3 =>
  R (.returned (vI ρ2)) ω3)) := E_eq std p_0 w R
theorem drawsOk : drawsOk PP cfg okD (codeOf Try.f42) = true := by kernel_rfl
theorem calls (p_0 : Sl) {w : World} {R : Ending → World → Prop} (h : E std p_0 w R) : Calls PP F.spec_LongestUp #[Sl.v p_0] w R :=
  calls_of noCount mixed drawOk Try.func42 rfl (c := cfg) (args := [Sl.v p_0]) rfl (Nat.le_of_ble_eq_true (by kernel_rfl)) drawsOk h
end spec_LongestUp

namespace spec_LongestDown
@[reducible] def cfg : Cfg := ⟨9, [], [], [], [2], [], [101, 107, 112, 15, 21, 124, 76, 137, 28, 115, 91, 81, 130], [138, 140, 82, 6, 86, 85, 132]⟩
def E (pr : Prims) (p_0 : Sl) (w : World) (R : Ending → World → Prop) : Prop :=
  wpC pr PP cfg (DD pr) (codeOf Try.f44) (retQ Try.f44.results.toList R) (argE 0 [Sl.v p_0]) w
theorem E_eq (pr : Prims) (p_0 : Sl) (w : World) (R : Ending → World → Prop) : E pr p_0 w R = (
  pr.call1 .bool PP F.spec_IsPerm #[Sl.v p_0] w fun (ρ0 : Bool) ω1 =>
  bif !ρ0 then (
  R (.returned (vI (-1))) ω1)
  else (
  pr.call1 .sl PP F.spec_l3Reverse #[Sl.v p_0] ω1 fun (ρ2 : Sl) ω3 =>
  pr.call1 (.int .i64) PP F.spec_l20Up #[Sl.v ρ2] ω3 fun (ρ4 : Int) ω5 =>
  R (.returned (vI ρ4)) ω5)) := by kernel_rfl
theorem E_s (p_0 : Sl) (w : World) (R : Ending → World → Prop) : E std p_0 w R = (
  call1 .bool PP F.spec_IsPerm #[Sl.v p_0] w fun (ρ0 : Bool) ω1 =>
  bif !ρ0 then (
  R (.returned (vI (-1))) ω1)
  else (
  call1 .sl PP F.spec_l3Reverse #[Sl.v p_0] ω1 fun (ρ2 : Sl) ω3 =>
  call1 (.int .i64) PP F.spec_l20Up #[Sl.v ρ2] ω3 fun (ρ4 : Int) ω5 =>
  R (.returned (vI ρ4)) ω5)) := E_eq std p_0 w R
theorem drawsOk : drawsOk PP cfg okD (codeOf Try.f44) = true := by kernel_rfl
theorem calls (p_0 : Sl) {w : World} {R : Ending → World → Prop} (h : E std p_0 w R) : Calls PP F.spec_LongestDown #[Sl.v p_0] w R :=
  calls_of noCount mixed drawOk Try.func44 rfl (c := cfg) (args := [Sl.v p_0]) rfl (Nat.le_of_ble_eq_true (by kernel_rfl)) drawsOk h
end spec_LongestDown

namespace spec_HasLongRun
@[reducible] def cfg : Cfg := ⟨22, [], [], [], [6], [], [101, 107, 112, 15, 21, 124, 76, 137, 28, 115, 91, 81, 130], [138, 140, 82, 6, 86, 85, 132]⟩
def E (pr : Prims) (p_0 : Sl) (k_1 : Int) (m_2 : Int) (w : World) (R : Ending → World → Prop) : Prop :=
  wpC pr PP cfg (DD pr) (codeOf Try.f40) (retQ Try.f40.results.toList R) (argE 0 [Sl.v p_0, vI k_1, vI m_2]) w
theorem E_eq (pr : Prims) (p_0 : Sl) (k_1 : Int) (m_2 : Int) (w : World) (R : Ending → World → Prop) : E pr p_0 k_1 m_2 w R = (
  pr.call1 .bool PP F.spec_IsPerm #[Sl.v p_0] w fun (ρ0 : Bool) ω1 =>
  bif ρ0 then (
  pr.call1 (.int .i64) PP F.spec_l20Up #[Sl.v p_0] ω1 fun (ρ2 : Int) ω3 =>
  bif decide (ρ2 > k_1) then (
  R (.returned (.bool true)) ω3)
  else (
  pr.call1 .sl PP F.spec_l3Reverse #[Sl.v p_0] ω3 fun (ρ4 : Sl) ω5 =>
  pr.call1 (.int .i64) PP F.spec_l20Up #[Sl.v ρ4] ω5 fun (ρ6 : Int) ω7 =>
  R (.returned (.bool (decide (ρ6 > m_2)))) ω7))
  else (
  R (.returned (.bool false)) ω1)) := by kernel_rfl
theorem E_s (p_0 : Sl) (k_1 : Int) (m_2 : Int) (w : World) (R : Ending → World → Prop) : E std p_0 k_1 m_2 w R = (
  call1 .bool PP F.spec_IsPerm #[Sl.v p_0] w fun (ρ0 : Bool) ω1 =>
  bif ρ0 then (
  call1 (.int .i64) PP F.spec_l20Up #[Sl.v p_0] ω1 fun (ρ2 : Int) ω3 =>
  bif decide (ρ2 > k_1) then (
  R (.returned (.bool true)) ω3)
  else (
  call1 .sl PP F.spec_l3Reverse #[Sl.v p_0] ω3 fun (ρ4 : Sl) ω5 =>
  call1 (.int .i64) PP F.spec_l20Up #[Sl.v ρ4] ω5 fun (ρ6 : Int) ω7 =>
  R (.returned (.bool (decide (ρ6 > m_2)))) ω7))
  else (
  R (.returned (.bool false)) ω1)) := E_eq std p_0 k_1 m_2 w R
theorem drawsOk : drawsOk PP cfg okD (codeOf Try.f40) = true := by kernel_rfl
theorem calls (p_0 : Sl) (k_1 : Int) (m_2 : Int) {w : World} {R : Ending → World → Prop} (h : E std p_0 k_1 m_2 w R) : Calls PP F.spec_HasLongRun #[Sl.v p_0, vI k_1, vI m_2] w R :=
  calls_of noCount mixed drawOk Try.func40 rfl (c := cfg) (args := [Sl.v p_0, vI k_1, vI m_2]) rfl (Nat.le_of_ble_eq_true (by kernel_rfl)) drawsOk h
end spec_HasLongRun

namespace impl_stackPass
@[reducible] def cfg : Cfg := ⟨52, [(5, [3, 4, 6, 9, 10, 11]), (3, [3, 4, 9, 10, 11])], [(3, [3, 4, 6, 9, 10, 11]), (2, [3, 4, 6, 9, 10, 11]), (1, [3, 4, 9, 10, 11]), (0, [3, 4])], [], [2], [], [101, 107, 112, 15, 21, 124, 76, 137, 28, 115, 91, 81, 130], [138, 140, 82, 6, 86, 85, 132]⟩
def q4 (pr : Prims) (R : Ending → World → Prop) : Exit → Env → World → Prop := fun ex e w => normQ ex (fun e w => contE pr cfg (sub (codeOf Try.f68) [1, 1, 1]) (fun e w => wpC pr PP cfg (DD pr) (sub (codeOf Try.f68) [1, 1, 1]) (retQ Try.f68.results.toList R) e w) e w) (retQ Try.f68.results.toList R) e w
def q5 (pr : Prims) (R : Ending → World → Prop) : Exit → Env → World → Prop := fun ex e w => blockQ ex 0 (q4 pr R) e w
def q6 (pr : Prims) (k : Env → World → Prop) (Q : Exit → Env → World → Prop) : Exit → Env → World → Prop := fun ex e w => normQ ex (fun e w => contE pr cfg (sub (codeOf Try.f68) [1, 1, 0, 1, 0, 0, 1, 1, 1]) (fun e w => wpC pr PP cfg (DD pr) (sub (codeOf Try.f68) [1, 1, 0, 1, 0, 0, 1, 1, 1]) (fun ex e w => normQ ex (fun e' w' => k (Env.restr e' (lookN cfg.loops (keyOf (sub (codeOf Try.f68) [1, 1, 0, 1, 0, 0])))) w') Q e w) e w) e w) (fun ex e w => normQ ex (fun e' w' => k (Env.restr e' (lookN cfg.loops (keyOf (sub (codeOf Try.f68) [1, 1, 0, 1, 0, 0])))) w') Q e w) e w
def q7 (pr : Prims) (k : Env → World → Prop) (Q : Exit → Env → World → Prop) : Exit → Env → World → Prop := fun ex e w => blockQ ex 1 (q6 pr k Q) e w
def q10 (pr : Prims) (k : Env → World → Prop) (Q : Exit → Env → World → Prop) : Exit → Env → World → Prop := fun ex e w => normQ ex (fun e w => contE pr cfg (sub (codeOf Try.f68) [1, 1, 0, 1, 0, 0, 1, 1, 0, 0, 1, 1]) (fun e w => wpC pr PP cfg (DD pr) (sub (codeOf Try.f68) [1, 1, 0, 1, 0, 0, 1, 1, 0, 0, 1, 1]) (q7 pr k Q) e w) e w) (q7 pr k Q) e w
def q11 (pr : Prims) (k : Env → World → Prop) (Q : Exit → Env → World → Prop) : Exit → Env → World → Prop := fun ex e w => blockQ ex 2 (q10 pr k Q) e w
def emb3 (out_3 : Sl) (stack_4 : Sl) (t9 : Sl) (t10 : Int) (t11 : Int) : Env := [(3, Sl.v out_3), (4, Sl.v stack_4), (9, Sl.v t9), (10, vI t10), (11, vI t11)]
def emb5 (out_3 : Sl) (stack_4 : Sl) (v_6 : Int) (t9 : Sl) (t10 : Int) (t11 : Int) : Env := [(3, Sl.v out_3), (4, Sl.v stack_4), (6, vI v_6), (9, Sl.v t9), (10, vI t10), (11, vI t11)]
def x2 (out_3 : Sl) (stack_4 : Sl) (v_6 : Int) (t9 : Sl) (t10 : Int) (t11 : Int) : Env := [(3, Sl.v out_3), (4, Sl.v stack_4), (6, vI v_6), (9, Sl.v t9), (10, vI t10), (11, vI t11)]
def x0 (out_3 : Sl) (stack_4 : Sl) : Env := [(3, Sl.v out_3), (4, Sl.v stack_4)]
def S5 (pr : Prims) (Q : Exit → Env → World → Prop) : (Env → World → Prop) → Env → World → Prop := fun k e w => wpC pr PP cfg (DD pr) (sub (codeOf Try.f68) [1, 1, 0, 1, 0, 0, 1, 1, 0, 0, 1, 0, 0, 0]) (fun ex e w => normQ ex (fun e' w' => k (Env.restr e' (lookN cfg.loops (keyOf (sub (codeOf Try.f68) [1, 1, 0, 1, 0, 0, 1, 1, 0, 0, 1, 0, 0, 0])))) w') Q e w) e w
def S3 (pr : Prims) (Q : Exit → Env → World → Prop) : (Env → World → Prop) → Env → World → Prop := fun k e w => wpC pr PP cfg (DD pr) (sub (codeOf Try.f68) [1, 1, 0, 1, 0, 0]) (fun ex e w => normQ ex (fun e' w' => k (Env.restr e' (lookN cfg.loops (keyOf (sub (codeOf Try.f68) [1, 1, 0, 1, 0, 0])))) w') Q e w) e w
def B5 (pr : Prims) (out_3 : Sl) (stack_4 : Sl) (v_6 : Int) (t9 : Sl) (t10 : Int) (t11 : Int) (w : World) (k : Env → World → Prop) (Q : Exit → Env → World → Prop) : Prop :=
  S5 pr Q k (emb5 out_3 stack_4 v_6 t9 t10 t11) w
def L5 (pr : Prims) (out_3 : Sl) (stack_4 : Sl) (v_6 : Int) (t9 : Sl) (t10 : Int) (t11 : Int) (w : World) (Q : Exit → Env → World → Prop) : Prop :=
  pr.loop (S5 pr Q) (emb5 out_3 stack_4 v_6 t9 t10 t11) w
def B3 (pr : Prims) (out_3 : Sl) (stack_4 : Sl) (t9 : Sl) (t10 : Int) (t11 : Int) (w : World) (k : Env → World → Prop) (Q : Exit → Env → World → Prop) : Prop :=
  S3 pr Q k (emb3 out_3 stack_4 t9 t10 t11) w
def L3 (pr : Prims) (out_3 : Sl) (stack_4 : Sl) (t9 : Sl) (t10 : Int) (t11 : Int) (w : World) (Q : Exit → Env → World → Prop) : Prop :=
  pr.loop (S3 pr Q) (emb3 out_3 stack_4 t9 t10 t11) w
def E (pr : Prims) (p_0 : Sl) (w : World) (R : Ending → World → Prop) : Prop :=
  wpC pr PP cfg (DD pr) (codeOf Try.f68) (retQ Try.f68.results.toList R) (argE 0 [Sl.v p_0]) w
theorem B5_eq (pr : Prims) (out_3 : Sl) (stack_4 : Sl) (v_6 : Int) (t9 : Sl) (t10 : Int) (t11 : Int) (w : World) (k : Env → World → Prop) (Q : Exit → Env → World → Prop) : B5 pr out_3 stack_4 v_6 t9 t10 t11 w k Q = (
  bif decide ((stack_4.n : Int) > 0) then (
  pr.idxK 1 stack_4 (w64 ((stack_4.n : Int) - 1)) fun (a12 : Addr) =>
  pr.load1 (.int .i64) a12 w fun (ξ13 : Int) =>
  bif decide (ξ13 < v_6) then (
  pr.drewAll w fun ω14 =>
  pr.idxK 1 stack_4 (w64 ((stack_4.n : Int) - 1)) fun (a15 : Addr) =>
  pr.cutK 1 stack_4 none (some (w64 ((stack_4.n : Int) - 1))) fun (s16 : Sl) =>
  pr.load1 (.int .i64) a15 ω14 fun (ξ17 : Int) =>
  pr.sem1 .sl PP (Instr.buildSlice T_Sint 1 #[(0, vI ξ17)]) ω14 fun (ρ18 : Sl) ω19 =>
  pr.sem1 .sl PP (Builtin.append_ #[T_Sint, T_Sint] T_Sint #[Sl.v out_3, Sl.v ρ18]) ω19 fun (ρ20 : Sl) ω21 =>
  k (emb5 ρ20 s16 v_6 t9 t10 t11) ω21)
  else (
  Q (.exit 2) (x2 out_3 stack_4 v_6 t9 t10 t11) w))
  else (
  Q (.exit 2) (x2 out_3 stack_4 v_6 t9 t10 t11) w)) := by kernel_rfl
theorem B5_s (out_3 : Sl) (stack_4 : Sl) (v_6 : Int) (t9 : Sl) (t10 : Int) (t11 : Int) (w : World) (k : Env → World → Prop) (Q : Exit → Env → World → Prop) : B5 std out_3 stack_4 v_6 t9 t10 t11 w k Q = (
  bif decide ((stack_4.n : Int) > 0) then (
  idxK 1 stack_4 (w64 ((stack_4.n : Int) - 1)) fun (a12 : Addr) =>
  load1 (.int .i64) a12 w fun (ξ13 : Int) =>
  bif decide (ξ13 < v_6) then (
  drewAll w fun ω14 =>
  idxK 1 stack_4 (w64 ((stack_4.n : Int) - 1)) fun (a15 : Addr) =>
  cutK 1 stack_4 none (some (w64 ((stack_4.n : Int) - 1))) fun (s16 : Sl) =>
  load1 (.int .i64) a15 ω14 fun (ξ17 : Int) =>
  sem1 .sl PP (Instr.buildSlice T_Sint 1 #[(0, vI ξ17)]) ω14 fun (ρ18 : Sl) ω19 =>
  sem1 .sl PP (Builtin.append_ #[T_Sint, T_Sint] T_Sint #[Sl.v out_3, Sl.v ρ18]) ω19 fun (ρ20 : Sl) ω21 =>
  k (emb5 ρ20 s16 v_6 t9 t10 t11) ω21)
  else (
  Q (.exit 2) (x2 out_3 stack_4 v_6 t9 t10 t11) w))
  else (
  Q (.exit 2) (x2 out_3 stack_4 v_6 t9 t10 t11) w)) := B5_eq std out_3 stack_4 v_6 t9 t10 t11 w k Q
theorem L5_rule (out_3 : Sl) (stack_4 : Sl) (v_6 : Int) (t9 : Sl) (t10 : Int) (t11 : Int) (w : World) (Q : Exit → Env → World → Prop) (I : Sl → Sl → World → Prop) (μ : Sl → Sl → World → Nat) (h0 : I out_3 stack_4 w)
    (h : ∀ (out_3 : Sl) (stack_4 : Sl) (w' : World), I out_3 stack_4 w' → B5 std out_3 stack_4 v_6 t9 t10 t11 w' (fun e2 w2 => ∃ out_3_n stack_4_n, e2 = emb5 out_3_n stack_4_n v_6 t9 t10 t11 ∧ I out_3_n stack_4_n w2 ∧ μ out_3_n stack_4_n w2 < μ out_3 stack_4 w') Q) :
    L5 std out_3 stack_4 v_6 t9 t10 t11 w Q := by
  unfold L5
  refine LoopE.intro (σ := Sl × Sl) (step := S5 std Q) (fun s => emb5 s.1 s.2 v_6 t9 t10 t11) (fun s w => I s.1 s.2 w) (fun s w => μ s.1 s.2 w) (out_3, stack_4) rfl h0 ?_
  intro s w' hI
  have h1 := h s.1 s.2 w' hI
  unfold B5 at h1
  simp only [Prod.exists]
  exact h1
theorem A5_2_eq (pr : Prims) (out_3 : Sl) (stack_4 : Sl) (v_6 : Int) (t9 : Sl) (t10 : Int) (t11 : Int) (w : World) (k : Env → World → Prop) (Q : Exit → Env → World → Prop) : (q11 pr k Q) (.exit 2) (x2 out_3 stack_4 v_6 t9 t10 t11) w = (
  pr.sem1 .sl PP (Instr.buildSlice T_Sint 1 #[(0, vI v_6)]) w fun (ρ22 : Sl) ω23 =>
  pr.sem1 .sl PP (Builtin.append_ #[T_Sint, T_Sint] T_Sint #[Sl.v stack_4, Sl.v ρ22]) ω23 fun (ρ24 : Sl) ω25 =>
  k (emb3 out_3 ρ24 t9 t10 (w64 (t11 + 1))) ω25) := by kernel_rfl
theorem A5_2_s (out_3 : Sl) (stack_4 : Sl) (v_6 : Int) (t9 : Sl) (t10 : Int) (t11 : Int) (w : World) (k : Env → World → Prop) (Q : Exit → Env → World → Prop) : (q11 std k Q) (.exit 2) (x2 out_3 stack_4 v_6 t9 t10 t11) w = (
  sem1 .sl PP (Instr.buildSlice T_Sint 1 #[(0, vI v_6)]) w fun (ρ22 : Sl) ω23 =>
  sem1 .sl PP (Builtin.append_ #[T_Sint, T_Sint] T_Sint #[Sl.v stack_4, Sl.v ρ22]) ω23 fun (ρ24 : Sl) ω25 =>
  k (emb3 out_3 ρ24 t9 t10 (w64 (t11 + 1))) ω25) := A5_2_eq std out_3 stack_4 v_6 t9 t10 t11 w k Q
theorem B3_eq (pr : Prims) (out_3 : Sl) (stack_4 : Sl) (t9 : Sl) (t10 : Int) (t11 : Int) (w : World) (k : Env → World → Prop) (Q : Exit → Env → World → Prop) : B3 pr out_3 stack_4 t9 t10 t11 w k Q = (
  bif decide (t11 < t10) then (
  pr.idxK 1 t9 t11 fun (a8 : Addr) =>
  pr.load1 (.int .i64) a8 w fun (ξ9 : Int) =>
  L5 pr out_3 stack_4 ξ9 t9 t10 t11 w (q11 pr k Q))
  else (
  Q (.exit 0) (x0 out_3 stack_4) w)) := by kernel_rfl
theorem B3_s (out_3 : Sl) (stack_4 : Sl) (t9 : Sl) (t10 : Int) (t11 : Int) (w : World) (k : Env → World → Prop) (Q : Exit → Env → World → Prop) : B3 std out_3 stack_4 t9 t10 t11 w k Q = (
  bif decide (t11 < t10) then (
  idxK 1 t9 t11 fun (a8 : Addr) =>
  load1 (.int .i64) a8 w fun (ξ9 : Int) =>
  L5 std out_3 stack_4 ξ9 t9 t10 t11 w (q11 std k Q))
  else (
  Q (.exit 0) (x0 out_3 stack_4) w)) := B3_eq std out_3 stack_4 t9 t10 t11 w k Q
theorem L3_rule (out_3 : Sl) (stack_4 : Sl) (t9 : Sl) (t10 : Int) (t11 : Int) (w : World) (Q : Exit → Env → World → Prop) (I : Sl → Sl → Int → World → Prop) (μ : Sl → Sl → Int → World → Nat) (h0 : I out_3 stack_4 t11 w)
    (h : ∀ (out_3 : Sl) (stack_4 : Sl) (t11 : Int) (w' : World), I out_3 stack_4 t11 w' → B3 std out_3 stack_4 t9 t10 t11 w' (fun e2 w2 => ∃ out_3_n stack_4_n t11_n, e2 = emb3 out_3_n stack_4_n t9 t10 t11_n ∧ I out_3_n stack_4_n t11_n w2 ∧ μ out_3_n stack_4_n t11_n w2 < μ out_3 stack_4 t11 w') Q) :
    L3 std out_3 stack_4 t9 t10 t11 w Q := by
  unfold L3
  refine LoopE.intro (σ := Sl × Sl × Int) (step := S3 std Q) (fun s => emb3 s.1 s.2.1 t9 t10 s.2.2) (fun s w => I s.1 s.2.1 s.2.2 w) (fun s w => μ s.1 s.2.1 s.2.2 w) (out_3, stack_4, t11) rfl h0 ?_
  intro s w' hI
  have h1 := h s.1 s.2.1 s.2.2 w' hI
  unfold B3 at h1
  simp only [Prod.exists]
  exact h1
theorem A3_0_eq (pr : Prims) (out_3 : Sl) (stack_4 : Sl) (w : World) (R : Ending → World → Prop) : (q5 pr R) (.exit 0) (x0 out_3 stack_4) w = (
  pr.call0  PP F.slices_Reverse___int_int_ #[Sl.v stack_4] w fun ω26 =>
  pr.sem1 .sl PP (Builtin.append_ #[T_Sint, T_Sint] T_Sint #[Sl.v out_3, Sl.v stack_4]) ω26 fun (ρ27 : Sl) ω28 =>
  R (.returned (Sl.v ρ27)) ω28) := by kernel_rfl
theorem A3_0_s (out_3 : Sl) (stack_4 : Sl) (w : World) (R : Ending → World → Prop) : (q5 std R) (.exit 0) (x0 out_3 stack_4) w = (
  call0  PP F.slices_Reverse___int_int_ #[Sl.v stack_4] w fun ω26 =>
  sem1 .sl PP (Builtin.append_ #[T_Sint, T_Sint] T_Sint #[Sl.v out_3, Sl.v stack_4]) ω26 fun (ρ27 : Sl) ω28 =>
  R (.returned (Sl.v ρ27)) ω28) := A3_0_eq std out_3 stack_4 w R
theorem E_eq (pr : Prims) (p_0 : Sl) (w : World) (R : Ending → World → Prop) : E pr p_0 w R = (
  pr.sem1 .sl PP (Instr.buildSlice T_Sint 0 #[]) w fun (ρ0 : Sl) ω1 =>
  pr.sem1 .sl PP (Instr.buildSlice T_Sint 0 #[]) ω1 fun (ρ2 : Sl) ω3 =>
  L3 pr ρ0 ρ2 p_0 (p_0.n : Int) 0 ω3 (q5 pr R)) := by kernel_rfl
theorem E_s (p_0 : Sl) (w : World) (R : Ending → World → Prop) : E std p_0 w R = (
  sem1 .sl PP (Instr.buildSlice T_Sint 0 #[]) w fun (ρ0 : Sl) ω1 =>
  sem1 .sl PP (Instr.buildSlice T_Sint 0 #[]) ω1 fun (ρ2 : Sl) ω3 =>
  L3 std ρ0 ρ2 p_0 (p_0.n : Int) 0 ω3 (q5 std R)) := E_eq std p_0 w R
theorem drawsOk : drawsOk PP cfg okD (codeOf Try.f68) = true := by kernel_rfl
theorem calls (p_0 : Sl) {w : World} {R : Ending → World → Prop} (h : E std p_0 w R) : Calls PP F.impl_stackPass #[Sl.v p_0] w R :=
  calls_of noCount mixed drawOk Try.func68 rfl (c := cfg) (args := [Sl.v p_0]) rfl (Nat.le_of_ble_eq_true (by kernel_rfl)) drawsOk h
end impl_stackPass

namespace impl_StackPass
@[reducible] def cfg : Cfg := ⟨8, [], [], [], [2], [], [101, 107, 112, 15, 21, 124, 76, 137, 28, 115, 91, 81, 130], [138, 140, 82, 6, 86, 85, 132]⟩
def E (pr : Prims) (p_0 : Sl) (w : World) (R : Ending → World → Prop) : Prop :=
  wpC pr PP cfg (DD pr) (codeOf Try.f8) (retQ Try.f8.results.toList R) (argE 0 [Sl.v p_0]) w
theorem E_eq (pr : Prims) (p_0 : Sl) (w : World) (R : Ending → World → Prop) : E pr p_0 w R = (
  pr.call1 .bool PP F.impl_IsPerm #[Sl.v p_0] w fun (ρ0 : Bool) ω1 =>
  bif !ρ0 then (
  R (.returned (Sl.v Sl.nil)) ω1)
  else (
  pr.call1 .sl PP F.impl_stackPass #[Sl.v p_0] ω1 fun (ρ2 : Sl) ω3 =>
  R (.returned (Sl.v ρ2)) ω3)) := by kernel_rfl
theorem E_s (p_0 : Sl) (w : World) (R : Ending → World → Prop) : E std p_0 w R = (
  call1 .bool PP F.impl_IsPerm #[Sl.v p_0] w fun (ρ0 : Bool) ω1 =>
  bif !ρ0 then (
  R (.returned (Sl.v Sl.nil)) ω1)
  else (
  call1 .sl PP F.impl_stackPass #[Sl.v p_0] ω1 fun (ρ2 : Sl) ω3 =>
  R (.returned (Sl.v ρ2)) ω3)) := E_eq std p_0 w R
theorem drawsOk : drawsOk PP cfg okD (codeOf Try.f8) = true := by kernel_rfl
theorem calls (p_0 : Sl) {w : World} {R : Ending → World → Prop} (h : E std p_0 w R) : Calls PP F.impl_StackPass #[Sl.v p_0] w R :=
  calls_of noCount mixed drawOk Try.func8 rfl (c := cfg) (args := [Sl.v p_0]) rfl (Nat.le_of_ble_eq_true (by kernel_rfl)) drawsOk h
end impl_StackPass

namespace impl_IsStackSorted
@[reducible] def cfg : Cfg := ⟨10, [], [], [], [2], [], [101, 107, 112, 15, 21, 124, 76, 137, 28, 115, 91, 81, 130], [138, 140, 82, 6, 86, 85, 132]⟩
def E (pr : Prims) (p_0 : Sl) (w : World) (R : Ending → World → Prop) : Prop :=
  wpC pr PP cfg (DD pr) (codeOf Try.f17) (retQ Try.f17.results.toList R) (argE 0 [Sl.v p_0]) w
theorem E_eq (pr : Prims) (p_0 : Sl) (w : World) (R : Ending → World → Prop) : E pr p_0 w R = (
  pr.call1 .bool PP F.impl_IsPerm #[Sl.v p_0] w fun (ρ0 : Bool) ω1 =>
  bif ρ0 then (
  pr.call1 .sl PP F.impl_stackPass #[Sl.v p_0] ω1 fun (ρ2 : Sl) ω3 =>
  pr.call1 .bool PP F.impl_isRising #[Sl.v ρ2] ω3 fun (ρ4 : Bool) ω5 =>
  R (.returned (.bool ρ4)) ω5)
  else (
  R (.returned (.bool false)) ω1)) := by kernel_rfl
theorem E_s (p_0 : Sl) (w : World) (R : Ending → World → Prop) : E std p_0 w R = (
  call1 .bool PP F.impl_IsPerm #[Sl.v p_0] w fun (ρ0 : Bool) ω1 =>
  bif ρ0 then (
  call1 .sl PP F.impl_stackPass #[Sl.v p_0] ω1 fun (ρ2 : Sl) ω3 =>
  call1 .bool PP F.impl_isRising #[Sl.v ρ2] ω3 fun (ρ4 : Bool) ω5 =>
  R (.returned (.bool ρ4)) ω5)
  else (
  R (.returned (.bool false)) ω1)) := E_eq std p_0 w R
theorem drawsOk : drawsOk PP cfg okD (codeOf Try.f17) = true := by kernel_rfl
theorem calls (p_0 : Sl) {w : World} {R : Ending → World → Prop} (h : E std p_0 w R) : Calls PP F.impl_IsStackSorted #[Sl.v p_0] w R :=
  calls_of noCount mixed drawOk Try.func17 rfl (c := cfg) (args := [Sl.v p_0]) rfl (Nat.le_of_ble_eq_true (by kernel_rfl)) drawsOk h
end impl_IsStackSorted

namespace impl_timesOf
@[reducible] def cfg : Cfg := ⟨15, [(2, [0, 1, 5])], [(1, [0, 1, 5]), (0, [5])], [], [4], [], [101, 107, 112, 15, 21, 124, 76, 137, 28, 115, 91, 81, 130], [138, 140, 82, 6, 86, 85, 132]⟩
def q0 (pr : Prims) (R : Ending → World → Prop) : Exit → Env → World → Prop := fun ex e w => normQ ex (fun e w => contE pr cfg (sub (codeOf Try.f79) [1, 1, 1]) (fun e w => wpC pr PP cfg (DD pr) (sub (codeOf Try.f79) [1, 1, 1]) (retQ Try.f79.results.toList R) e w) e w) (retQ Try.f79.results.toList R) e w
def q1 (pr : Prims) (R : Ending → World → Prop) : Exit → Env → World → Prop := fun ex e w => blockQ ex 0 (q0 pr R) e w
def emb2 (p_0 : Sl) (pass_1 : Value) (many_5 : Int) : Env := [(0, Sl.v p_0), (1, pass_1), (5, vI many_5)]
def x0 (many_5 : Int) : Env := [(5, vI many_5)]
def S2 (pr : Prims) (Q : Exit → Env → World → Prop) : (Env → World → Prop) → Env → World → Prop := fun k e w => wpC pr PP cfg (DD pr) (sub (codeOf Try.f79) [1, 1, 0, 0, 0]) (fun ex e w => normQ ex (fun e' w' => k (Env.restr e' (lookN cfg.loops (keyOf (sub (codeOf Try.f79) [1, 1, 0, 0, 0])))) w') Q e w) e w
def B2 (pr : Prims) (p_0 : Sl) (pass_1 : Value) (many_5 : Int) (w : World) (k : Env → World → Prop) (Q : Exit → Env → World → Prop) : Prop :=
  S2 pr Q k (emb2 p_0 pass_1 many_5) w
def L2 (pr : Prims) (p_0 : Sl) (pass_1 : Value) (many_5 : Int) (w : World) (Q : Exit → Env → World → Prop) : Prop :=
  pr.loop (S2 pr Q) (emb2 p_0 pass_1 many_5) w
def E (pr : Prims) (p_0 : Sl) (pass_1 : Value) (w : World) (R : Ending → World → Prop) : Prop :=
  wpC pr PP cfg (DD pr) (codeOf Try.f79) (retQ Try.f79.results.toList R) (argE 0 [Sl.v p_0, pass_1]) w
theorem B2_eq (pr : Prims) (p_0 : Sl) (pass_1 : Value) (many_5 : Int) (w : World) (k : Env → World → Prop) (Q : Exit → Env → World → Prop) : B2 pr p_0 pass_1 many_5 w k Q = (
  pr.call1 .bool PP F.impl_isRising #[Sl.v p_0] w fun (ρ2 : Bool) ω3 =>
  bif !ρ2 then (
  pr.callV1 .sl PP (pass_1) [Sl.v p_0] ω3 fun (ρ4 : Sl) ω5 =>
  k (emb2 ρ4 pass_1 (w64 (many_5 + 1))) ω5)
  else (
  Q (.exit 0) (x0 many_5) ω3)) := by kernel_rfl
theorem B2_s (p_0 : Sl) (pass_1 : Value) (many_5 : Int) (w : World) (k : Env → World → Prop) (Q : Exit → Env → World → Prop) : B2 std p_0 pass_1 many_5 w k Q = (
  call1 .bool PP F.impl_isRising #[Sl.v p_0] w fun (ρ2 : Bool) ω3 =>
  bif !ρ2 then (
  callV1 .sl PP (pass_1) [Sl.v p_0] ω3 fun (ρ4 : Sl) ω5 =>
  k (emb2 ρ4 pass_1 (w64 (many_5 + 1))) ω5)
  else (
  Q (.exit 0) (x0 many_5) ω3)) := B2_eq std p_0 pass_1 many_5 w k Q
theorem L2_rule (p_0 : Sl) (pass_1 : Value) (many_5 : Int) (w : World) (Q : Exit → Env → World → Prop) (I : Sl → Int → World → Prop) (μ : Sl → Int → World → Nat) (h0 : I p_0 many_5 w)
    (h : ∀ (p_0 : Sl) (many_5 : Int) (w' : World), I p_0 many_5 w' → B2 std p_0 pass_1 many_5 w' (fun e2 w2 => ∃ p_0_n many_5_n, e2 = emb2 p_0_n pass_1 many_5_n ∧ I p_0_n many_5_n w2 ∧ μ p_0_n many_5_n w2 < μ p_0 many_5 w') Q) :
    L2 std p_0 pass_1 many_5 w Q := by
  unfold L2
  refine LoopE.intro (σ := Sl × Int) (step := S2 std Q) (fun s => emb2 s.1 pass_1 s.2) (fun s w => I s.1 s.2 w) (fun s w => μ s.1 s.2 w) (p_0, many_5) rfl h0 ?_
  intro s w' hI
  have h1 := h s.1 s.2 w' hI
  unfold B2 at h1
  simp only [Prod.exists]
  exact h1
theorem A2_0_eq (pr : Prims) (many_5 : Int) (w : World) (R : Ending → World → Prop) : (q1 pr R) (.exit 0) (x0 many_5) w = (
  R (.returned (vI many_5)) w) := by kernel_rfl
theorem A2_0_s (many_5 : Int) (w : World) (R : Ending → World → Prop) : (q1 std R) (.exit 0) (x0 many_5) w = (
  R (.returned (vI many_5)) w) := A2_0_eq std many_5 w R
theorem E_eq (pr : Prims) (p_0 : Sl) (pass_1 : Value) (w : World) (R : Ending → World → Prop) : E pr p_0 pass_1 w R = (
  L2 pr p_0 pass_1 0 w (q1 pr R)) := by kernel_rfl
theorem E_s (p_0 : Sl) (pass_1 : Value) (w : World) (R : Ending → World → Prop) : E std p_0 pass_1 w R = (
  L2 std p_0 pass_1 0 w (q1 std R)) := E_eq std p_0 pass_1 w R
theorem drawsOk : drawsOk PP cfg okD (codeOf Try.f79) = true := by kernel_rfl
theorem calls (p_0 : Sl) (pass_1 : Value) {w : World} {R : Ending → World → Prop} (h : E std p_0 pass_1 w R) : Calls PP F.impl_timesOf #[Sl.v p_0, pass_1] w R :=
  calls_of noCount mixed drawOk Try.func79 rfl (c := cfg) (args := [Sl.v p_0, pass_1]) rfl (Nat.le_of_ble_eq_true (by kernel_rfl)) drawsOk h
end impl_timesOf

namespace impl_StackTimes
@[reducible] def cfg : Cfg := ⟨8, [], [], [], [2], [], [101, 107, 112, 15, 21, 124, 76, 137, 28, 115, 91, 81, 130], [138, 140, 82, 6, 86, 85, 132]⟩
def E (pr : Prims) (p_0 : Sl) (w : World) (R : Ending → World → Prop) : Prop :=
  wpC pr PP cfg (DD pr) (codeOf Try.f19) (retQ Try.f19.results.toList R) (argE 0 [Sl.v p_0]) w
theorem E_eq (pr : Prims) (p_0 : Sl) (w : World) (R : Ending → World → Prop) : E pr p_0 w R = (
  pr.call1 .bool PP F.impl_IsPerm #[Sl.v p_0] w fun (ρ0 : Bool) ω1 =>
  bif !ρ0 then (
  R (.returned (vI (-1))) ω1)
  else (
  pr.call1 (.int .i64) PP F.impl_timesOf #[Sl.v p_0, .func (.func F.impl_stackPass) #[] #[]] ω1 fun (ρ2 : Int) ω3 =>
  R (.returned (vI ρ2)) ω3)) := by kernel_rfl
theorem E_s (p_0 : Sl) (w : World) (R : Ending → World → Prop) : E std p_0 w R = (
  call1 .bool PP F.impl_IsPerm #[Sl.v p_0] w fun (ρ0 : Bool) ω1 =>
  bif !ρ0 then (
  R (.returned (vI (-1))) ω1)
  else (
  call1 (.int .i64) PP F.impl_timesOf #[Sl.v p_0, .func (.func F.impl_stackPass) #[] #[]] ω1 fun (ρ2 : Int) ω3 =>
  R (.returned (vI ρ2)) ω3)) := E_eq std p_0 w R
theorem drawsOk : drawsOk PP cfg okD (codeOf Try.f19) = true := by kernel_rfl
theorem calls (p_0 : Sl) {w : World} {R : Ending → World → Prop} (h : E std p_0 w R) : Calls PP F.impl_StackTimes #[Sl.v p_0] w R :=
  calls_of noCount mixed drawOk Try.func19 rfl (c := cfg) (args := [Sl.v p_0]) rfl (Nat.le_of_ble_eq_true (by kernel_rfl)) drawsOk h
end impl_StackTimes

namespace spec_l21Pass
@[reducible] def cfg : Cfg := ⟨55, [(6, [0, 3, 4, 5]), (4, [0, 3, 4, 5])], [(3, [0, 3, 4, 5]), (2, [0, 3, 4, 5]), (1, [0, 3, 4, 5]), (0, [3, 4])], [], [2], [6], [101, 107, 112, 15, 21, 124, 76, 137, 28, 115, 91, 81, 130], [138, 140, 82, 6, 86, 85, 132]⟩
def q4 (pr : Prims) (R : Ending → World → Prop) : Exit → Env → World → Prop := fun ex e w => normQ ex (fun e w => contE pr cfg (sub (codeOf Try.f74) [1, 1, 1, 1]) (fun e w => wpC pr PP cfg (DD pr) (sub (codeOf Try.f74) [1, 1, 1, 1]) (retQ Try.f74.results.toList R) e w) e w) (retQ Try.f74.results.toList R) e w
def q5 (pr : Prims) (R : Ending → World → Prop) : Exit → Env → World → Prop := fun ex e w => blockQ ex 0 (q4 pr R) e w
def q6 (pr : Prims) (k : Env → World → Prop) (Q : Exit → Env → World → Prop) : Exit → Env → World → Prop := fun ex e w => normQ ex (fun e w => contE pr cfg (sub (codeOf Try.f74) [1, 1, 1, 0, 1, 0, 0, 1, 1]) (fun e w => wpC pr PP cfg (DD pr) (sub (codeOf Try.f74) [1, 1, 1, 0, 1, 0, 0, 1, 1]) (fun ex e w => normQ ex (fun e' w' => k (Env.restr e' (lookN cfg.loops (keyOf (sub (codeOf Try.f74) [1, 1, 1, 0, 1, 0, 0])))) w') Q e w) e w) e w) (fun ex e w => normQ ex (fun e' w' => k (Env.restr e' (lookN cfg.loops (keyOf (sub (codeOf Try.f74) [1, 1, 1, 0, 1, 0, 0])))) w') Q e w) e w
def q7 (pr : Prims) (k : Env → World → Prop) (Q : Exit → Env → World → Prop) : Exit → Env → World → Prop := fun ex e w => blockQ ex 1 (q6 pr k Q) e w
def q8 (pr : Prims) (k : Env → World → Prop) (Q : Exit → Env → World → Prop) : Exit → Env → World → Prop := fun ex e w => normQ ex (fun e w => contE pr cfg (sub (codeOf Try.f74) [1, 1, 1, 0, 1, 0, 0, 1, 0, 0, 1]) (fun e w => wpC pr PP cfg (DD pr) (sub (codeOf Try.f74) [1, 1, 1, 0, 1, 0, 0, 1, 0, 0, 1]) (q7 pr k Q) e w) e w) (q7 pr k Q) e w
def q9 (pr : Prims) (k : Env → World → Prop) (Q : Exit → Env → World → Prop) : Exit → Env → World → Prop := fun ex e w => blockQ ex 2 (q8 pr k Q) e w
def emb4 (p_0 : Sl) (out_3 : Sl) (stack_4 : Sl) (k_5 : Int) : Env := [(0, Sl.v p_0), (3, Sl.v out_3), (4, Sl.v stack_4), (5, vI k_5)]
def emb6 (p_0 : Sl) (out_3 : Sl) (stack_4 : Sl) (k_5 : Int) : Env := [(0, Sl.v p_0), (3, Sl.v out_3), (4, Sl.v stack_4), (5, vI k_5)]
def x2 (p_0 : Sl) (out_3 : Sl) (stack_4 : Sl) (k_5 : Int) : Env := [(0, Sl.v p_0), (3, Sl.v out_3), (4, Sl.v stack_4), (5, vI k_5)]
def x0 (out_3 : Sl) (stack_4 : Sl) : Env := [(3, Sl.v out_3), (4, Sl.v stack_4)]
def S6 (pr : Prims) (Q : Exit → Env → World → Prop) : (Env → World → Prop) → Env → World → Prop := fun k e w => wpC pr PP cfg (DD pr) (sub (codeOf Try.f74) [1, 1, 1, 0, 1, 0, 0, 1, 0, 0, 0, 0, 0]) (fun ex e w => normQ ex (fun e' w' => k (Env.restr e' (lookN cfg.loops (keyOf (sub (codeOf Try.f74) [1, 1, 1, 0, 1, 0, 0, 1, 0, 0, 0, 0, 0])))) w') Q e w) e w
def S4 (pr : Prims) (Q : Exit → Env → World → Prop) : (Env → World → Prop) → Env → World → Prop := fun k e w => wpC pr PP cfg (DD pr) (sub (codeOf Try.f74) [1, 1, 1, 0, 1, 0, 0]) (fun ex e w => normQ ex (fun e' w' => k (Env.restr e' (lookN cfg.loops (keyOf (sub (codeOf Try.f74) [1, 1, 1, 0, 1, 0, 0])))) w') Q e w) e w
def B6 (pr : Prims) (p_0 : Sl) (out_3 : Sl) (stack_4 : Sl) (k_5 : Int) (w : World) (k : Env → World → Prop) (Q : Exit → Env → World → Prop) : Prop :=
  S6 pr Q k (emb6 p_0 out_3 stack_4 k_5) w
def L6 (pr : Prims) (p_0 : Sl) (out_3 : Sl) (stack_4 : Sl) (k_5 : Int) (w : World) (Q : Exit → Env → World → Prop) : Prop :=
  pr.loop (S6 pr Q) (emb6 p_0 out_3 stack_4 k_5) w
def B4 (pr : Prims) (p_0 : Sl) (out_3 : Sl) (stack_4 : Sl) (k_5 : Int) (w : World) (k : Env → World → Prop) (Q : Exit → Env → World → Prop) : Prop :=
  S4 pr Q k (emb4 p_0 out_3 stack_4 k_5) w
def L4 (pr : Prims) (p_0 : Sl) (out_3 : Sl) (stack_4 : Sl) (k_5 : Int) (w : World) (Q : Exit → Env → World → Prop) : Prop :=
  pr.loop (S4 pr Q) (emb4 p_0 out_3 stack_4 k_5) w
def E (pr : Prims) (p_0 : Sl) (w : World) (R : Ending → World → Prop) : Prop :=
  wpC pr PP cfg (DD pr) (codeOf Try.f74) (retQ Try.f74.results.toList R) (argE 0 [Sl.v p_0]) w
theorem B6_eq (pr : Prims) (p_0 : Sl) (out_3 : Sl) (stack_4 : Sl) (k_5 : Int) (w : World) (k : Env → World → Prop) (Q : Exit → Env → World → Prop) : B6 pr p_0 out_3 stack_4 k_5 w k Q = (
  bif decide ((stack_4.n : Int) > 0) then (
  pr.idxK 1 stack_4 (w64 ((stack_4.n : Int) - 1)) fun (a10 : Addr) =>
  pr.load1 (.int .i64) a10 w fun (ξ11 : Int) =>
  pr.idxK 1 p_0 k_5 fun (a12 : Addr) =>
  pr.load1 (.int .i64) a12 w fun (ξ13 : Int) =>
  pr.drewAll w fun ω14 =>
  bif decide (ξ11 < ξ13) then (
  pr.idxK 1 stack_4 (w64 ((stack_4.n : Int) - 1)) fun (a15 : Addr) =>
  pr.load1 (.int .i64) a15 ω14 fun (ξ16 : Int) =>
  pr.sem1 .sl PP (Instr.buildSlice T_Sint 1 #[(0, vI ξ16)]) ω14 fun (ρ17 : Sl) ω18 =>
  pr.sem1 .sl PP (Builtin.append_ #[T_Sint, T_Sint] T_Sint #[Sl.v out_3, Sl.v ρ17]) ω18 fun (ρ19 : Sl) ω20 =>
  pr.cutK 1 stack_4 none (some (w64 ((stack_4.n : Int) - 1))) fun (s21 : Sl) =>
  k (emb6 p_0 ρ19 s21 k_5) ω20)
  else (
  Q (.exit 2) (x2 p_0 out_3 stack_4 k_5) ω14))
  else (
  pr.drewAll w fun ω22 =>
  Q (.exit 2) (x2 p_0 out_3 stack_4 k_5) ω22)) := by kernel_rfl
theorem B6_s (p_0 : Sl) (out_3 : Sl) (stack_4 : Sl) (k_5 : Int) (w : World) (k : Env → World → Prop) (Q : Exit → Env → World → Prop) : B6 std p_0 out_3 stack_4 k_5 w k Q = (
  bif decide ((stack_4.n : Int) > 0) then (
  idxK 1 stack_4 (w64 ((stack_4.n : Int) - 1)) fun (a10 : Addr) =>
  load1 (.int .i64) a10 w fun (ξ11 : Int) =>
  idxK 1 p_0 k_5 fun (a12 : Addr) =>
  load1 (.int .i64) a12 w fun (ξ13 : Int) =>
  drewAll w fun ω14 =>
  bif decide (ξ11 < ξ13) then (
  idxK 1 stack_4 (w64 ((stack_4.n : Int) - 1)) fun (a15 : Addr) =>
  load1 (.int .i64) a15 ω14 fun (ξ16 : Int) =>
  sem1 .sl PP (Instr.buildSlice T_Sint 1 #[(0, vI ξ16)]) ω14 fun (ρ17 : Sl) ω18 =>
  sem1 .sl PP (Builtin.append_ #[T_Sint, T_Sint] T_Sint #[Sl.v out_3, Sl.v ρ17]) ω18 fun (ρ19 : Sl) ω20 =>
  cutK 1 stack_4 none (some (w64 ((stack_4.n : Int) - 1))) fun (s21 : Sl) =>
  k (emb6 p_0 ρ19 s21 k_5) ω20)
  else (
  Q (.exit 2) (x2 p_0 out_3 stack_4 k_5) ω14))
  else (
  drewAll w fun ω22 =>
  Q (.exit 2) (x2 p_0 out_3 stack_4 k_5) ω22)) := B6_eq std p_0 out_3 stack_4 k_5 w k Q
theorem L6_rule (p_0 : Sl) (out_3 : Sl) (stack_4 : Sl) (k_5 : Int) (w : World) (Q : Exit → Env → World → Prop) (I : Sl → Sl → World → Prop) (μ : Sl → Sl → World → Nat) (h0 : I out_3 stack_4 w)
    (h : ∀ (out_3 : Sl) (stack_4 : Sl) (w' : World), I out_3 stack_4 w' → B6 std p_0 out_3 stack_4 k_5 w' (fun e2 w2 => ∃ out_3_n stack_4_n, e2 = emb6 p_0 out_3_n stack_4_n k_5 ∧ I out_3_n stack_4_n w2 ∧ μ out_3_n stack_4_n w2 < μ out_3 stack_4 w') Q) :
    L6 std p_0 out_3 stack_4 k_5 w Q := by
  unfold L6
  refine LoopE.intro (σ := Sl × Sl) (step := S6 std Q) (fun s => emb6 p_0 s.1 s.2 k_5) (fun s w => I s.1 s.2 w) (fun s w => μ s.1 s.2 w) (out_3, stack_4) rfl h0 ?_
  intro s w' hI
  have h1 := h s.1 s.2 w' hI
  unfold B6 at h1
  simp only [Prod.exists]
  exact h1
theorem A6_2_eq (pr : Prims) (p_0 : Sl) (out_3 : Sl) (stack_4 : Sl) (k_5 : Int) (w : World) (k : Env → World → Prop) (Q : Exit → Env → World → Prop) : (q9 pr k Q) (.exit 2) (x2 p_0 out_3 stack_4 k_5) w = (
  pr.idxK 1 p_0 k_5 fun (a23 : Addr) =>
  pr.load1 (.int .i64) a23 w fun (ξ24 : Int) =>
  pr.sem1 .sl PP (Instr.buildSlice T_Sint 1 #[(0, vI ξ24)]) w fun (ρ25 : Sl) ω26 =>
  pr.sem1 .sl PP (Builtin.append_ #[T_Sint, T_Sint] T_Sint #[Sl.v stack_4, Sl.v ρ25]) ω26 fun (ρ27 : Sl) ω28 =>
  k (emb4 p_0 out_3 ρ27 (w64 (k_5 + 1))) ω28) := by kernel_rfl
theorem A6_2_s (p_0 : Sl) (out_3 : Sl) (stack_4 : Sl) (k_5 : Int) (w : World) (k : Env → World → Prop) (Q : Exit → Env → World → Prop) : (q9 std k Q) (.exit 2) (x2 p_0 out_3 stack_4 k_5) w = (
  idxK 1 p_0 k_5 fun (a23 : Addr) =>
  load1 (.int .i64) a23 w fun (ξ24 : Int) =>
  sem1 .sl PP (Instr.buildSlice T_Sint 1 #[(0, vI ξ24)]) w fun (ρ25 : Sl) ω26 =>
  sem1 .sl PP (Builtin.append_ #[T_Sint, T_Sint] T_Sint #[Sl.v stack_4, Sl.v ρ25]) ω26 fun (ρ27 : Sl) ω28 =>
  k (emb4 p_0 out_3 ρ27 (w64 (k_5 + 1))) ω28) := A6_2_eq std p_0 out_3 stack_4 k_5 w k Q
theorem B4_eq (pr : Prims) (p_0 : Sl) (out_3 : Sl) (stack_4 : Sl) (k_5 : Int) (w : World) (k : Env → World → Prop) (Q : Exit → Env → World → Prop) : B4 pr p_0 out_3 stack_4 k_5 w k Q = (
  bif decide (k_5 < (p_0.n : Int)) then (
  L6 pr p_0 out_3 stack_4 k_5 w (q9 pr k Q))
  else (
  Q (.exit 0) (x0 out_3 stack_4) w)) := by kernel_rfl
theorem B4_s (p_0 : Sl) (out_3 : Sl) (stack_4 : Sl) (k_5 : Int) (w : World) (k : Env → World → Prop) (Q : Exit → Env → World → Prop) : B4 std p_0 out_3 stack_4 k_5 w k Q = (
  bif decide (k_5 < (p_0.n : Int)) then (
  L6 std p_0 out_3 stack_4 k_5 w (q9 std k Q))
  else (
  Q (.exit 0) (x0 out_3 stack_4) w)) := B4_eq std p_0 out_3 stack_4 k_5 w k Q
theorem L4_rule (p_0 : Sl) (out_3 : Sl) (stack_4 : Sl) (k_5 : Int) (w : World) (Q : Exit → Env → World → Prop) (I : Sl → Sl → Int → World → Prop) (μ : Sl → Sl → Int → World → Nat) (h0 : I out_3 stack_4 k_5 w)
    (h : ∀ (out_3 : Sl) (stack_4 : Sl) (k_5 : Int) (w' : World), I out_3 stack_4 k_5 w' → B4 std p_0 out_3 stack_4 k_5 w' (fun e2 w2 => ∃ out_3_n stack_4_n k_5_n, e2 = emb4 p_0 out_3_n stack_4_n k_5_n ∧ I out_3_n stack_4_n k_5_n w2 ∧ μ out_3_n stack_4_n k_5_n w2 < μ out_3 stack_4 k_5 w') Q) :
    L4 std p_0 out_3 stack_4 k_5 w Q := by
  unfold L4
  refine LoopE.intro (σ := Sl × Sl × Int) (step := S4 std Q) (fun s => emb4 p_0 s.1 s.2.1 s.2.2) (fun s w => I s.1 s.2.1 s.2.2 w) (fun s w => μ s.1 s.2.1 s.2.2 w) (out_3, stack_4, k_5) rfl h0 ?_
  intro s w' hI
  have h1 := h s.1 s.2.1 s.2.2 w' hI
  unfold B4 at h1
  simp only [Prod.exists]
  exact h1
theorem A4_0_eq (pr : Prims) (out_3 : Sl) (stack_4 : Sl) (w : World) (R : Ending → World → Prop) : (q5 pr R) (.exit 0) (x0 out_3 stack_4) w = (
  pr.call1 .sl PP F.spec_l3Reverse #[Sl.v stack_4] w fun (ρ29 : Sl) ω30 =>
  pr.sem1 .sl PP (Builtin.append_ #[T_Sint, T_Sint] T_Sint #[Sl.v out_3, Sl.v ρ29]) ω30 fun (ρ31 : Sl) ω32 =>
  R (.returned (Sl.v ρ31)) ω32) := by kernel_rfl
theorem A4_0_s (out_3 : Sl) (stack_4 : Sl) (w : World) (R : Ending → World → Prop) : (q5 std R) (.exit 0) (x0 out_3 stack_4) w = (
  call1 .sl PP F.spec_l3Reverse #[Sl.v stack_4] w fun (ρ29 : Sl) ω30 =>
  sem1 .sl PP (Builtin.append_ #[T_Sint, T_Sint] T_Sint #[Sl.v out_3, Sl.v ρ29]) ω30 fun (ρ31 : Sl) ω32 =>
  R (.returned (Sl.v ρ31)) ω32) := A4_0_eq std out_3 stack_4 w R
theorem E_eq (pr : Prims) (p_0 : Sl) (w : World) (R : Ending → World → Prop) : E pr p_0 w R = (
  pr.sem1 .sl PP (Instr.buildSlice T_Sint 0 #[]) w fun (ρ0 : Sl) ω1 =>
  pr.sem1 .sl PP (Instr.buildSlice T_Sint 0 #[]) ω1 fun (ρ2 : Sl) ω3 =>
  L4 pr p_0 ρ0 ρ2 0 ω3 (q5 pr R)) := by kernel_rfl
theorem E_s (p_0 : Sl) (w : World) (R : Ending → World → Prop) : E std p_0 w R = (
  sem1 .sl PP (Instr.buildSlice T_Sint 0 #[]) w fun (ρ0 : Sl) ω1 =>
  sem1 .sl PP (Instr.buildSlice T_Sint 0 #[]) ω1 fun (ρ2 : Sl) ω3 =>
  L4 std p_0 ρ0 ρ2 0 ω3 (q5 std R)) := E_eq std p_0 w R
theorem drawsOk : drawsOk PP cfg okD (codeOf Try.f74) = true := by kernel_rfl
theorem calls (p_0 : Sl) {w : World} {R : Ending → World → Prop} (h : E std p_0 w R) : Calls PP F.spec_l21Pass #[Sl.v p_0] w R :=
  calls_of noCount mixed drawOk Try.func74 rfl (c := cfg) (args := [Sl.v p_0]) rfl (Nat.le_of_ble_eq_true (by kernel_rfl)) drawsOk h
end spec_l21Pass

namespace spec_StackPass
@[reducible] def cfg : Cfg := ⟨9, [], [], [], [2], [], [101, 107, 112, 15, 21, 124, 76, 137, 28, 115, 91, 81, 130], [138, 140, 82, 6, 86, 85, 132]⟩
def E (pr : Prims) (p_0 : Sl) (w : World) (R : Ending → World → Prop) : Prop :=
  wpC pr PP cfg (DD pr) (codeOf Try.f16) (retQ Try.f16.results.toList R) (argE 0 [Sl.v p_0]) w
theorem E_eq (pr : Prims) (p_0 : Sl) (w : World) (R : Ending → World → Prop) : E pr p_0 w R = (
  pr.call1 .bool PP F.spec_IsPerm #[Sl.v p_0] w fun (ρ0 : Bool) ω1 =>
  bif !ρ0 then (
  pr.sem1 .sl PP (Instr.buildSlice T_Sint 0 #[]) ω1 fun (ρ2 : Sl) ω3 =>
  R (.returned (Sl.v ρ2)) ω3)
  else (
  pr.call1 .sl PP F.spec_l21Pass #[Sl.v p_0] ω1 fun (ρ4 : Sl) ω5 =>
  R (.returned (Sl.v ρ4)) ω5)) := by kernel_rfl
theorem E_s (p_0 : Sl) (w : World) (R : Ending → World → Prop) : E std p_0 w R = (
  call1 .bool PP F.spec_IsPerm #[Sl.v p_0] w fun (ρ0 : Bool) ω1 =>
  bif !ρ0 then (
  sem1 .sl PP (Instr.buildSlice T_Sint 0 #[]) ω1 fun (ρ2 : Sl) ω3 =>
  R (.returned (Sl.v ρ2)) ω3)
  else (
  call1 .sl PP F.spec_l21Pass #[Sl.v p_0] ω1 fun (ρ4 : Sl) ω5 =>
  R (.returned (Sl.v ρ4)) ω5)) := E_eq std p_0 w R
theorem drawsOk : drawsOk PP cfg okD (codeOf Try.f16) = true := by kernel_rfl
theorem calls (p_0 : Sl) {w : World} {R : Ending → World → Prop} (h : E std p_0 w R) : Calls PP F.spec_StackPass #[Sl.v p_0] w R :=
  calls_of noCount mixed drawOk Try.func16 rfl (c := cfg) (args := [Sl.v p_0]) rfl (Nat.le_of_ble_eq_true (by kernel_rfl)) drawsOk h
end spec_StackPass

namespace spec_IsStackSorted
@[reducible] def cfg : Cfg := ⟨10, [], [], [], [2], [], [101, 107, 112, 15, 21, 124, 76, 137, 28, 115, 91, 81, 130], [138, 140, 82, 6, 86, 85, 132]⟩
def E (pr : Prims) (p_0 : Sl) (w : World) (R : Ending → World → Prop) : Prop :=
  wpC pr PP cfg (DD pr) (codeOf Try.f18) (retQ Try.f18.results.toList R) (argE 0 [Sl.v p_0]) w
theorem E_eq (pr : Prims) (p_0 : Sl) (w : World) (R : Ending → World → Prop) : E pr p_0 w R = (
  pr.call1 .bool PP F.spec_IsPerm #[Sl.v p_0] w fun (ρ0 : Bool) ω1 =>
  bif ρ0 then (
  pr.call1 .sl PP F.spec_l21Pass #[Sl.v p_0] ω1 fun (ρ2 : Sl) ω3 =>
  pr.call1 .bool PP F.spec_l13Straight #[Sl.v ρ2] ω3 fun (ρ4 : Bool) ω5 =>
  R (.returned (.bool ρ4)) ω5)
  else (
  R (.returned (.bool false)) ω1)) := by kernel_rfl
theorem E_s (p_0 : Sl) (w : World) (R : Ending → World → Prop) : E std p_0 w R = (
  call1 .bool PP F.spec_IsPerm #[Sl.v p_0] w fun (ρ0 : Bool) ω1 =>
  bif ρ0 then (
  call1 .sl PP F.spec_l21Pass #[Sl.v p_0] ω1 fun (ρ2 : Sl) ω3 =>
  call1 .bool PP F.spec_l13Straight #[Sl.v ρ2] ω3 fun (ρ4 : Bool) ω5 =>
  R (.returned (.bool ρ4)) ω5)
  else (
  R (.returned (.bool false)) ω1)) := E_eq std p_0 w R
theorem drawsOk : drawsOk PP cfg okD (codeOf Try.f18) = true := by kernel_rfl
theorem calls (p_0 : Sl) {w : World} {R : Ending → World → Prop} (h : E std p_0 w R) : Calls PP F.spec_IsStackSorted #[Sl.v p_0] w R :=
  calls_of noCount mixed drawOk Try.func18 rfl (c := cfg) (args := [Sl.v p_0]) rfl (Nat.le_of_ble_eq_true (by kernel_rfl)) drawsOk h
end spec_IsStackSorted

namespace spec_StackTimes
@[reducible] def cfg : Cfg := ⟨15, [(4, [0, 3])], [(1, [0, 3]), (0, [3])], [], [2], [], [101, 107, 112, 15, 21, 124, 76, 137, 28, 115, 91, 81, 130], [138, 140, 82, 6, 86, 85, 132]⟩
def q2 (pr : Prims) (R : Ending → World → Prop) : Exit → Env → World → Prop := fun ex e w => normQ ex (fun e w => contE pr cfg (sub (codeOf Try.f20) [1, 1, 1, 1]) (fun e w => wpC pr PP cfg (DD pr) (sub (codeOf Try.f20) [1, 1, 1, 1]) (retQ Try.f20.results.toList R) e w) e w) (retQ Try.f20.results.toList R) e w
def q3 (pr : Prims) (R : Ending → World → Prop) : Exit → Env → World → Prop := fun ex e w => blockQ ex 0 (q2 pr R) e w
def emb4 (p_0 : Sl) (n_3 : Int) : Env := [(0, Sl.v p_0), (3, vI n_3)]
def x0 (n_3 : Int) : Env := [(3, vI n_3)]
def S4 (pr : Prims) (Q : Exit → Env → World → Prop) : (Env → World → Prop) → Env → World → Prop := fun k e w => wpC pr PP cfg (DD pr) (sub (codeOf Try.f20) [1, 1, 1, 0, 0, 0]) (fun ex e w => normQ ex (fun e' w' => k (Env.restr e' (lookN cfg.loops (keyOf (sub (codeOf Try.f20) [1, 1, 1, 0, 0, 0])))) w') Q e w) e w
def B4 (pr : Prims) (p_0 : Sl) (n_3 : Int) (w : World) (k : Env → World → Prop) (Q : Exit → Env → World → Prop) : Prop :=
  S4 pr Q k (emb4 p_0 n_3) w
def L4 (pr : Prims) (p_0 : Sl) (n_3 : Int) (w : World) (Q : Exit → Env → World → Prop) : Prop :=
  pr.loop (S4 pr Q) (emb4 p_0 n_3) w
def E (pr : Prims) (p_0 : Sl) (w : World) (R : Ending → World → Prop) : Prop :=
  wpC pr PP cfg (DD pr) (codeOf Try.f20) (retQ Try.f20.results.toList R) (argE 0 [Sl.v p_0]) w
theorem B4_eq (pr : Prims) (p_0 : Sl) (n_3 : Int) (w : World) (k : Env → World → Prop) (Q : Exit → Env → World → Prop) : B4 pr p_0 n_3 w k Q = (
  pr.call1 .bool PP F.spec_l13Straight #[Sl.v p_0] w fun (ρ4 : Bool) ω5 =>
  bif !ρ4 then (
  pr.call1 .sl PP F.spec_l21Pass #[Sl.v p_0] ω5 fun (ρ6 : Sl) ω7 =>
  k (emb4 ρ6 (w64 (n_3 + 1))) ω7)
  else (
  Q (.exit 0) (x0 n_3) ω5)) := by kernel_rfl
theorem B4_s (p_0 : Sl) (n_3 : Int) (w : World) (k : Env → World → Prop) (Q : Exit → Env → World → Prop) : B4 std p_0 n_3 w k Q = (
  call1 .bool PP F.spec_l13Straight #[Sl.v p_0] w fun (ρ4 : Bool) ω5 =>
  bif !ρ4 then (
  call1 .sl PP F.spec_l21Pass #[Sl.v p_0] ω5 fun (ρ6 : Sl) ω7 =>
  k (emb4 ρ6 (w64 (n_3 + 1))) ω7)
  else (
  Q (.exit 0) (x0 n_3) ω5)) := B4_eq std p_0 n_3 w k Q
theorem L4_rule (p_0 : Sl) (n_3 : Int) (w : World) (Q : Exit → Env → World → Prop) (I : Sl → Int → World → Prop) (μ : Sl → Int → World → Nat) (h0 : I p_0 n_3 w)
    (h : ∀ (p_0 : Sl) (n_3 : Int) (w' : World), I p_0 n_3 w' → B4 std p_0 n_3 w' (fun e2 w2 => ∃ p_0_n n_3_n, e2 = emb4 p_0_n n_3_n ∧ I p_0_n n_3_n w2 ∧ μ p_0_n n_3_n w2 < μ p_0 n_3 w') Q) :
    L4 std p_0 n_3 w Q := by
  unfold L4
  refine LoopE.intro (σ := Sl × Int) (step := S4 std Q) (fun s => emb4 s.1 s.2) (fun s w => I s.1 s.2 w) (fun s w => μ s.1 s.2 w) (p_0, n_3) rfl h0 ?_
  intro s w' hI
  have h1 := h s.1 s.2 w' hI
  unfold B4 at h1
  simp only [Prod.exists]
  exact h1
theorem A4_0_eq (pr : Prims) (n_3 : Int) (w : World) (R : Ending → World → Prop) : (q3 pr R) (.exit 0) (x0 n_3) w = (
  R (.returned (vI n_3)) w) := by kernel_rfl
theorem A4_0_s (n_3 : Int) (w : World) (R : Ending → World → Prop) : (q3 std R) (.exit 0) (x0 n_3) w = (
  R (.returned (vI n_3)) w) := A4_0_eq std n_3 w R
theorem E_eq (pr : Prims) (p_0 : Sl) (w : World) (R : Ending → World → Prop) : E pr p_0 w R = (
  pr.call1 .bool PP F.spec_IsPerm #[Sl.v p_0] w fun (ρ0 : Bool) ω1 =>
  bif !ρ0 then (
  R (.returned (vI (-1))) ω1)
  else (
  L4 pr p_0 0 ω1 (q3 pr R))) := by kernel_rfl
theorem E_s (p_0 : Sl) (w : World) (R : Ending → World → Prop) : E std p_0 w R = (
  call1 .bool PP F.spec_IsPerm #[Sl.v p_0] w fun (ρ0 : Bool) ω1 =>
  bif !ρ0 then (
  R (.returned (vI (-1))) ω1)
  else (
  L4 std p_0 0 ω1 (q3 std R))) := E_eq std p_0 w R
theorem drawsOk : drawsOk PP cfg okD (codeOf Try.f20) = true := by kernel_rfl
theorem calls (p_0 : Sl) {w : World} {R : Ending → World → Prop} (h : E std p_0 w R) : Calls PP F.spec_StackTimes #[Sl.v p_0] w R :=
  calls_of noCount mixed drawOk Try.func20 rfl (c := cfg) (args := [Sl.v p_0]) rfl (Nat.le_of_ble_eq_true (by kernel_rfl)) drawsOk h
end spec_StackTimes

namespace impl_isForm
@[reducible] def cfg : Cfg := ⟨41, [(3, [0, 1, 5, 8, 9, 10])], [(1, [0, 1, 5, 8, 9, 10]), (0, [])], [], [4], [], [101, 107, 112, 15, 21, 124, 76, 137, 28, 115, 91, 81, 130], [138, 140, 82, 6, 86, 85, 132]⟩
def q0 (pr : Prims) (R : Ending → World → Prop) : Exit → Env → World → Prop := fun ex e w => normQ ex (fun e w => contE pr cfg (sub (codeOf Try.f112) [1, 1, 1]) (fun e w => wpC pr PP cfg (DD pr) (sub (codeOf Try.f112) [1, 1, 1]) (retQ Try.f112.results.toList R) e w) e w) (retQ Try.f112.results.toList R) e w
def q1 (pr : Prims) (R : Ending → World → Prop) : Exit → Env → World → Prop := fun ex e w => blockQ ex 0 (q0 pr R) e w
def emb3 (form_0 : Sl) (most_1 : Int) (sum_5 : Int) (t8 : Sl) (t9 : Int) (t10 : Int) : Env := [(0, Sl.v form_0), (1, vI most_1), (5, vI sum_5), (8, Sl.v t8), (9, vI t9), (10, vI t10)]
def x0 : Env := []
def S3 (pr : Prims) (Q : Exit → Env → World → Prop) : (Env → World → Prop) → Env → World → Prop := fun k e w => wpC pr PP cfg (DD pr) (sub (codeOf Try.f112) [1, 1, 0, 1, 0, 0]) (fun ex e w => normQ ex (fun e' w' => k (Env.restr e' (lookN cfg.loops (keyOf (sub (codeOf Try.f112) [1, 1, 0, 1, 0, 0])))) w') Q e w) e w
def B3 (pr : Prims) (form_0 : Sl) (most_1 : Int) (sum_5 : Int) (t8 : Sl) (t9 : Int) (t10 : Int) (w : World) (k : Env → World → Prop) (Q : Exit → Env → World → Prop) : Prop :=
  S3 pr Q k (emb3 form_0 most_1 sum_5 t8 t9 t10) w
def L3 (pr : Prims) (form_0 : Sl) (most_1 : Int) (sum_5 : Int) (t8 : Sl) (t9 : Int) (t10 : Int) (w : World) (Q : Exit → Env → World → Prop) : Prop :=
  pr.loop (S3 pr Q) (emb3 form_0 most_1 sum_5 t8 t9 t10) w
def E (pr : Prims) (form_0 : Sl) (most_1 : Int) (w : World) (R : Ending → World → Prop) : Prop :=
  wpC pr PP cfg (DD pr) (codeOf Try.f112) (retQ Try.f112.results.toList R) (argE 0 [Sl.v form_0, vI most_1]) w
theorem B3_eq (pr : Prims) (form_0 : Sl) (most_1 : Int) (sum_5 : Int) (t8 : Sl) (t9 : Int) (t10 : Int) (w : World) (k : Env → World → Prop) (Q : Exit → Env → World → Prop) : B3 pr form_0 most_1 sum_5 t8 t9 t10 w k Q = (
  bif decide (t10 < t9) then (
  pr.idxK 1 t8 t10 fun (a2 : Addr) =>
  pr.load1 (.int .i64) a2 w fun (ξ3 : Int) =>
  bif decide (ξ3 < 1) then (
  Q .ret [(4, .bool false)] w)
  else (
  bif decide (ξ3 > (w64 (most_1 - sum_5))) then (
  Q .ret [(4, .bool false)] w)
  else (
  bif decide (t10 > 0) then (
  pr.idxK 1 form_0 (w64 (t10 - 1)) fun (a4 : Addr) =>
  pr.load1 (.int .i64) a4 w fun (ξ5 : Int) =>
  bif decide (ξ3 > ξ5) then (
  Q .ret [(4, .bool false)] w)
  else (
  k (emb3 form_0 most_1 (w64 (sum_5 + ξ3)) t8 t9 (w64 (t10 + 1))) w))
  else (
  k (emb3 form_0 most_1 (w64 (sum_5 + ξ3)) t8 t9 (w64 (t10 + 1))) w))))
  else (
  Q (.exit 0) (x0) w)) := by kernel_rfl
theorem B3_s (form_0 : Sl) (most_1 : Int) (sum_5 : Int) (t8 : Sl) (t9 : Int) (t10 : Int) (w : World) (k : Env → World → Prop) (Q : Exit → Env → World → Prop) : B3 std form_0 most_1 sum_5 t8 t9 t10 w k Q = (
  bif decide (t10 < t9) then (
  idxK 1 t8 t10 fun (a2 : Addr) =>
  load1 (.int .i64) a2 w fun (ξ3 : Int) =>
  bif decide (ξ3 < 1) then (
  Q .ret [(4, .bool false)] w)
  else (
  bif decide (ξ3 > (w64 (most_1 - sum_5))) then (
  Q .ret [(4, .bool false)] w)
  else (
  bif decide (t10 > 0) then (
  idxK 1 form_0 (w64 (t10 - 1)) fun (a4 : Addr) =>
  load1 (.int .i64) a4 w fun (ξ5 : Int) =>
  bif decide (ξ3 > ξ5) then (
  Q .ret [(4, .bool false)] w)
  else (
  k (emb3 form_0 most_1 (w64 (sum_5 + ξ3)) t8 t9 (w64 (t10 + 1))) w))
  else (
  k (emb3 form_0 most_1 (w64 (sum_5 + ξ3)) t8 t9 (w64 (t10 + 1))) w))))
  else (
  Q (.exit 0) (x0) w)) := B3_eq std form_0 most_1 sum_5 t8 t9 t10 w k Q
theorem L3_rule (form_0 : Sl) (most_1 : Int) (sum_5 : Int) (t8 : Sl) (t9 : Int) (t10 : Int) (w : World) (Q : Exit → Env → World → Prop) (I : Int → Int → World → Prop) (μ : Int → Int → World → Nat) (h0 : I sum_5 t10 w)
    (h : ∀ (sum_5 : Int) (t10 : Int) (w' : World), I sum_5 t10 w' → B3 std form_0 most_1 sum_5 t8 t9 t10 w' (fun e2 w2 => ∃ sum_5_n t10_n, e2 = emb3 form_0 most_1 sum_5_n t8 t9 t10_n ∧ I sum_5_n t10_n w2 ∧ μ sum_5_n t10_n w2 < μ sum_5 t10 w') Q) :
    L3 std form_0 most_1 sum_5 t8 t9 t10 w Q := by
  unfold L3
  refine LoopE.intro (σ := Int × Int) (step := S3 std Q) (fun s => emb3 form_0 most_1 s.1 t8 t9 s.2) (fun s w => I s.1 s.2 w) (fun s w => μ s.1 s.2 w) (sum_5, t10) rfl h0 ?_
  intro s w' hI
  have h1 := h s.1 s.2 w' hI
  unfold B3 at h1
  simp only [Prod.exists]
  exact h1
theorem A3_0_eq (pr : Prims) (w : World) (R : Ending → World → Prop) : (q1 pr R) (.exit 0) (x0) w = (
  R (.returned (.bool true)) w) := by kernel_rfl
theorem A3_0_s (w : World) (R : Ending → World → Prop) : (q1 std R) (.exit 0) (x0) w = (
  R (.returned (.bool true)) w) := A3_0_eq std w R
theorem R3_eq (pr : Prims) (v4 : Value) (w : World) (R : Ending → World → Prop) : (q1 pr R) .ret [(4, v4)] w = (
  R (.returned (v4)) w) := by kernel_rfl
theorem R3_s (v4 : Value) (w : World) (R : Ending → World → Prop) : (q1 std R) .ret [(4, v4)] w = (
  R (.returned (v4)) w) := R3_eq std v4 w R
theorem E_eq (pr : Prims) (form_0 : Sl) (most_1 : Int) (w : World) (R : Ending → World → Prop) : E pr form_0 most_1 w R = (
  L3 pr form_0 most_1 0 form_0 (form_0.n : Int) 0 w (q1 pr R)) := by kernel_rfl
theorem E_s (form_0 : Sl) (most_1 : Int) (w : World) (R : Ending → World → Prop) : E std form_0 most_1 w R = (
  L3 std form_0 most_1 0 form_0 (form_0.n : Int) 0 w (q1 std R)) := E_eq std form_0 most_1 w R
theorem drawsOk : drawsOk PP cfg okD (codeOf Try.f112) = true := by kernel_rfl
theorem calls (form_0 : Sl) (most_1 : Int) {w : World} {R : Ending → World → Prop} (h : E std form_0 most_1 w R) : Calls PP F.impl_isForm #[Sl.v form_0, vI most_1] w R :=
  calls_of noCount mixed drawOk Try.func112 rfl (c := cfg) (args := [Sl.v form_0, vI most_1]) rfl (Nat.le_of_ble_eq_true (by kernel_rfl)) drawsOk h
end impl_isForm

namespace spec_l19Form
@[reducible] def cfg : Cfg := ⟨56, [(3, [0, 1, 5, 6])], [(1, [0, 1, 5, 6]), (0, [1, 5])], [], [4], [5], [101, 107, 112, 15, 21, 124, 76, 137, 28, 115, 91, 81, 130], [138, 140, 82, 6, 86, 85, 132]⟩
def q0 (pr : Prims) (R : Ending → World → Prop) : Exit → Env → World → Prop := fun ex e w => normQ ex (fun e w => contE pr cfg (sub (codeOf Try.f115) [1, 1, 1]) (fun e w => wpC pr PP cfg (DD pr) (sub (codeOf Try.f115) [1, 1, 1]) (retQ Try.f115.results.toList R) e w) e w) (retQ Try.f115.results.toList R) e w
def q1 (pr : Prims) (R : Ending → World → Prop) : Exit → Env → World → Prop := fun ex e w => blockQ ex 0 (q0 pr R) e w
def emb3 (form_0 : Sl) (most_1 : Int) (sum_5 : Int) (k_6 : Int) : Env := [(0, Sl.v form_0), (1, vI most_1), (5, vI sum_5), (6, vI k_6)]
def x0 (most_1 : Int) (sum_5 : Int) : Env := [(1, vI most_1), (5, vI sum_5)]
def S3 (pr : Prims) (Q : Exit → Env → World → Prop) : (Env → World → Prop) → Env → World → Prop := fun k e w => wpC pr PP cfg (DD pr) (sub (codeOf Try.f115) [1, 1, 0, 1, 0, 0]) (fun ex e w => normQ ex (fun e' w' => k (Env.restr e' (lookN cfg.loops (keyOf (sub (codeOf Try.f115) [1, 1, 0, 1, 0, 0])))) w') Q e w) e w
def B3 (pr : Prims) (form_0 : Sl) (most_1 : Int) (sum_5 : Int) (k_6 : Int) (w : World) (k : Env → World → Prop) (Q : Exit → Env → World → Prop) : Prop :=
  S3 pr Q k (emb3 form_0 most_1 sum_5 k_6) w
def L3 (pr : Prims) (form_0 : Sl) (most_1 : Int) (sum_5 : Int) (k_6 : Int) (w : World) (Q : Exit → Env → World → Prop) : Prop :=
  pr.loop (S3 pr Q) (emb3 form_0 most_1 sum_5 k_6) w
def E (pr : Prims) (form_0 : Sl) (most_1 : Int) (w : World) (R : Ending → World → Prop) : Prop :=
  wpC pr PP cfg (DD pr) (codeOf Try.f115) (retQ Try.f115.results.toList R) (argE 0 [Sl.v form_0, vI most_1]) w
theorem B3_eq (pr : Prims) (form_0 : Sl) (most_1 : Int) (sum_5 : Int) (k_6 : Int) (w : World) (k : Env → World → Prop) (Q : Exit → Env → World → Prop) : B3 pr form_0 most_1 sum_5 k_6 w k Q = (
  bif decide (k_6 < (form_0.n : Int)) then (
  pr.idxK 1 form_0 k_6 fun (a2 : Addr) =>
  pr.load1 (.int .i64) a2 w fun (ξ3 : Int) =>
  bif decide (ξ3 < 1) then (
  pr.drewAll w fun ω4 =>
  Q .ret [(4, .bool false)] ω4)
  else (
  pr.idxK 1 form_0 k_6 fun (a5 : Addr) =>
  pr.load1 (.int .i64) a5 w fun (ξ6 : Int) =>
  bif decide (ξ6 > most_1) then (
  pr.drewAll w fun ω7 =>
  Q .ret [(4, .bool false)] ω7)
  else (
  bif decide (k_6 > 0) then (
  pr.idxK 1 form_0 k_6 fun (a8 : Addr) =>
  pr.load1 (.int .i64) a8 w fun (ξ9 : Int) =>
  pr.idxK 1 form_0 (w64 (k_6 - 1)) fun (a10 : Addr) =>
  pr.load1 (.int .i64) a10 w fun (ξ11 : Int) =>
  bif decide (ξ9 > ξ11) then (
  pr.drewAll w fun ω12 =>
  Q .ret [(4, .bool false)] ω12)
  else (
  pr.drewAll w fun ω13 =>
  bif decide (k_6 ≥ most_1) then (
  Q .ret [(4, .bool false)] ω13)
  else (
  pr.idxK 1 form_0 k_6 fun (a14 : Addr) =>
  pr.load1 (.int .i64) a14 ω13 fun (ξ15 : Int) =>
  k (emb3 form_0 most_1 (w64 (sum_5 + ξ15)) (w64 (k_6 + 1))) ω13)))
  else (
  pr.drewAll w fun ω16 =>
  bif decide (k_6 ≥ most_1) then (
  Q .ret [(4, .bool false)] ω16)
  else (
  pr.idxK 1 form_0 k_6 fun (a17 : Addr) =>
  pr.load1 (.int .i64) a17 ω16 fun (ξ18 : Int) =>
  k (emb3 form_0 most_1 (w64 (sum_5 + ξ18)) (w64 (k_6 + 1))) ω16)))))
  else (
  Q (.exit 0) (x0 most_1 sum_5) w)) := by kernel_rfl
theorem B3_s (form_0 : Sl) (most_1 : Int) (sum_5 : Int) (k_6 : Int) (w : World) (k : Env → World → Prop) (Q : Exit → Env → World → Prop) : B3 std form_0 most_1 sum_5 k_6 w k Q = (
  bif decide (k_6 < (form_0.n : Int)) then (
  idxK 1 form_0 k_6 fun (a2 : Addr) =>
  load1 (.int .i64) a2 w fun (ξ3 : Int) =>
  bif decide (ξ3 < 1) then (
  drewAll w fun ω4 =>
  Q .ret [(4, .bool false)] ω4)
  else (
  idxK 1 form_0 k_6 fun (a5 : Addr) =>
  load1 (.int .i64) a5 w fun (ξ6 : Int) =>
  bif decide (ξ6 > most_1) then (
  drewAll w fun ω7 =>
  Q .ret [(4, .bool false)] ω7)
  else (
  bif decide (k_6 > 0) then (
  idxK 1 form_0 k_6 fun (a8 : Addr) =>
  load1 (.int .i64) a8 w fun (ξ9 : Int) =>
  idxK 1 form_0 (w64 (k_6 - 1)) fun (a10 : Addr) =>
  load1 (.int .i64) a10 w fun (ξ11 : Int) =>
  bif decide (ξ9 > ξ11) then (
  drewAll w fun ω12 =>
  Q .ret [(4, .bool false)] ω12)
  else (
  drewAll w fun ω13 =>
  bif decide (k_6 ≥ most_1) then (
  Q .ret [(4, .bool false)] ω13)
  else (
  idxK 1 form_0 k_6 fun (a14 : Addr) =>
  load1 (.int .i64) a14 ω13 fun (ξ15 : Int) =>
  k (emb3 form_0 most_1 (w64 (sum_5 + ξ15)) (w64 (k_6 + 1))) ω13)))
  else (
  drewAll w fun ω16 =>
  bif decide (k_6 ≥ most_1) then (
  Q .ret [(4, .bool false)] ω16)
  else (
  idxK 1 form_0 k_6 fun (a17 : Addr) =>
  load1 (.int .i64) a17 ω16 fun (ξ18 : Int) =>
  k (emb3 form_0 most_1 (w64 (sum_5 + ξ18)) (w64 (k_6 + 1))) ω16)))))
  else (
  Q (.exit 0) (x0 most_1 sum_5) w)) := B3_eq std form_0 most_1 sum_5 k_6 w k Q
theorem L3_rule (form_0 : Sl) (most_1 : Int) (sum_5 : Int) (k_6 : Int) (w : World) (Q : Exit → Env → World → Prop) (I : Int → Int → World → Prop) (μ : Int → Int → World → Nat) (h0 : I sum_5 k_6 w)
    (h : ∀ (sum_5 : Int) (k_6 : Int) (w' : World), I sum_5 k_6 w' → B3 std form_0 most_1 sum_5 k_6 w' (fun e2 w2 => ∃ sum_5_n k_6_n, e2 = emb3 form_0 most_1 sum_5_n k_6_n ∧ I sum_5_n k_6_n w2 ∧ μ sum_5_n k_6_n w2 < μ sum_5 k_6 w') Q) :
    L3 std form_0 most_1 sum_5 k_6 w Q := by
  unfold L3
  refine LoopE.intro (σ := Int × Int) (step := S3 std Q) (fun s => emb3 form_0 most_1 s.1 s.2) (fun s w => I s.1 s.2 w) (fun s w => μ s.1 s.2 w) (sum_5, k_6) rfl h0 ?_
  intro s w' hI
  have h1 := h s.1 s.2 w' hI
  unfold B3 at h1
  simp only [Prod.exists]
  exact h1
theorem A3_0_eq (pr : Prims) (most_1 : Int) (sum_5 : Int) (w : World) (R : Ending → World → Prop) : (q1 pr R) (.exit 0) (x0 most_1 sum_5) w = (
  R (.returned (.bool (decide (sum_5 ≤ most_1)))) w) := by kernel_rfl
theorem A3_0_s (most_1 : Int) (sum_5 : Int) (w : World) (R : Ending → World → Prop) : (q1 std R) (.exit 0) (x0 most_1 sum_5) w = (
  R (.returned (.bool (decide (sum_5 ≤ most_1)))) w) := A3_0_eq std most_1 sum_5 w R
theorem R3_eq (pr : Prims) (v4 : Value) (w : World) (R : Ending → World → Prop) : (q1 pr R) .ret [(4, v4)] w = (
  R (.returned (v4)) w) := by kernel_rfl
theorem R3_s (v4 : Value) (w : World) (R : Ending → World → Prop) : (q1 std R) .ret [(4, v4)] w = (
  R (.returned (v4)) w) := R3_eq std v4 w R
theorem E_eq (pr : Prims) (form_0 : Sl) (most_1 : Int) (w : World) (R : Ending → World → Prop) : E pr form_0 most_1 w R = (
  L3 pr form_0 most_1 0 0 w (q1 pr R)) := by kernel_rfl
theorem E_s (form_0 : Sl) (most_1 : Int) (w : World) (R : Ending → World → Prop) : E std form_0 most_1 w R = (
  L3 std form_0 most_1 0 0 w (q1 std R)) := E_eq std form_0 most_1 w R
theorem drawsOk : drawsOk PP cfg okD (codeOf Try.f115) = true := by kernel_rfl
theorem calls (form_0 : Sl) (most_1 : Int) {w : World} {R : Ending → World → Prop} (h : E std form_0 most_1 w R) : Calls PP F.spec_l19Form #[Sl.v form_0, vI most_1] w R :=
  calls_of noCount mixed drawOk Try.func115 rfl (c := cfg) (args := [Sl.v form_0, vI most_1]) rfl (Nat.le_of_ble_eq_true (by kernel_rfl)) drawsOk h
end spec_l19Form

namespace spec_l1Max
@[reducible] def cfg : Cfg := ⟨10, [], [], [], [4], [], [101, 107, 112, 15, 21, 124, 76, 137, 28, 115, 91, 81, 130], [138, 140, 82, 6, 86, 85, 132]⟩
def E (pr : Prims) (a_0 : Int) (b_1 : Int) (w : World) (R : Ending → World → Prop) : Prop :=
  wpC pr PP cfg (DD pr) (codeOf Try.f132) (retQ Try.f132.results.toList R) (argE 0 [vI a_0, vI b_1]) w
theorem E_eq (pr : Prims) (a_0 : Int) (b_1 : Int) (w : World) (R : Ending → World → Prop) : E pr a_0 b_1 w R = (
  bif decide (a_0 > b_1) then (
  R (.returned (vI a_0)) w)
  else (
  R (.returned (vI b_1)) w)) := by kernel_rfl
theorem E_s (a_0 : Int) (b_1 : Int) (w : World) (R : Ending → World → Prop) : E std a_0 b_1 w R = (
  bif decide (a_0 > b_1) then (
  R (.returned (vI a_0)) w)
  else (
  R (.returned (vI b_1)) w)) := E_eq std a_0 b_1 w R
theorem drawsOk : drawsOk PP cfg okD (codeOf Try.f132) = true := by kernel_rfl
theorem calls (a_0 : Int) (b_1 : Int) {w : World} {R : Ending → World → Prop} (h : E std a_0 b_1 w R) : Calls PP F.spec_l1Max #[vI a_0, vI b_1] w R :=
  calls_of noCount mixed drawOk Try.func132 rfl (c := cfg) (args := [vI a_0, vI b_1]) rfl (Nat.le_of_ble_eq_true (by kernel_rfl)) drawsOk h
end spec_l1Max

namespace impl_isSix
@[reducible] def cfg : Cfg := ⟨9, [], [], [], [2], [], [101, 107, 112, 15, 21, 124, 76, 137, 28, 115, 91, 81, 130], [138, 140, 82, 6, 86, 85, 132]⟩
def E (pr : Prims) (n_0 : Int) (w : World) (R : Ending → World → Prop) : Prop :=
  wpC pr PP cfg (DD pr) (codeOf Try.f82) (retQ Try.f82.results.toList R) (argE 0 [vI n_0]) w
theorem E_eq (pr : Prims) (n_0 : Int) (w : World) (R : Ending → World → Prop) : E pr n_0 w R = (
  bif decide (n_0 ≥ 0) then (
  R (.returned (.bool (decide (n_0 ≤ 6)))) w)
  else (
  R (.returned (.bool false)) w)) := by kernel_rfl
theorem E_s (n_0 : Int) (w : World) (R : Ending → World → Prop) : E std n_0 w R = (
  bif decide (n_0 ≥ 0) then (
  R (.returned (.bool (decide (n_0 ≤ 6)))) w)
  else (
  R (.returned (.bool false)) w)) := E_eq std n_0 w R
theorem drawsOk : drawsOk PP cfg okD (codeOf Try.f82) = true := by kernel_rfl
theorem calls (n_0 : Int) {w : World} {R : Ending → World → Prop} (h : E std n_0 w R) : Calls PP F.impl_isSix #[vI n_0] w R :=
  calls_of noCount mixed drawOk Try.func82 rfl (c := cfg) (args := [vI n_0]) rfl (Nat.le_of_ble_eq_true (by kernel_rfl)) drawsOk h
end impl_isSix

namespace cmp_isNaN_int_
@[reducible] def cfg : Cfg := ⟨6, [], [], [], [2], [], [101, 107, 112, 15, 21, 124, 76, 137, 28, 115, 91, 81, 130], [138, 140, 82, 6, 86, 85, 132]⟩
def E (pr : Prims) (x_0 : Int) (w : World) (R : Ending → World → Prop) : Prop :=
  wpC pr PP cfg (DD pr) (codeOf Try.f140) (retQ Try.f140.results.toList R) (argE 0 [vI x_0]) w
theorem E_eq (pr : Prims) (x_0 : Int) (w : World) (R : Ending → World → Prop) : E pr x_0 w R = (
  R (.returned (.bool (x_0 != x_0))) w) := by kernel_rfl
theorem E_s (x_0 : Int) (w : World) (R : Ending → World → Prop) : E std x_0 w R = (
  R (.returned (.bool (x_0 != x_0))) w) := E_eq std x_0 w R
theorem drawsOk : drawsOk PP cfg okD (codeOf Try.f140) = true := by kernel_rfl
theorem calls (x_0 : Int) {w : World} {R : Ending → World → Prop} (h : E std x_0 w R) : Calls PP F.cmp_isNaN_int_ #[vI x_0] w R :=
  calls_of noCount mixed drawOk Try.func140 rfl (c := cfg) (args := [vI x_0]) rfl (Nat.le_of_ble_eq_true (by kernel_rfl)) drawsOk h
end cmp_isNaN_int_

namespace spec_IdentityPerm
@[reducible] def cfg : Cfg := ⟨20, [(3, [0, 3, 4])], [(1, [0, 3, 4]), (0, [3])], [], [2], [], [101, 107, 112, 15, 21, 124, 76, 137, 28, 115, 91, 81, 130], [138, 140, 82, 6, 86, 85, 132]⟩
def q2 (pr : Prims) (R : Ending → World → Prop) : Exit → Env → World → Prop := fun ex e w => normQ ex (fun e w => contE pr cfg (sub (codeOf Try.f96) [1, 1, 1]) (fun e w => wpC pr PP cfg (DD pr) (sub (codeOf Try.f96) [1, 1, 1]) (retQ Try.f96.results.toList R) e w) e w) (retQ Try.f96.results.toList R) e w
def q3 (pr : Prims) (R : Ending → World → Prop) : Exit → Env → World → Prop := fun ex e w => blockQ ex 0 (q2 pr R) e w
def emb3 (n_0 : Int) (out_3 : Sl) (k_4 : Int) : Env := [(0, vI n_0), (3, Sl.v out_3), (4, vI k_4)]
def x0 (out_3 : Sl) : Env := [(3, Sl.v out_3)]
def S3 (pr : Prims) (Q : Exit → Env → World → Prop) : (Env → World → Prop) → Env → World → Prop := fun k e w => wpC pr PP cfg (DD pr) (sub (codeOf Try.f96) [1, 1, 0, 1, 0, 0]) (fun ex e w => normQ ex (fun e' w' => k (Env.restr e' (lookN cfg.loops (keyOf (sub (codeOf Try.f96) [1, 1, 0, 1, 0, 0])))) w') Q e w) e w
def B3 (pr : Prims) (n_0 : Int) (out_3 : Sl) (k_4 : Int) (w : World) (k : Env → World → Prop) (Q : Exit → Env → World → Prop) : Prop :=
  S3 pr Q k (emb3 n_0 out_3 k_4) w
def L3 (pr : Prims) (n_0 : Int) (out_3 : Sl) (k_4 : Int) (w : World) (Q : Exit → Env → World → Prop) : Prop :=
  pr.loop (S3 pr Q) (emb3 n_0 out_3 k_4) w
def E (pr : Prims) (n_0 : Int) (w : World) (R : Ending → World → Prop) : Prop :=
  wpC pr PP cfg (DD pr) (codeOf Try.f96) (retQ Try.f96.results.toList R) (argE 0 [vI n_0]) w
theorem B3_eq (pr : Prims) (n_0 : Int) (out_3 : Sl) (k_4 : Int) (w : World) (k : Env → World → Prop) (Q : Exit → Env → World → Prop) : B3 pr n_0 out_3 k_4 w k Q = (
  bif decide (k_4 ≤ n_0) then (
  bif decide (n_0 ≤ 8) then (
  pr.sem1 .sl PP (Instr.buildSlice T_Sint 1 #[(0, vI k_4)]) w fun (ρ4 : Sl) ω5 =>
  pr.sem1 .sl PP (Builtin.append_ #[T_Sint, T_Sint] T_Sint #[Sl.v out_3, Sl.v ρ4]) ω5 fun (ρ6 : Sl) ω7 =>
  k (emb3 n_0 ρ6 (w64 (k_4 + 1))) ω7)
  else (
  Q (.exit 0) (x0 out_3) w))
  else (
  Q (.exit 0) (x0 out_3) w)) := by kernel_rfl
theorem B3_s (n_0 : Int) (out_3 : Sl) (k_4 : Int) (w : World) (k : Env → World → Prop) (Q : Exit → Env → World → Prop) : B3 std n_0 out_3 k_4 w k Q = (
  bif decide (k_4 ≤ n_0) then (
  bif decide (n_0 ≤ 8) then (
  sem1 .sl PP (Instr.buildSlice T_Sint 1 #[(0, vI k_4)]) w fun (ρ4 : Sl) ω5 =>
  sem1 .sl PP (Builtin.append_ #[T_Sint, T_Sint] T_Sint #[Sl.v out_3, Sl.v ρ4]) ω5 fun (ρ6 : Sl) ω7 =>
  k (emb3 n_0 ρ6 (w64 (k_4 + 1))) ω7)
  else (
  Q (.exit 0) (x0 out_3) w))
  else (
  Q (.exit 0) (x0 out_3) w)) := B3_eq std n_0 out_3 k_4 w k Q
theorem L3_rule (n_0 : Int) (out_3 : Sl) (k_4 : Int) (w : World) (Q : Exit → Env → World → Prop) (I : Sl → Int → World → Prop) (μ : Sl → Int → World → Nat) (h0 : I out_3 k_4 w)
    (h : ∀ (out_3 : Sl) (k_4 : Int) (w' : World), I out_3 k_4 w' → B3 std n_0 out_3 k_4 w' (fun e2 w2 => ∃ out_3_n k_4_n, e2 = emb3 n_0 out_3_n k_4_n ∧ I out_3_n k_4_n w2 ∧ μ out_3_n k_4_n w2 < μ out_3 k_4 w') Q) :
    L3 std n_0 out_3 k_4 w Q := by
  unfold L3
  refine LoopE.intro (σ := Sl × Int) (step := S3 std Q) (fun s => emb3 n_0 s.1 s.2) (fun s w => I s.1 s.2 w) (fun s w => μ s.1 s.2 w) (out_3, k_4) rfl h0 ?_
  intro s w' hI
  have h1 := h s.1 s.2 w' hI
  unfold B3 at h1
  simp only [Prod.exists]
  exact h1
theorem A3_0_eq (pr : Prims) (out_3 : Sl) (w : World) (R : Ending → World → Prop) : (q3 pr R) (.exit 0) (x0 out_3) w = (
  R (.returned (Sl.v out_3)) w) := by kernel_rfl
theorem A3_0_s (out_3 : Sl) (w : World) (R : Ending → World → Prop) : (q3 std R) (.exit 0) (x0 out_3) w = (
  R (.returned (Sl.v out_3)) w) := A3_0_eq std out_3 w R
theorem E_eq (pr : Prims) (n_0 : Int) (w : World) (R : Ending → World → Prop) : E pr n_0 w R = (
  pr.sem1 .sl PP (Instr.buildSlice T_Sint 0 #[]) w fun (ρ0 : Sl) ω1 =>
  L3 pr n_0 ρ0 1 ω1 (q3 pr R)) := by kernel_rfl
theorem E_s (n_0 : Int) (w : World) (R : Ending → World → Prop) : E std n_0 w R = (
  sem1 .sl PP (Instr.buildSlice T_Sint 0 #[]) w fun (ρ0 : Sl) ω1 =>
  L3 std n_0 ρ0 1 ω1 (q3 std R)) := E_eq std n_0 w R
theorem drawsOk : drawsOk PP cfg okD (codeOf Try.f96) = true := by kernel_rfl
theorem calls (n_0 : Int) {w : World} {R : Ending → World → Prop} (h : E std n_0 w R) : Calls PP F.spec_IdentityPerm #[vI n_0] w R :=
  calls_of noCount mixed drawOk Try.func96 rfl (c := cfg) (args := [vI n_0]) rfl (Nat.le_of_ble_eq_true (by kernel_rfl)) drawsOk h
end spec_IdentityPerm

end Go.Proofs.Ytdchjhhpbdekeaa

/- Small helpers of the model text. -/
namespace Go.Proofs.Ytdchjhhpbdekeaa
open Go Go.RowKit
set_option maxRecDepth 100000

theorem c_l1In (n lo hi : Int) : Pure F.spec_l1In #[vI n, vI lo, vI hi] (.bool (decide (lo ≤ n) && decide (n ≤ hi))) := by
  intro w
  refine spec_l1In.calls n lo hi ?_
  rw [spec_l1In.E_s]
  refine bif_dec (fun h => ?_) (fun h => ?_)
  · have h' : lo ≤ n := h
    simp [h']
  · have h' : ¬ lo ≤ n := h
    simp [h']
theorem c_l1Bit (b : Bool) : Pure F.spec_l1Bit #[.bool b] (vI (if b then 1 else 0)) := by
  intro w
  refine spec_l1Bit.calls b ?_
  rw [spec_l1Bit.E_s]
  cases b <;> simp
end Go.Proofs.Ytdchjhhpbdekeaa

/- The laws' helpers over rows of ints: the copy and the comparison. -/
namespace Go.Proofs.Ytdchjhhpbdekeaa
open Go Go.RowKit
set_option maxRecDepth 100000

theorem take_step {α : Type} (L : List α) (z : α) {i : Nat} (hi : i < L.length) : (L.take i ++ List.replicate (L.length - i) z).set i L[i] = L.take (i + 1) ++ List.replicate (L.length - (i + 1)) z := by
  have h1 : List.replicate (L.length - i) z = z :: List.replicate (L.length - (i + 1)) z := by
    rw [show L.length - i = (L.length - (i + 1)) + 1 by omega, List.replicate_succ]
  have h2 : (L.take i).length = i := by simp; omega
  have h3 : L.take (i + 1) = L.take i ++ [L[i]] := by simp
  rw [h1, List.set_append_right _ _ (by omega), h2, Nat.sub_self, List.set_cons_zero, h3, List.append_assoc]
  rfl
theorem getD_eq {L : List Int} {i : Nat} (hi : i < L.length) : L.getD i 0 = L[i] := by simp [List.getD_eq_getElem?_getD, List.getElem?_eq_getElem hi]

end Go.Proofs.Ytdchjhhpbdekeaa

/- Both tests of a permutation answer alike. -/
namespace Go.Proofs.Ytdchjhhpbdekeaa
open Go Go.RowKit
set_option maxRecDepth 100000

/-- Each of the numbers 1 to the length once. -/
def pOk (L : List Int) (j : Nat) : Prop := 1 ≤ L.getD j 0 ∧ L.getD j 0 ≤ L.length ∧ ∀ i, i < j → L.getD i 0 ≠ L.getD j 0
def PermOk (L : List Int) : Prop := ∀ j, j < L.length → pOk L j
def IsP (L : List Int) : Prop := L.length ≤ 8 ∧ PermOk L
theorem oneBool : OneT T_Sbool T_bool (.bool false) := oneT_of (by kernel_rfl) (by kernel_rfl) rfl

open Classical in
theorem c_isPerm {w : World} {a : Sl} {L : List Int} (ha : RowI w a L) (hL : L.length < 2^38) :
    Calls PP F.impl_isPerm #[a.v] w fun e w' => e = .returned (.bool (decide (PermOk L))) ∧ Below w.heap.size w w' := by
  have han : a.n = L.length := by have := ha.n; simpa using this
  refine impl_isPerm.calls a ?_
  rw [impl_isPerm.E_s]
  rw [w64_succ (n := (a.n : Int)) (by omega) (by omega)]
  refine make_own oneBool (B := w.heap.size) (Nat.le_refl _) (by omega) (by omega) ?_
  intro s w1 hown hg _
  refine impl_isPerm.L3_rule _ _ _ _ _ _ _ (I := fun k w' => 0 ≤ k ∧ k ≤ L.length ∧ Below w.heap.size w w' ∧ (∀ j, j < k.toNat → pOk L j) ∧
      ∃ bs : List Bool, bs.length = L.length + 1 ∧ Own w' w.heap.size T_bool s (bs.map Value.bool) ∧ ∀ v : Nat, v < bs.length → (bs.getD v false = true ↔ ∃ i, i < k.toNat ∧ L.getD i 0 = v)) (μ := fun k _ => (L.length - k).toNat)
    ⟨by omega, by omega, below_of_grow hg, fun j hj => by simp at hj, List.replicate (L.length + 1) false, by simp, by simpa [han] using hown, fun v hv => by simp [List.getD_eq_getElem?_getD, List.getElem?_replicate]; split <;> simp⟩ ?_
  rintro k w' ⟨h0, hk, hb, hall, bs, hbl, hown, hseen⟩
  have hsucc : (k + 1).toNat = k.toNat + 1 := by omega
  have bad : k < L.length → ¬ pOk L k.toNat → impl_isPerm.q3 std (fun e w' => e = .returned (.bool (decide (PermOk L))) ∧ Below w.heap.size w w') .ret [(2, .bool false)] w' := by
    intro hk3 hbd
    rw [impl_isPerm.R3_s]
    have : ¬ PermOk L := fun h => hbd (h k.toNat (by omega))
    exact ⟨by simp [this], hb⟩
  rw [impl_isPerm.B3_s]
  refine bif_dec (fun h3 => ?_) (fun h3 => ?_)
  · have hlt : k.toNat < L.length := by omega
    refine RowI.get (ha.grow hb) h0 (by omega) ?_
    refine bif_dec (fun h4 => bad (by omega) fun hg => by have := hg.1; omega) (fun h4 => ?_)
    refine bif_dec (fun h5 => bad (by omega) fun hg => by have := hg.2.1; omega) (fun h5 => ?_)
    have hx0 : 1 ≤ L.getD k.toNat 0 := by omega
    have hx1 : L.getD k.toNat 0 ≤ L.length := by omega
    generalize hx : L.getD k.toNat 0 = x at hx0 hx1 h4 h5 ⊢
    have hxl : x.toNat < bs.length := by omega
    have hval : (bs.map Value.bool)[x.toNat]? = some (Sh.bool.enc (bs.getD x.toNat false)) := by simp [List.getD_eq_getElem?_getD, List.getElem?_eq_getElem hxl]
    refine Row.get (sh := .bool) hown.row (by omega) hval ?_
    refine bif_intro (fun h6 => bad (by omega) fun hg => ?_) (fun h6 => ?_)
    · obtain ⟨i, hi, he⟩ := (hseen x.toNat hxl).1 h6
      exact hg.2.2 i hi (by rw [he, hx]; omega)
    · refine Own.put hown (by omega) (by simp; omega) ?_
      intro w2 hown2 hg2 _
      refine ⟨k + 1, by rw [w64_succ h0 (by omega)], ⟨by omega, by omega, hb.grown hg2 hb.size (fun g hg => (hown.lt g hg).1), fun j hj => ?_, bs.set x.toNat true, by simpa using hbl, by simpa [List.map_set] using hown2, fun v hv => ?_⟩, by omega⟩
      · by_cases hj2 : j < k.toNat
        · exact hall j hj2
        · have : j = k.toNat := by omega
          subst this
          refine ⟨by omega, by omega, fun i hi he => ?_⟩
          have := (hseen x.toNat hxl).2 ⟨i, hi, by rw [he, hx]; omega⟩
          rw [this] at h6; cases h6
      · rw [hsucc]
        simp only [List.length_set] at hv
        by_cases hvx : x.toNat = v
        · subst hvx
          simp only [List.getD_eq_getElem?_getD, List.getElem?_set, if_pos hxl]
          simp
          exact ⟨k.toNat, by omega, by rw [← List.getD_eq_getElem?_getD, hx]; omega⟩
        · have e1 : (bs.set x.toNat true).getD v false = bs.getD v false := by simp [List.getD_eq_getElem?_getD, List.getElem?_set, hvx]
          rw [e1, hseen v hv]
          constructor
          · rintro ⟨i, hi, he⟩; exact ⟨i, by omega, he⟩
          · rintro ⟨i, hi, he⟩
            by_cases hi2 : i < k.toNat
            · exact ⟨i, hi2, he⟩
            · have : i = k.toNat := by omega
              subst this
              rw [hx] at he; omega
  · rw [impl_isPerm.A3_0_s]
    have : PermOk L := fun j hj => hall j (by omega)
    exact ⟨by simp [this], hb⟩

open Classical in
theorem c_implIsPerm {w : World} {a : Sl} {L : List Int} (ha : RowI w a L) (hL : L.length < 2^38) :
    Calls PP F.impl_IsPerm #[a.v] w fun e w' => e = .returned (.bool (decide (IsP L))) ∧ Below w.heap.size w w' := by
  have han : a.n = L.length := by have := ha.n; simpa using this
  refine impl_IsPerm.calls a ?_
  rw [impl_IsPerm.E_s]
  refine bif_dec (fun h => ?_) (fun h => ?_)
  · refine (c_isPerm ha hL).mono ?_
    rintro e w' ⟨rfl, hb⟩
    refine ⟨_, rfl, ?_, hb⟩
    have : L.length ≤ 8 := by omega
    simp [IsP, this]
  · have : ¬ L.length ≤ 8 := by omega
    exact ⟨by simp [IsP, this], Below.refl _ _⟩

open Classical in
theorem c_l2Has {w : World} {a : Sl} {L : List Int} (ha : RowI w a L) (hL : L.length < 2^38) (n : Int) :
    Quiet F.spec_l2Has #[a.v, vI n] w (.bool (decide (n ∈ L))) := by
  intro w1 hd
  have han : a.n = L.length := by have := ha.n; simpa using this
  refine spec_l2Has.calls a n ?_
  rw [spec_l2Has.E_s]
  refine spec_l2Has.L2_rule _ _ _ _ _ (I := fun k w' => w' = w1 ∧ 0 ≤ k ∧ k ≤ L.length ∧ ∀ j, j < k.toNat → L.getD j 0 ≠ n) (μ := fun k _ => (L.length - k).toNat) ⟨rfl, by omega, by omega, fun j hj => by simp at hj⟩ ?_
  rintro k w' ⟨rfl, h0, hk, hall⟩
  rw [spec_l2Has.B2_s]
  refine bif_dec (fun h3 => ?_) (fun h3 => ?_)
  · have hlt : k.toNat < L.length := by omega
    refine RowI.get (ha.heap hd.heap') h0 (by omega) ?_
    refine bif_intro (fun h4 => ?_) (fun h4 => ?_)
    · rw [spec_l2Has.R2_s]
      have h4 : L.getD k.toNat 0 = n := by simpa using h4
      have : n ∈ L := by rw [← h4, getD_eq hlt]; exact List.getElem_mem hlt
      exact ⟨by simp [this], Drew.refl _⟩
    · have h4 : ¬ L.getD k.toNat 0 = n := by simpa using h4
      refine ⟨k + 1, by rw [w64_succ h0 (by omega)], ⟨rfl, by omega, by omega, fun j hj => ?_⟩, by omega⟩
      by_cases hj2 : j < k.toNat
      · exact hall j hj2
      · have : j = k.toNat := by omega
        subst this; exact h4
  · rw [spec_l2Has.A2_0_s]
    have : n ∉ L := fun h => by
      obtain ⟨i, hi, he⟩ := List.getElem_of_mem h
      exact hall i (by omega) (by rw [getD_eq hi]; exact he)
    exact ⟨by simp [this], Drew.refl _⟩

open Classical in
theorem c_specIsPerm {w : World} {a : Sl} {L : List Int} (ha : RowI w a L) (hL : L.length < 2^38) :
    Quiet F.spec_IsPerm #[a.v] w (.bool (decide (IsP L))) := by
  intro w1 hd
  have han : a.n = L.length := by have := ha.n; simpa using this
  refine spec_IsPerm.calls a ?_
  rw [spec_IsPerm.E_s]
  refine spec_IsPerm.L2_rule _ _ _ _ (I := fun k w' => Drew w1 w' ∧ 0 ≤ k ∧ k ≤ L.length ∧ ∀ j, j < k.toNat → pOk L j) (μ := fun k _ => (L.length - k).toNat) ⟨Drew.refl _, by omega, by omega, fun j hj => by simp at hj⟩ ?_
  rintro k w' ⟨hd2, h0, hk, hall⟩
  have hh : w'.heap = w.heap := (hd.trans hd2).heap'
  rw [spec_IsPerm.B2_s]
  refine bif_dec (fun h3 => bif_dec (fun h4 => ?_) (fun h4 => ?_)) (fun h3 => ?_)
  · have hlt : k.toNat < L.length := by omega
    have nb : ¬ pOk L k.toNat → ¬ IsP L := fun hb h => hb (h.2 k.toNat hlt)
    refine RowI.get (ha.heap hh) h0 (by omega) ?_
    refine Pure.pcall1 (s := .bool) (c_l1In _ _ _) ?_
    refine bif_intro (fun h5 => ?_) (fun h5 => ?_)
    · refine drew_intro fun w2 hd3 => ?_
      rw [spec_IsPerm.R2_s]
      have : ¬ IsP L := nb fun hg => by
        have h1 := hg.1
        have h2 := hg.2.1
        simp [-List.getD_eq_getElem?_getD] at h5
        omega
      exact ⟨by simp [this], hd2.trans hd3⟩
    · have h5 : 1 ≤ L.getD k.toNat 0 ∧ L.getD k.toNat 0 ≤ L.length := by simpa [han] using h5
      refine Row.cut (ha.heap hh) (by simp) (by simpa using h0) (by simp; omega) ?_
      intro t ht
      have ht : RowI w' t (L.take k.toNat) := by simpa [RowI, List.map_take] using ht
      refine RowI.get (ha.heap hh) h0 (by omega) ?_
      refine Quiet.qcall1 (s := .bool) (c_l2Has ht (by simp; omega) _) ?_
      have hmem : L.getD k.toNat 0 ∈ L.take k.toNat ↔ ∃ i, i < k.toNat ∧ L.getD i 0 = L.getD k.toNat 0 := by
        constructor
        · intro h
          obtain ⟨i, hi, he⟩ := List.getElem_of_mem h
          have hi2 : i < k.toNat ∧ i < L.length := by simp at hi; omega
          refine ⟨i, hi2.1, ?_⟩
          rw [getD_eq hi2.2, ← he]; simp
        · rintro ⟨i, hi, he⟩
          rw [← he, getD_eq (show i < L.length by omega)]
          exact List.mem_take_iff_getElem.2 ⟨i, by omega, rfl⟩
      refine drew_intro fun w2 hd3 => ?_
      refine bif_intro (fun h6 => ?_) (fun h6 => ?_)
      · rw [spec_IsPerm.R2_s]
        have h6 := hmem.1 (by simpa using h6)
        have : ¬ IsP L := nb fun hg => by
          obtain ⟨i, hi, he⟩ := h6
          exact hg.2.2 i hi he
        exact ⟨by simp [this], hd2.trans hd3⟩
      · have h6 : ¬ ∃ i, i < k.toNat ∧ L.getD i 0 = L.getD k.toNat 0 := fun h => by
          rw [decide_eq_true (hmem.2 h)] at h6
          cases h6
        refine ⟨k + 1, by rw [w64_succ h0 (by omega)], ⟨hd2.trans hd3, by omega, by omega, fun j hj => ?_⟩, by omega⟩
        by_cases hj2 : j < k.toNat
        · exact hall j hj2
        · have : j = k.toNat := by omega
          subst this; exact ⟨h5.1, h5.2, fun i hi he => h6 ⟨i, hi, he⟩⟩
  · rw [spec_IsPerm.A2_0_s]
    have : ¬ L.length ≤ 8 := by omega
    exact ⟨by simp [IsP, han, this]; omega, hd2⟩
  · rw [spec_IsPerm.A2_0_s]
    have : PermOk L := fun j hj => hall j (by omega)
    exact ⟨by simp [IsP, han, this]; omega, hd2⟩
end Go.Proofs.Ytdchjhhpbdekeaa

/- Permutations as lists: plain facts, no program in sight. -/
namespace Go.Proofs.Ytdchjhhpbdekeaa
open Go
set_option maxRecDepth 100000

/-- 1, 2, .., n -/
def idn (n : Nat) : List Int := (List.range n).map fun (i : Nat) => (i : Int) + 1
theorem idn_length (n : Nat) : (idn n).length = n := by simp [idn]
theorem idn_succ (n : Nat) : idn (n + 1) = idn n ++ [(n : Int) + 1] := by simp [idn, List.range_succ]
theorem mem_idn {n : Nat} {x : Int} : x ∈ idn n ↔ 1 ≤ x ∧ x ≤ n := by
  simp only [idn, List.mem_map, List.mem_range]
  constructor
  · rintro ⟨i, hi, rfl⟩; omega
  · rintro ⟨h1, h2⟩; exact ⟨(x - 1).toNat, by omega, by omega⟩
theorem idn_nodup (n : Nat) : (idn n).Nodup := by
  simp only [idn, List.nodup_iff_pairwise_ne, List.pairwise_map]
  exact List.Pairwise.imp (fun h e => h (by omega)) (List.nodup_iff_pairwise_ne.1 List.nodup_range)
theorem idn_getD {n i : Nat} (h : i < n) : (idn n).getD i 0 = (i : Int) + 1 := by simp [idn, List.getD_eq_getElem?_getD, h]
theorem getD_lt {L : List Int} {i : Nat} (h : i < L.length) : L.getD i 0 = L[i] := by simp [List.getD_eq_getElem?_getD, List.getElem?_eq_getElem h]
theorem ext_getD {L M : List Int} (h : L.length = M.length) (hh : ∀ i, i < L.length → L.getD i 0 = M.getD i 0) : L = M := by
  apply List.ext_getElem h
  intro i h1 h2
  have := hh i h1
  rw [getD_lt h1, getD_lt h2] at this
  exact this
theorem permOk_iff {L : List Int} : PermOk L ↔ L.Nodup ∧ ∀ x ∈ L, 1 ≤ x ∧ x ≤ L.length := by
  constructor
  · intro h
    refine ⟨?_, fun x hx => ?_⟩
    · rw [List.nodup_iff_pairwise_ne, List.pairwise_iff_getElem]
      intro i j hi hj hij e
      have := (h j hj).2.2 i hij
      rw [getD_lt hi, getD_lt hj] at this
      exact this e
    · obtain ⟨i, hi, rfl⟩ := List.getElem_of_mem hx
      have := h i hi
      unfold pOk at this
      rw [getD_lt hi] at this
      exact ⟨this.1, this.2.1⟩
  · rintro ⟨h1, h2⟩ j hj
    have h3 := h2 L[j] (List.getElem_mem hj)
    unfold pOk
    rw [getD_lt hj]
    refine ⟨h3.1, h3.2, fun i hij e => ?_⟩
    rw [List.nodup_iff_pairwise_ne, List.pairwise_iff_getElem] at h1
    rw [getD_lt (by omega)] at e
    exact h1 i j (by omega) hj hij e
theorem perm_of_nodup : ∀ {n : Nat} {L : List Int}, L.Nodup → (∀ x ∈ L, 1 ≤ x ∧ x ≤ n) → L.length = n → L.Perm (idn n)
  | 0, L, _, _, hl => by
    have : L = [] := List.eq_nil_of_length_eq_zero hl
    subst this; exact List.Perm.refl _
  | n + 1, L, h1, h2, hl => by
    by_cases hm : ((n : Int) + 1) ∈ L
    · have hp := List.perm_cons_erase hm
      have h3 : (L.erase ((n : Int) + 1)).Perm (idn n) := by
        refine perm_of_nodup (h1.erase _) (fun x hx => ?_) (by rw [List.length_erase_of_mem hm]; omega)
        rw [List.Nodup.mem_erase_iff h1] at hx
        have := h2 x hx.2
        have hne := hx.1
        omega
      rw [idn_succ]
      exact hp.trans ((List.Perm.cons _ h3).trans (List.perm_append_singleton _ _).symm)
    · have : L.length ≤ (idn n).length := List.Nodup.length_le_of_subset h1 (fun x hx => by
        have := h2 x hx
        have hne : x ≠ (n : Int) + 1 := fun e => hm (e ▸ hx)
        rw [mem_idn]; omega)
      rw [idn_length] at this
      omega
theorem permOk_perm {L : List Int} : PermOk L ↔ L.Perm (idn L.length) := by
  rw [permOk_iff]
  constructor
  · rintro ⟨h1, h2⟩; exact perm_of_nodup h1 h2 rfl
  · intro h
    refine ⟨h.nodup_iff.2 (idn_nodup _), fun x hx => ?_⟩
    have := h.mem_iff.1 hx
    rwa [mem_idn] at this
theorem IsP.perm {L : List Int} (h : IsP L) : L.Perm (idn L.length) := permOk_perm.1 h.2
theorem IsP.nodup {L : List Int} (h : IsP L) : L.Nodup := (permOk_iff.1 h.2).1
theorem IsP.mem {L : List Int} (h : IsP L) {x : Int} : x ∈ L ↔ 1 ≤ x ∧ x ≤ L.length := by rw [h.perm.mem_iff, mem_idn]
theorem isP_of_perm {L M : List Int} (h : M.Perm L) (hL : IsP L) : IsP M := by
  have hl := h.length_eq
  refine ⟨by rw [hl]; exact hL.1, permOk_perm.2 ?_⟩
  rw [hl]; exact h.trans hL.perm
theorem isP_of {n : Nat} {M : List Int} (h : M.Perm (idn n)) (hn : n ≤ 8) : IsP M := by
  have hl : M.length = n := by rw [h.length_eq, idn_length]
  refine ⟨by omega, permOk_perm.2 ?_⟩
  rw [hl]; exact h
/-- Ascending (not strictly), by neighbours. -/
def Rising (L : List Int) : Prop := ∀ i, i + 1 < L.length → L.getD i 0 ≤ L.getD (i + 1) 0
theorem Rising.all {L : List Int} (h : Rising L) : ∀ j, ∀ i, i ≤ j → j < L.length → L.getD i 0 ≤ L.getD j 0 := by
  intro j
  induction j with
  | zero => intro i hi hj; have : i = 0 := by omega
            subst this; exact Int.le_refl _
  | succ j ih =>
    intro i hi hj
    by_cases e : i = j + 1
    · subst e; exact Int.le_refl _
    · exact Int.le_trans (ih i (by omega) (by omega)) (h j hj)
theorem rising_pairwise {L : List Int} (h : Rising L) : L.Pairwise (· ≤ ·) := by
  rw [List.pairwise_iff_getElem]
  intro i j hi hj hij
  have := h.all j i (by omega) hj
  rwa [getD_lt hi, getD_lt hj] at this
theorem idn_pairwise (n : Nat) : (idn n).Pairwise (· ≤ ·) := by
  simp only [idn, List.pairwise_map]
  exact List.Pairwise.imp (fun h => by omega) List.pairwise_lt_range
theorem rising_idn (n : Nat) : Rising (idn n) := fun i hi => by
  rw [idn_length] at hi
  rw [idn_getD (by omega), idn_getD hi]; omega
theorem IsP.rising {L : List Int} (h : IsP L) : Rising L ↔ L = idn L.length := by
  constructor
  · intro hr
    exact List.Perm.eq_of_pairwise (fun a b _ _ h1 h2 => Int.le_antisymm h1 h2) (rising_pairwise hr) (idn_pairwise _) h.perm
  · intro e; rw [e]; exact rising_idn _
theorem isP_idn {n : Nat} (hn : n ≤ 8) : IsP (idn n) := isP_of (List.Perm.refl _) hn
theorem isP_nil : IsP [] := isP_idn (n := 0) (by omega)
end Go.Proofs.Ytdchjhhpbdekeaa

/- Colourings of words of different numbers: equal colours ascend. A move of Knuth keeps how many places can be coloured. No program in sight. -/
namespace Go.Proofs.Ytdchjhhpbdekeaa
open Go
set_option maxRecDepth 100000

/-- Equal colours, other than 0, ascend. -/
def AscC (a b : Int × Nat) : Prop := a.2 = b.2 → a.2 ≠ 0 → a.1 < b.1
def AscW (W : List (Int × Nat)) : Prop := W.Pairwise AscC
def wd (W : List (Int × Nat)) : List Int := W.map (·.1)
def cnt (W : List (Int × Nat)) : Nat := (W.filter fun x => decide (x.2 ≠ 0)).length
theorem cnt_append (U V : List (Int × Nat)) : cnt (U ++ V) = cnt U + cnt V := by simp [cnt]
theorem cnt_cons (x : Int × Nat) (V : List (Int × Nat)) : cnt (x :: V) = (if x.2 ≠ 0 then 1 else 0) + cnt V := by
  by_cases h : x.2 = 0 <;> simp [cnt, h] ; omega
theorem wd_append (U V : List (Int × Nat)) : wd (U ++ V) = wd U ++ wd V := by simp [wd]
/-- n places of w can be coloured with k colours. -/
def Reach (k : Nat) (w : List Int) (n : Nat) : Prop := ∃ W, wd W = w ∧ AscW W ∧ (∀ x ∈ W, x.2 ≤ k) ∧ cnt W = n

/-- Two colours exchanged. -/
def sw (a c : Nat) (x : Int × Nat) : Int × Nat := (x.1, if x.2 = a then c else if x.2 = c then a else x.2)
theorem sw_ne0 {a c : Nat} (ha : a ≠ 0) (hc : c ≠ 0) (x : Int × Nat) : (sw a c x).2 ≠ 0 ↔ x.2 ≠ 0 := by
  unfold sw; simp only; split
  · omega
  · split <;> omega
theorem wd_sw (a c : Nat) (V : List (Int × Nat)) : wd (V.map (sw a c)) = wd V := by simp [wd, sw]
theorem cnt_sw {a c : Nat} (ha : a ≠ 0) (hc : c ≠ 0) (V : List (Int × Nat)) : cnt (V.map (sw a c)) = cnt V := by
  induction V with
  | nil => rfl
  | cons x r ih =>
    rw [List.map_cons, cnt_cons, cnt_cons, ih]
    have := sw_ne0 ha hc x
    by_cases h : x.2 ≠ 0
    · rw [if_pos h, if_pos (this.2 h)]
    · rw [if_neg h, if_neg (fun hh => h (this.1 hh))]
theorem asc_sw {a c : Nat} (ha : a ≠ 0) (hc : c ≠ 0) {V : List (Int × Nat)} (h : AscW V) : AscW (V.map (sw a c)) := by
  unfold AscW at h ⊢
  rw [List.pairwise_map]
  refine h.imp ?_
  intro x y hxy h1 h2
  refine hxy ?_ ((sw_ne0 ha hc x).1 h2)
  revert h1
  unfold sw
  simp only
  repeat' split
  all_goals intro h1; omega
theorem le_sw {a c k : Nat} (ha : a ≤ k) (hc : c ≤ k) {x : Int × Nat} (h : x.2 ≤ k) : (sw a c x).2 ≤ k := by
  unfold sw; simp only; repeat' split
  all_goals omega

/-- 'a b c' behind u and ahead of v. -/
theorem asc3 {u v : List (Int × Nat)} {a b c : Int × Nat} : AscW (u ++ a :: b :: c :: v) ↔
    AscW u ∧ AscW v ∧ AscC a b ∧ AscC a c ∧ AscC b c ∧ (∀ p ∈ u, AscC p a) ∧ (∀ p ∈ u, AscC p b) ∧ (∀ p ∈ u, AscC p c) ∧ (∀ q ∈ v, AscC a q) ∧ (∀ q ∈ v, AscC b q) ∧ (∀ q ∈ v, AscC c q) ∧ (∀ p ∈ u, ∀ q ∈ v, AscC p q) := by
  unfold AscW
  simp only [List.pairwise_append, List.pairwise_cons, List.mem_cons, forall_eq_or_imp]
  constructor
  · rintro ⟨h1, ⟨⟨h2, h3, h4⟩, ⟨h5, h6⟩, h7, h8⟩, h9⟩
    exact ⟨h1, h8, h2, h3, h5, fun p hp => (h9 p hp).1, fun p hp => (h9 p hp).2.1, fun p hp => (h9 p hp).2.2.1, h4, h6, h7, fun p hp => (h9 p hp).2.2.2⟩
  · rintro ⟨h1, h8, h2, h3, h5, a1, a2, a3, h4, h6, h7, a4⟩
    exact ⟨h1, ⟨⟨h2, h3, h4⟩, ⟨h5, h6⟩, h7, h8⟩, fun p hp => ⟨a1 p hp, a2 p hp, a3 p hp, a4 p hp⟩⟩

/-- What a move makes of a colouring. -/
def Moves (k : Nat) (u v : List (Int × Nat)) (s : List (Int × Nat)) (a b c : Int) : Prop :=
  ∃ (i j l : Nat) (v' : List (Int × Nat)), wd v' = wd v ∧ AscW (u ++ (a, i) :: (b, j) :: (c, l) :: v') ∧ (∀ x ∈ v', x.2 ≤ k) ∧ i ≤ k ∧ j ≤ k ∧ l ≤ k ∧ cnt [(a, i), (b, j), (c, l)] + cnt v' = cnt s + cnt v
theorem cnt3 (a b c : Int × Nat) : cnt [a, b, c] = (if a.2 ≠ 0 then 1 else 0) + (if b.2 ≠ 0 then 1 else 0) + (if c.2 ≠ 0 then 1 else 0) := by
  rw [cnt_cons, cnt_cons, cnt_cons]; simp only [cnt, List.filter_nil, List.length_nil]; omega

/-- The way that exchanges the colours behind: x z y to z x y, and y x z to y z x. -/
theorem move1 {k : Nat} {u v : List (Int × Nat)} {x y z : Int} {i j l : Nat} (hxy : x < y) (hyz : y < z) (h : AscW (u ++ (x, i) :: (z, j) :: (y, l) :: v)) (hv : ∀ q ∈ v, q.2 ≤ k) (hi : i ≤ k) (hj : j ≤ k) (hl : l ≤ k) :
    Moves k u v [(x, i), (z, j), (y, l)] z x y := by
  rw [asc3] at h
  obtain ⟨h1, h2, h3, h4, h5, h6, h7, h8, h9, h10, h11, h12⟩ := h
  by_cases hij : i = j ∧ i ≠ 0
  · obtain ⟨rfl, hi0⟩ := hij
    by_cases hl0 : l = 0
    · subst hl0
      refine ⟨0, i, i, v, rfl, ?_, hv, by omega, hi, hi, ?_⟩
      · rw [asc3]
        refine ⟨h1, h2, ?_, ?_, ?_, ?_, ?_, ?_, ?_, ?_, ?_, h12⟩
        · intro _ e; exact absurd rfl e
        · intro _ e; exact absurd rfl e
        · intro _ _; exact hxy
        · intro p hp e1 e2; exact absurd e1 e2
        · intro p hp; exact h6 p hp
        · intro p hp e1 e2; have := h6 p hp e1 e2; simp only at this ⊢; omega
        · intro q hq e1 e2; exact absurd rfl e2
        · intro q hq; exact h9 q hq
        · intro q hq e1 e2; have := h10 q hq e1 e2; simp only at this ⊢; omega
      · rw [cnt3, cnt3]; simp only; omega
    · have hli : l ≠ i := by
        intro e; subst e
        have := h5 rfl hl0
        simp only at this; omega
      refine ⟨l, i, i, v.map (sw i l), wd_sw _ _ _, ?_, ?_, hl, hi, hi, ?_⟩
      · rw [asc3]
        refine ⟨h1, asc_sw hi0 hl0 h2, ?_, ?_, ?_, ?_, ?_, ?_, ?_, ?_, ?_, ?_⟩
        · intro e; exact absurd e hli
        · intro e; exact absurd e hli
        · intro _ _; exact hxy
        · intro p hp e1 e2; have := h8 p hp e1 e2; simp only at this ⊢; omega
        · intro p hp; exact h6 p hp
        · intro p hp e1 e2; have := h6 p hp e1 e2; simp only at this ⊢; omega
        · intro q' hq'
          obtain ⟨q, hq, rfl⟩ := List.mem_map.1 hq'
          intro e1 e2
          have hqi : q.2 = i := by
            simp only [sw] at e1
            by_cases e : q.2 = i
            · exact e
            · rw [if_neg e] at e1; split at e1 <;> omega
          have := h10 q hq hqi.symm hi0
          simpa [sw] using this
        · intro q' hq'
          obtain ⟨q, hq, rfl⟩ := List.mem_map.1 hq'
          intro e1 e2
          have hql : q.2 = l := by
            simp only [sw] at e1
            by_cases e : q.2 = i
            · rw [if_pos e] at e1; omega
            · rw [if_neg e] at e1; split at e1 <;> omega
          have := h11 q hq hql.symm hl0
          simp only [sw] at this ⊢; omega
        · intro q' hq'
          obtain ⟨q, hq, rfl⟩ := List.mem_map.1 hq'
          intro e1 e2
          have hql : q.2 = l := by
            simp only [sw] at e1
            by_cases e : q.2 = i
            · rw [if_pos e] at e1; omega
            · rw [if_neg e] at e1; split at e1 <;> omega
          have := h11 q hq hql.symm hl0
          simp only [sw] at this ⊢; omega
        · intro p hp q' hq'
          obtain ⟨q, hq, rfl⟩ := List.mem_map.1 hq'
          intro e1 e2
          by_cases e : q.2 = i
          · have e3 : p.2 = l := by simp only [sw] at e1; rw [if_pos e] at e1; exact e1
            have t1 := h8 p hp e3 e2
            have t2 := h10 q hq e.symm hi0
            simp only [sw] at t1 t2 ⊢; omega
          · by_cases e' : q.2 = l
            · have e3 : p.2 = i := by simp only [sw] at e1; rw [if_neg e, if_pos e'] at e1; exact e1
              have t1 := h6 p hp e3 e2
              have t2 := h11 q hq e'.symm hl0
              simp only [sw] at t1 t2 ⊢; omega
            · have e3 : p.2 = q.2 := by simp only [sw] at e1; rw [if_neg e, if_neg e'] at e1; exact e1
              have := h12 p hp q hq e3 e2
              simpa [sw] using this
      · intro q' hq'
        obtain ⟨q, hq, rfl⟩ := List.mem_map.1 hq'
        exact le_sw hi hl (hv q hq)
      · rw [cnt3, cnt3, cnt_sw hi0 hl0]; simp [hi0, hl0]
  · refine ⟨j, i, l, v, rfl, ?_, hv, hj, hi, hl, ?_⟩
    · rw [asc3]
      refine ⟨h1, h2, ?_, h5, h4, h7, h6, h8, h10, h9, h11, h12⟩
      intro e1 e2; simp only at e1 e2; exact absurd ⟨e1.symm, by omega⟩ hij
    · rw [cnt3, cnt3]; simp only; omega
theorem move2 {k : Nat} {u v : List (Int × Nat)} {x y z : Int} {i j l : Nat} (hxy : x < y) (hyz : y < z) (h : AscW (u ++ (y, i) :: (x, j) :: (z, l) :: v)) (hv : ∀ q ∈ v, q.2 ≤ k) (hi : i ≤ k) (hj : j ≤ k) (hl : l ≤ k) :
    Moves k u v [(y, i), (x, j), (z, l)] y z x := by
  rw [asc3] at h
  obtain ⟨h1, h2, h3, h4, h5, h6, h7, h8, h9, h10, h11, h12⟩ := h
  by_cases hij : j = l ∧ j ≠ 0
  · obtain ⟨rfl, hj0⟩ := hij
    by_cases hi0 : i = 0
    · subst hi0
      refine ⟨j, j, 0, v, rfl, ?_, hv, hj, hj, by omega, ?_⟩
      · rw [asc3]
        refine ⟨h1, h2, ?_, ?_, ?_, ?_, ?_, ?_, ?_, ?_, ?_, h12⟩
        · intro _ _; exact hyz
        · intro e1 e2; exact absurd e1 e2
        · intro e1 e2; exact absurd e1 e2
        · intro p hp e1 e2; have := h7 p hp e1 e2; simp only at this ⊢; omega
        · intro p hp; exact h8 p hp
        · intro p hp e1 e2; exact absurd e1 e2
        · intro q hq e1 e2; have := h11 q hq e1 e2; simp only at this ⊢; omega
        · intro q hq; exact h11 q hq
        · intro q hq e1 e2; exact absurd rfl e2
      · rw [cnt3, cnt3]; simp only; omega
    · have hli : i ≠ j := by
        intro e; subst e
        have := h3 rfl hi0
        simp only at this; omega
      refine ⟨i, i, j, v.map (sw j i), wd_sw _ _ _, ?_, ?_, hi, hi, hj, ?_⟩
      · have qi : ∀ q : Int × Nat, i = (sw j i q).2 → q.2 = j := by
          intro q e1
          simp only [sw] at e1
          by_cases e : q.2 = j
          · exact e
          · rw [if_neg e] at e1; split at e1 <;> omega
        have qj : ∀ q : Int × Nat, j = (sw j i q).2 → q.2 = i := by
          intro q e1
          simp only [sw] at e1
          by_cases e : q.2 = j
          · rw [if_pos e] at e1; omega
          · rw [if_neg e] at e1; split at e1 <;> omega
        rw [asc3]
        refine ⟨h1, asc_sw hj0 hi0 h2, ?_, ?_, ?_, ?_, ?_, ?_, ?_, ?_, ?_, ?_⟩
        · intro _ _; exact hyz
        · intro e; exact absurd e hli
        · intro e; exact absurd e hli
        · intro p hp; exact h6 p hp
        · intro p hp e1 e2; have := h6 p hp e1 e2; simp only at this ⊢; omega
        · intro p hp; exact h7 p hp
        · intro q' hq'
          obtain ⟨q, hq, rfl⟩ := List.mem_map.1 hq'
          intro e1 e2
          have := h11 q hq (qi q e1).symm hj0
          simp only [sw] at this ⊢; omega
        · intro q' hq'
          obtain ⟨q, hq, rfl⟩ := List.mem_map.1 hq'
          intro e1 e2
          have := h11 q hq (qi q e1).symm hj0
          simp only [sw] at this ⊢; omega
        · intro q' hq'
          obtain ⟨q, hq, rfl⟩ := List.mem_map.1 hq'
          intro e1 e2
          have := h9 q hq (qj q e1).symm hi0
          simp only [sw] at this ⊢; omega
        · intro p hp q' hq'
          obtain ⟨q, hq, rfl⟩ := List.mem_map.1 hq'
          intro e1 e2
          by_cases e : q.2 = j
          · have e3 : p.2 = i := by simp only [sw] at e1; rw [if_pos e] at e1; exact e1
            have t1 := h6 p hp e3 e2
            have t2 := h11 q hq e.symm hj0
            simp only [sw] at t1 t2 ⊢; omega
          · by_cases e' : q.2 = i
            · have e3 : p.2 = j := by simp only [sw] at e1; rw [if_neg e, if_pos e'] at e1; exact e1
              have t1 := h7 p hp e3 e2
              have t2 := h9 q hq e'.symm hi0
              simp only [sw] at t1 t2 ⊢; omega
            · have e3 : p.2 = q.2 := by simp only [sw] at e1; rw [if_neg e, if_neg e'] at e1; exact e1
              have := h12 p hp q hq e3 e2
              simpa [sw] using this
      · intro q' hq'
        obtain ⟨q, hq, rfl⟩ := List.mem_map.1 hq'
        exact le_sw hj hi (hv q hq)
      · rw [cnt3, cnt3, cnt_sw hj0 hi0]; simp [hi0, hj0]
  · refine ⟨i, l, j, v, rfl, ?_, hv, hi, hl, hj, ?_⟩
    · rw [asc3]
      refine ⟨h1, h2, h4, h3, ?_, h6, h8, h7, h9, h11, h10, h12⟩
      intro e1 e2; simp only at e1 e2; exact absurd ⟨e1.symm, by omega⟩ hij
    · rw [cnt3, cnt3]; simp only; omega
/-- The ways back: nothing is recoloured. -/
theorem move1' {k : Nat} {u v : List (Int × Nat)} {x y z : Int} {i j l : Nat} (hxy : x < y) (hyz : y < z) (h : AscW (u ++ (z, i) :: (x, j) :: (y, l) :: v)) (hv : ∀ q ∈ v, q.2 ≤ k) (hi : i ≤ k) (hj : j ≤ k) (hl : l ≤ k) :
    Moves k u v [(z, i), (x, j), (y, l)] x z y := by
  rw [asc3] at h
  obtain ⟨h1, h2, h3, h4, h5, h6, h7, h8, h9, h10, h11, h12⟩ := h
  refine ⟨j, i, l, v, rfl, ?_, hv, hj, hi, hl, by rw [cnt3, cnt3]; simp only; omega⟩
  rw [asc3]
  refine ⟨h1, h2, ?_, h5, h4, h7, h6, h8, h10, h9, h11, h12⟩
  intro e1 e2; simp only at e1 e2 ⊢; omega
theorem move2' {k : Nat} {u v : List (Int × Nat)} {x y z : Int} {i j l : Nat} (hxy : x < y) (hyz : y < z) (h : AscW (u ++ (y, i) :: (z, j) :: (x, l) :: v)) (hv : ∀ q ∈ v, q.2 ≤ k) (hi : i ≤ k) (hj : j ≤ k) (hl : l ≤ k) :
    Moves k u v [(y, i), (z, j), (x, l)] y x z := by
  rw [asc3] at h
  obtain ⟨h1, h2, h3, h4, h5, h6, h7, h8, h9, h10, h11, h12⟩ := h
  refine ⟨i, l, j, v, rfl, ?_, hv, hi, hl, hj, by rw [cnt3, cnt3]; simp only; omega⟩
  rw [asc3]
  refine ⟨h1, h2, h4, h3, ?_, h6, h8, h7, h9, h11, h10, h12⟩
  intro e1 e2; simp only at e1 e2 ⊢; omega

/-! ### Moves of words -/
inductive Kn : List Int → List Int → Prop
  | a (u v : List Int) {x y z : Int} : x < y → y < z → Kn (u ++ x :: z :: y :: v) (u ++ z :: x :: y :: v)
  | a' (u v : List Int) {x y z : Int} : x < y → y < z → Kn (u ++ z :: x :: y :: v) (u ++ x :: z :: y :: v)
  | b (u v : List Int) {x y z : Int} : x < y → y < z → Kn (u ++ y :: x :: z :: v) (u ++ y :: z :: x :: v)
  | b' (u v : List Int) {x y z : Int} : x < y → y < z → Kn (u ++ y :: z :: x :: v) (u ++ y :: x :: z :: v)
  | refl (w : List Int) : Kn w w
  | trans {a b c : List Int} : Kn a b → Kn b c → Kn a c
theorem wd3 {W : List (Int × Nat)} {u v : List Int} {a b c : Int} (h : wd W = u ++ a :: b :: c :: v) : ∃ U V i j l, W = U ++ (a, i) :: (b, j) :: (c, l) :: V ∧ wd U = u ∧ wd V = v := by
  unfold wd at h
  obtain ⟨U, R, rfl, h1, h2⟩ := List.map_eq_append_iff.1 h
  obtain ⟨p, R1, rfl, h3, h4⟩ := List.map_eq_cons_iff.1 h2
  obtain ⟨q, R2, rfl, h5, h6⟩ := List.map_eq_cons_iff.1 h4
  obtain ⟨r, R3, rfl, h7, h8⟩ := List.map_eq_cons_iff.1 h6
  exact ⟨U, R3, p.2, q.2, r.2, by rw [← h3, ← h5, ← h7], h1, h8⟩
theorem reach_move {k n : Nat} {u v : List Int} {a b c a' b' c' : Int}
    (hm : ∀ (U V : List (Int × Nat)) (i j l : Nat), AscW (U ++ (a, i) :: (b, j) :: (c, l) :: V) → (∀ q ∈ V, q.2 ≤ k) → i ≤ k → j ≤ k → l ≤ k → Moves k U V [(a, i), (b, j), (c, l)] a' b' c')
    (h : Reach k (u ++ a :: b :: c :: v) n) : Reach k (u ++ a' :: b' :: c' :: v) n := by
  obtain ⟨W, hw, hA, hk, hc⟩ := h
  obtain ⟨U, V, i, j, l, rfl, rfl, rfl⟩ := wd3 hw
  obtain ⟨i', j', l', V', e1, e2, e3, e4, e5, e6, e7⟩ := hm U V i j l hA (fun q hq => hk q (by simp [hq])) (hk (a, i) (by simp)) (hk (b, j) (by simp)) (hk (c, l) (by simp))
  refine ⟨U ++ (a', i') :: (b', j') :: (c', l') :: V', ?_, e2, ?_, ?_⟩
  · rw [wd_append]; simp only [wd, List.map_cons] at e1 ⊢; rw [e1]
  · intro x hx
    rcases List.mem_append.1 hx with hx | hx
    · exact hk x (by simp [hx])
    · simp only [List.mem_cons] at hx
      rcases hx with rfl | rfl | rfl | hx
      · exact e4
      · exact e5
      · exact e6
      · exact e3 x hx
  · rw [← hc, cnt_append, cnt_append]
    have h1 : ∀ p q r : Int × Nat, ∀ T, cnt (p :: q :: r :: T) = cnt [p, q, r] + cnt T := fun p q r T => by rw [show p :: q :: r :: T = [p, q, r] ++ T from rfl, cnt_append]
    rw [h1 (a', i'), h1 (a, i), e7]
theorem Kn.reach {w w' : List Int} (h : Kn w w') {k n : Nat} (hr : Reach k w n) : Reach k w' n := by
  induction h generalizing n with
  | a u v h1 h2 => exact reach_move (fun U V i j l h hv hi hj hl => move1 h1 h2 h hv hi hj hl) hr
  | a' u v h1 h2 => exact reach_move (fun U V i j l h hv hi hj hl => move1' h1 h2 h hv hi hj hl) hr
  | b u v h1 h2 => exact reach_move (fun U V i j l h hv hi hj hl => move2 h1 h2 h hv hi hj hl) hr
  | b' u v h1 h2 => exact reach_move (fun U V i j l h hv hi hj hl => move2' h1 h2 h hv hi hj hl) hr
  | refl w => exact hr
  | trans _ _ ih1 ih2 => exact ih2 (ih1 hr)
theorem Kn.symm {w w' : List Int} (h : Kn w w') : Kn w' w := by
  induction h with
  | a u v h1 h2 => exact .a' u v h1 h2
  | a' u v h1 h2 => exact .a u v h1 h2
  | b u v h1 h2 => exact .b' u v h1 h2
  | b' u v h1 h2 => exact .b u v h1 h2
  | refl w => exact .refl w
  | trans _ _ ih1 ih2 => exact .trans ih2 ih1
theorem Kn.app {w w' : List Int} (h : Kn w w') (s t : List Int) : Kn (s ++ w ++ t) (s ++ w' ++ t) := by
  induction h with
  | a u v h1 h2 => simpa using Kn.a (s ++ u) (v ++ t) h1 h2
  | a' u v h1 h2 => simpa using Kn.a' (s ++ u) (v ++ t) h1 h2
  | b u v h1 h2 => simpa using Kn.b (s ++ u) (v ++ t) h1 h2
  | b' u v h1 h2 => simpa using Kn.b' (s ++ u) (v ++ t) h1 h2
  | refl w => exact .refl _
  | trans _ _ ih1 ih2 => exact .trans ih1 ih2
theorem Kn.rev {w w' : List Int} (h : Kn w w') : Kn w.reverse w'.reverse := by
  induction h with
  | a u v h1 h2 => simpa using Kn.b' v.reverse u.reverse h1 h2
  | a' u v h1 h2 => simpa using Kn.b v.reverse u.reverse h1 h2
  | b u v h1 h2 => simpa using Kn.a' v.reverse u.reverse h1 h2
  | b' u v h1 h2 => simpa using Kn.a v.reverse u.reverse h1 h2
  | refl w => exact .refl _
  | trans _ _ ih1 ih2 => exact .trans ih1 ih2
end Go.Proofs.Ytdchjhhpbdekeaa

/- Insertion of a number into a tableau: its rows and columns ascend, and its word is reached by moves. No program in sight. -/
namespace Go.Proofs.Ytdchjhhpbdekeaa
open Go
set_option maxRecDepth 100000

/-- How many numbers of a row are less, from the left. -/
def rpos : List Int → Int → Nat
  | [], _ => 0
  | a :: R, v => if a < v then rpos R v + 1 else 0
theorem rpos_le : ∀ (R : List Int) (v : Int), rpos R v ≤ R.length
  | [], _ => Nat.le_refl _
  | a :: R, v => by have := rpos_le R v; rw [rpos]; split <;> simp <;> omega
theorem rpos_lt : ∀ (R : List Int) (v : Int) (j : Nat), j < rpos R v → R.getD j 0 < v
  | [], _, j, h => by simp [rpos] at h
  | a :: R, v, j, h => by
    rw [rpos] at h
    split at h
    · cases j with
      | zero => simpa
      | succ j => simpa using rpos_lt R v j (by omega)
    · omega
theorem rpos_ge : ∀ (R : List Int) (v : Int), rpos R v < R.length → v ≤ R.getD (rpos R v) 0
  | [], _, h => by simp at h
  | a :: R, v, h => by
    rw [rpos] at h ⊢
    split
    · rename_i hc
      rw [if_pos hc] at h
      simp at h
      simpa using rpos_ge R v (by omega)
    · simp; omega
def tabIns : List (List Int) → Int → List (List Int)
  | [], v => [[v]]
  | R :: T, v => if rpos R v < R.length then R.set (rpos R v) v :: tabIns T (R.getD (rpos R v) 0) else (R ++ [v]) :: T
/-- The row that became longer. -/
def tabRow : List (List Int) → Int → Nat
  | [], _ => 0
  | R :: T, v => if rpos R v < R.length then tabRow T (R.getD (rpos R v) 0) + 1 else 0

/-! ### Rows -/
def Inc (R : List Int) : Prop := R.Pairwise (· < ·)
theorem Inc.getD {R : List Int} (h : Inc R) {i j : Nat} (hij : i < j) (hj : j < R.length) : R.getD i 0 < R.getD j 0 := by
  have := List.pairwise_iff_getElem.1 h i j (by omega) hj hij
  rwa [← getD_lt, ← getD_lt] at this
theorem Inc.of_getD {R : List Int} (h : ∀ i j, i < j → j < R.length → R.getD i 0 < R.getD j 0) : Inc R := by
  rw [Inc, List.pairwise_iff_getElem]
  intro i j hi hj hij
  have := h i j hij hj
  rwa [getD_lt hi, getD_lt hj] at this
theorem rpos_gt {R : List Int} {v : Int} (h : Inc R) (hv : v ∉ R) {j : Nat} (hj : rpos R v ≤ j) (hl : j < R.length) : v < R.getD j 0 := by
  have h1 := rpos_ge R v (by omega)
  have h2 : R.getD j 0 ≠ v := fun e => hv (by rw [← e, getD_lt hl]; exact List.getElem_mem hl)
  rcases Nat.lt_or_ge (rpos R v) j with h3 | h3
  · have := h.getD h3 hl; omega
  · have : rpos R v = j := by omega
    rw [this] at h1; omega
theorem getD_set' (R : List Int) (i j : Nat) (v : Int) : (R.set i v).getD j 0 = if i = j ∧ i < R.length then v else R.getD j 0 := by
  simp only [List.getD_eq_getElem?_getD, List.getElem?_set]
  by_cases h : i = j
  · subst h
    by_cases h2 : i < R.length
    · simp [h2]
    · simp [h2]
  · simp [h]
theorem getD_snoc (R : List Int) (v : Int) (j : Nat) : (R ++ [v]).getD j 0 = if j < R.length then R.getD j 0 else if j = R.length then v else 0 := by
  simp only [List.getD_eq_getElem?_getD]
  by_cases h : j < R.length
  · rw [if_pos h, List.getElem?_append_left h]
  · rw [if_neg h, List.getElem?_append_right (by omega)]
    by_cases h2 : j = R.length
    · subst h2; simp
    · rw [if_neg h2, List.getElem?_eq_none (by simp; omega)]; rfl
theorem Inc.set {R : List Int} {v : Int} (h : Inc R) (hv : v ∉ R) (hp : rpos R v < R.length) : Inc (R.set (rpos R v) v) := by
  refine Inc.of_getD fun i j hij hj => ?_
  rw [List.length_set] at hj
  rw [getD_set', getD_set']
  by_cases hi : rpos R v = i
  · rw [if_pos ⟨hi, by omega⟩, if_neg (by omega)]
    exact rpos_gt h hv (by omega) hj
  · rw [if_neg (by omega)]
    by_cases hj2 : rpos R v = j
    · rw [if_pos ⟨hj2, by omega⟩]; exact rpos_lt R v i (by omega)
    · rw [if_neg (by omega)]; exact h.getD hij hj
theorem Inc.snoc {R : List Int} {v : Int} (h : Inc R) (hp : ¬ rpos R v < R.length) : Inc (R ++ [v]) := by
  have := rpos_le R v
  refine Inc.of_getD fun i j hij hj => ?_
  rw [List.length_append] at hj
  simp at hj
  rw [getD_snoc, getD_snoc]
  rw [if_pos (by omega)]
  by_cases h2 : j < R.length
  · rw [if_pos h2]; exact h.getD hij h2
  · rw [if_neg h2, if_pos (by omega)]; exact rpos_lt R v i (by omega)

/-! ### Tableaux -/
def Under (R S : List Int) : Prop := S.length ≤ R.length ∧ ∀ j, j < S.length → R.getD j 0 < S.getD j 0
def Tab : List (List Int) → Prop
  | [] => True
  | R :: T => R ≠ [] ∧ Inc R ∧ (∀ S, T.head? = some S → Under R S) ∧ Tab T
theorem tabIns_perm : ∀ (T : List (List Int)) (v : Int), (tabIns T v).flatten.Perm (v :: T.flatten)
  | [], v => by simp [tabIns]
  | R :: T, v => by
    rw [tabIns]
    split
    · rename_i h
      rw [List.flatten_cons, List.flatten_cons]
      have ih := tabIns_perm T (R.getD (rpos R v) 0)
      refine (List.Perm.append_left _ ih).trans ?_
      have h1 : R = R.take (rpos R v) ++ R.getD (rpos R v) 0 :: R.drop (rpos R v + 1) := by
        rw [getD_lt h]; simp
      have h2 : R.set (rpos R v) v = R.take (rpos R v) ++ v :: R.drop (rpos R v + 1) := by rw [List.set_eq_take_append_cons_drop, if_pos h]
      rw [h2]
      conv => rhs; rw [h1]
      generalize R.getD (rpos R v) 0 = m
      generalize R.take (rpos R v) = A
      generalize R.drop (rpos R v + 1) = B
      simp only [List.append_assoc, List.cons_append]
      refine (List.perm_middle (a := v)).trans ?_
      refine List.Perm.cons _ ?_
      refine (List.Perm.append_left A ?_)
      exact List.perm_middle
    · simp only [List.flatten_cons, List.append_assoc]
      exact List.perm_middle
theorem under_snoc {R S : List Int} (h : Under R S) (v : Int) : Under (R ++ [v]) S := by
  refine ⟨by rw [List.length_append]; have := h.1; omega, fun j hj => ?_⟩
  have := h.1
  rw [getD_snoc, if_pos (by omega)]
  exact h.2 j hj
theorem tabIns_head {T : List (List Int)} {R : List Int} {v : Int} (hI : Inc R) (hu : ∀ S, T.head? = some S → Under R S) (hv : v ∉ R) (hp : rpos R v < R.length) (hm : ∀ S, T.head? = some S → Inc S ∧ R.getD (rpos R v) 0 ∉ S) :
    ∀ S, (tabIns T (R.getD (rpos R v) 0)).head? = some S → Under (R.set (rpos R v) v) S := by
  have hvm := rpos_gt hI hv (Nat.le_refl _) hp
  intro S hS
  cases T with
  | nil =>
    simp [tabIns] at hS
    subst hS
    refine ⟨by rw [List.length_set]; simp; omega, fun j hj => ?_⟩
    simp at hj; subst hj
    rw [getD_set']
    split
    · simpa using hvm
    · simp
      rename_i h
      have : rpos R v ≠ 0 := by intro e; exact h ⟨e, hp⟩
      simpa using hI.getD (i := 0) (j := rpos R v) (by omega) hp
  | cons U T =>
    obtain ⟨hul, huj⟩ := hu U rfl
    obtain ⟨hUI, hUm⟩ := hm U rfl
    have hc : rpos U (R.getD (rpos R v) 0) ≤ rpos R v := by
      rcases Nat.lt_or_ge (rpos R v) (rpos U (R.getD (rpos R v) 0)) with h | h
      · have h1 := rpos_lt U _ _ h
        have h2 := rpos_le U (R.getD (rpos R v) 0)
        have := huj _ (show rpos R v < U.length by omega)
        omega
      · exact h
    have key : ∀ j, j < U.length → (R.set (rpos R v) v).getD j 0 < U.getD j 0 := fun j hj => by
      have := huj j hj
      rw [getD_set']
      split
      · rename_i e; rw [← e.1] at this ⊢; omega
      · exact this
    have key2 : ∀ j, j ≤ rpos R v → (R.set (rpos R v) v).getD j 0 < R.getD (rpos R v) 0 := fun j hj => by
      rw [getD_set']
      split
      · exact hvm
      · exact hI.getD (by omega) hp
    rw [tabIns] at hS
    split at hS
    · rename_i hq
      simp only [List.head?_cons, Option.some.injEq] at hS; subst hS
      refine ⟨by rw [List.length_set, List.length_set]; exact hul, fun j hj => ?_⟩
      rw [List.length_set] at hj
      rw [getD_set' U]
      split
      · rename_i e; exact key2 j (by omega)
      · exact key j hj
    · rename_i hq
      have hle := rpos_le U (R.getD (rpos R v) 0)
      simp only [List.head?_cons, Option.some.injEq] at hS; subst hS
      refine ⟨by rw [List.length_set, List.length_append, List.length_singleton]; omega, fun j hj => ?_⟩
      rw [List.length_append, List.length_singleton] at hj
      rw [getD_snoc U]
      by_cases h : j < U.length
      · rw [if_pos h]; exact key j h
      · rw [if_neg h, if_pos (by omega)]; exact key2 j (by omega)
theorem Tab.ins : ∀ {T : List (List Int)} {v : Int}, Tab T → T.flatten.Nodup → v ∉ T.flatten → Tab (tabIns T v)
  | [], v, _, _, _ => ⟨by simp, by simp [Inc], fun S h => by simp at h, trivial⟩
  | R :: T, v, ⟨hR, hI, hu, hT⟩, hn, hv => by
    rw [List.flatten_cons] at hn hv
    rw [List.nodup_append] at hn
    simp only [List.mem_append, not_or] at hv
    rw [tabIns]
    split
    · rename_i hp
      have hmem : R.getD (rpos R v) 0 ∈ R := by rw [getD_lt hp]; exact List.getElem_mem hp
      have hmT : R.getD (rpos R v) 0 ∉ T.flatten := fun h => hn.2.2 _ hmem _ h rfl
      refine ⟨fun h => hR (by simpa using h), hI.set hv.1 hp, tabIns_head hI hu hv.1 hp ?_, Tab.ins hT hn.2.1 hmT⟩
      intro S hS
      cases T with
      | nil => simp at hS
      | cons U T =>
        simp at hS; subst hS
        exact ⟨hT.2.1, fun h => hmT (List.mem_flatten.2 ⟨U, by simp, h⟩)⟩
    · rename_i hp
      refine ⟨by simp, hI.snoc hp, fun S hS => under_snoc (hu S hS) v, hT⟩

/-! ### The word of a tableau -/
def tword : List (List Int) → List Int
  | [] => []
  | R :: T => tword T ++ R
theorem inc_cons {a : Int} {R : List Int} : Inc (a :: R) ↔ (∀ b ∈ R, a < b) ∧ Inc R := List.pairwise_cons
theorem kn_right : ∀ (B : List Int) (m v : Int), Inc (m :: B) → v < m → Kn (m :: (B ++ [v])) (m :: v :: B)
  | [], m, v, _, _ => Kn.refl _
  | b :: B, m, v, h, hv => by
    rw [inc_cons] at h
    have hmb := h.1 b (by simp)
    have h1 := (kn_right B b v h.2 (by omega)).app [m] []
    have h2 := Kn.b' [] B hv hmb
    simp only [List.append_nil, List.cons_append, List.nil_append] at h1 h2
    exact h1.trans h2
theorem kn_left : ∀ (A B : List Int) (m v : Int), Inc (A ++ [v]) → v < m → Kn (A ++ m :: v :: B) (m :: (A ++ v :: B))
  | [], B, m, v, _, _ => Kn.refl _
  | a :: A, B, m, v, h, hv => by
    have h' : Inc (a :: (A ++ [v])) := h
    rw [inc_cons] at h'
    have h1 := (kn_left A B m v h'.2 hv).app [a] []
    simp only [List.append_nil, List.cons_append, List.nil_append] at h1
    refine h1.trans ?_
    cases A with
    | nil => exact Kn.a [] B (h'.1 v (by simp)) hv
    | cons c A =>
      have hc : c < m := by
        have := inc_cons.1 h'.2
        have := this.1 v (by simp); omega
      exact Kn.a [] (A ++ v :: B) (h'.1 c (by simp)) hc
theorem kn_row {R : List Int} {v : Int} (hI : Inc R) (hv : v ∉ R) (hp : rpos R v < R.length) : Kn (R ++ [v]) (R.getD (rpos R v) 0 :: R.set (rpos R v) v) := by
  have h1 : R = R.take (rpos R v) ++ R.getD (rpos R v) 0 :: R.drop (rpos R v + 1) := by
    rw [getD_lt hp]; simp
  have h2 : R.set (rpos R v) v = R.take (rpos R v) ++ v :: R.drop (rpos R v + 1) := by rw [List.set_eq_take_append_cons_drop, if_pos hp]
  have hvm := rpos_gt hI hv (Nat.le_refl _) hp
  have hA : Inc (R.take (rpos R v) ++ [v]) := by
    rw [Inc, List.pairwise_append]
    refine ⟨hI.sublist (List.take_sublist _ _), by simp, fun a ha b hb => ?_⟩
    simp at hb; subst hb
    obtain ⟨i, hi, rfl⟩ := List.getElem_of_mem ha
    rw [List.length_take] at hi
    have := rpos_lt R b i (by omega)
    rw [getD_lt (by omega)] at this
    simpa using this
  have hB : Inc (R.getD (rpos R v) 0 :: R.drop (rpos R v + 1)) := by
    have : (R.getD (rpos R v) 0 :: R.drop (rpos R v + 1)).Sublist R := by
      conv => rhs; rw [h1]
      exact List.sublist_append_right _ _
    exact hI.sublist this
  have k1 := (kn_right _ _ v hB hvm).app (R.take (rpos R v)) []
  have k2 := kn_left (R.take (rpos R v)) (R.drop (rpos R v + 1)) _ v hA hvm
  rw [h2]
  conv => lhs; rw [h1]
  simp only [List.append_nil, List.append_assoc, List.cons_append] at k1 ⊢
  exact k1.trans k2
theorem kn_ins : ∀ {T : List (List Int)} {v : Int}, Tab T → T.flatten.Nodup → v ∉ T.flatten → Kn (tword T ++ [v]) (tword (tabIns T v))
  | [], v, _, _, _ => Kn.refl _
  | R :: T, v, ⟨hR, hI, hu, hT⟩, hn, hv => by
    rw [List.flatten_cons] at hn hv
    rw [List.nodup_append] at hn
    simp only [List.mem_append, not_or] at hv
    rw [tabIns]
    split
    · rename_i hp
      have hmem : R.getD (rpos R v) 0 ∈ R := by rw [getD_lt hp]; exact List.getElem_mem hp
      have hmT : R.getD (rpos R v) 0 ∉ T.flatten := fun h => hn.2.2 _ hmem _ h rfl
      have k1 := (kn_row hI hv.1 hp).app (tword T) []
      have k2 := (kn_ins hT hn.2.1 hmT).app [] (R.set (rpos R v) v)
      simp only [tword, List.append_nil, List.append_assoc, List.nil_append, List.singleton_append] at k1 k2 ⊢
      exact k1.trans k2
    · simp only [tword, List.append_assoc]
      exact Kn.refl _
/-- All numbers of a word, one after the other. -/
def insP (w : List Int) : List (List Int) := w.foldl tabIns []
theorem insP_snoc (w : List Int) (v : Int) : insP (w ++ [v]) = tabIns (insP w) v := by simp [insP]
theorem insP_all {w : List Int} (h : w.Nodup) : Tab (insP w) ∧ (insP w).flatten.Perm w ∧ Kn w (tword (insP w)) := by
  suffices H : ∀ k, k ≤ w.length → Tab (insP (w.take k)) ∧ (insP (w.take k)).flatten.Perm (w.take k) ∧ Kn (w.take k) (tword (insP (w.take k))) by
    have := H w.length (Nat.le_refl _)
    rwa [List.take_length] at this
  intro k hk
  induction k with
  | zero => exact ⟨trivial, List.Perm.refl _, Kn.refl _⟩
  | succ k ih =>
    obtain ⟨h1, h2, h3⟩ := ih (by omega)
    have e : w.take (k + 1) = w.take k ++ [w[k]'(by omega)] := by simp
    have hnd : (w.take (k + 1)).Nodup := h.sublist (List.take_sublist _ _)
    rw [e, List.nodup_append] at hnd
    have hn' : (insP (w.take k)).flatten.Nodup := h2.nodup_iff.2 hnd.1
    have hnot : w[k]'(by omega) ∉ (insP (w.take k)).flatten := fun hm => hnd.2.2 _ (h2.mem_iff.1 hm) _ (by simp) rfl
    rw [e, insP_snoc]
    refine ⟨h1.ins hn' hnot, ?_, ?_⟩
    · refine (tabIns_perm _ _).trans ?_
      refine (List.Perm.cons _ h2).trans ?_
      exact (List.perm_append_comm (l₁ := [w[k]'(by omega)]))
    · have h4 := h3.app [] [w[k]'(by omega)]
      simp only [List.nil_append] at h4
      exact h4.trans (kn_ins h1 hn' hnot)
end Go.Proofs.Ytdchjhhpbdekeaa

/- Insertion of a whole permutation, with the tableau that keeps the order. No program in sight. -/
namespace Go.Proofs.Ytdchjhhpbdekeaa
open Go
set_option maxRecDepth 100000

theorem tabIns_length : ∀ (T : List (List Int)) (v : Int), tabRow T v ≤ T.length ∧ (tabIns T v).length = if tabRow T v < T.length then T.length else T.length + 1
  | [], v => by simp [tabRow, tabIns]
  | R :: T, v => by
    have ih := tabIns_length T (R.getD (rpos R v) 0)
    rw [tabRow, tabIns]
    split
    · rw [List.length_cons, List.length_cons, ih.2]
      refine ⟨by omega, ?_⟩
      split <;> split <;> omega
    · simp
/-- One step of a row. -/
theorem tabIns_step {T1 : List (List Int)} {r : Nat} {n : Int} (hr : r < T1.length) (hp : rpos (T1.getD r []) n < (T1.getD r []).length) :
    T1.take r ++ tabIns (T1.drop r) n = (T1.set r ((T1.getD r []).set (rpos (T1.getD r []) n) n)).take (r + 1) ++ tabIns ((T1.set r ((T1.getD r []).set (rpos (T1.getD r []) n) n)).drop (r + 1)) ((T1.getD r []).getD (rpos (T1.getD r []) n) 0) ∧
    tabRow (T1.drop r) n = tabRow ((T1.set r ((T1.getD r []).set (rpos (T1.getD r []) n) n)).drop (r + 1)) ((T1.getD r []).getD (rpos (T1.getD r []) n) 0) + 1 := by
  have hd : T1.drop r = T1.getD r [] :: T1.drop (r + 1) := by
    rw [List.drop_eq_getElem_cons hr]; simp [List.getD_eq_getElem?_getD, List.getElem?_eq_getElem hr]
  have h1 : (T1.set r ((T1.getD r []).set (rpos (T1.getD r []) n) n)).drop (r + 1) = T1.drop (r + 1) := by rw [List.drop_set_of_lt (by omega)]
  have h2 : (T1.set r ((T1.getD r []).set (rpos (T1.getD r []) n) n)).take (r + 1) = T1.take r ++ [(T1.getD r []).set (rpos (T1.getD r []) n) n] := by
    rw [List.take_succ_eq_append_getElem (by simpa using hr), List.getElem_set_self, List.take_set_of_le (by omega)]
  rw [h1, h2, hd, tabIns, if_pos hp, tabRow, if_pos hp]
  simp
theorem tabIns_last {T1 : List (List Int)} {r : Nat} {n : Int} (hr : r < T1.length) (hp : ¬ rpos (T1.getD r []) n < (T1.getD r []).length) :
    T1.take r ++ tabIns (T1.drop r) n = T1.set r (T1.getD r [] ++ [n]) ∧ tabRow (T1.drop r) n = 0 := by
  have hd : T1.drop r = T1.getD r [] :: T1.drop (r + 1) := by
    rw [List.drop_eq_getElem_cons hr]; simp [List.getD_eq_getElem?_getD, List.getElem?_eq_getElem hr]
  rw [hd, tabIns, if_neg hp, tabRow, if_neg hp]
  refine ⟨?_, rfl⟩
  rw [List.set_eq_take_append_cons_drop, if_pos hr]
/-- A number put behind a row, or in a new one. -/
def addAt (Q : List (List Int)) (r : Nat) (x : Int) : List (List Int) := if r < Q.length then Q.set r (Q.getD r [] ++ [x]) else Q ++ [[x]]
def insQ (w : List Int) : Nat → List (List Int)
  | 0 => []
  | k + 1 => addAt (insQ w k) (tabRow (insP (w.take k)) (w.getD k 0)) ((k : Int) + 1)
theorem insQ_length (w : List Int) : ∀ k, k ≤ w.length → (insQ w k).length = (insP (w.take k)).length
  | 0, _ => rfl
  | k + 1, hk => by
    have ih := insQ_length w k (by omega)
    have h1 := tabIns_length (insP (w.take k)) (w.getD k 0)
    have e : w.take (k + 1) = w.take k ++ [w.getD k 0] := by rw [getD_lt (by omega)]; simp
    rw [insQ, addAt, e, insP_snoc, h1.2, ih]
    split <;> simp [ih]
theorem flat_tab {T : List (List Int)} {R : List Int} (h : R ∈ T) : R.length ≤ T.flatten.length := by
  induction T with
  | nil => cases h
  | cons S T ih =>
    rw [List.flatten_cons, List.length_append]
    rcases List.mem_cons.1 h with rfl | h
    · omega
    · have := ih h; omega
theorem insP_flat (w : List Int) : (insP w).flatten.length = w.length := by
  suffices H : ∀ k, k ≤ w.length → (insP (w.take k)).flatten.length = k by
    have := H w.length (Nat.le_refl _)
    rwa [List.take_length] at this
  intro k hk
  induction k with
  | zero => rfl
  | succ k ih =>
    have e : w.take (k + 1) = w.take k ++ [w[k]'(by omega)] := by simp
    rw [e, insP_snoc, (tabIns_perm _ _).length_eq, List.length_cons, ih (by omega)]
end Go.Proofs.Ytdchjhhpbdekeaa

/- InsertPerm: what it answers. -/
namespace Go.Proofs.Ytdchjhhpbdekeaa
open Go Go.RowKit
set_option maxRecDepth 100000

open Classical in
noncomputable def InsertPermV (L : List Int) : List (List Int) := if IsP L then insP L else []
open Classical in
noncomputable def InsertPermV1 (L : List Int) : List (List Int) := if IsP L then insQ L L.length else []
open Classical in
noncomputable def InsertPermV2 (L : List Int) : Bool := decide (IsP L)
theorem insP_tot {L : List Int} (h : IsP L) : (InsertPermV L).length < 2^38 ∧ tot (InsertPermV L) < 2^38 := by
  rw [InsertPermV, if_pos h]
  have h1 := insP_flat L
  rw [List.length_flatten] at h1
  have h2 : (insP L).length = (insQ L L.length).length := by rw [insQ_length L _ (Nat.le_refl _), List.take_length]
  have h3 : ∀ m, (insQ L m).length ≤ m := by
    intro m
    induction m with
    | zero => simp [insQ]
    | succ m ih => rw [insQ, addAt]; split <;> simp <;> omega
  have := h3 L.length
  have := h.1
  exact ⟨by omega, by unfold tot; omega⟩
end Go.Proofs.Ytdchjhhpbdekeaa

/- InsertPerm: the model's text. -/
namespace Go.Proofs.Ytdchjhhpbdekeaa
open Go Go.RowKit
set_option maxRecDepth 100000

theorem c_l19Put {w : World} {B : Nat} {t : Sl} {rs : List Sl} {T : List (List Int)} (h : OwnRows w B t rs T) (hB : B ≤ w.heap.size) (hT : T.length < 2^38) (hR : ∀ R ∈ T, R.length < 2^38) (n : Int) :
    Calls PP F.spec_l19Put #[t.v, vI n] w fun e w' => ∃ t' rs', e = .returned (.tuple #[t'.v, vI (tabRow T n)]) ∧ OwnRows w' B t' rs' (tabIns T n) ∧ Stp w w' (foot t rs) (foot t' rs') := by
  refine spec_l19Put.calls t n ?_
  rw [spec_l19Put.E_s]
  refine spec_l19Put.L2_rule _ _ _ _ _ (I := fun v r w' => 0 ≤ r ∧ r ≤ T.length ∧ ∃ T1, T1.length = T.length ∧ (∀ R ∈ T1, R.length < 2^38) ∧ OwnRows w' B t rs T1 ∧ B ≤ w'.heap.size ∧ Stp w w' (foot t rs) (foot t rs) ∧ T1.take r.toNat ++ tabIns (T1.drop r.toNat) v = tabIns T n ∧ r.toNat + tabRow (T1.drop r.toNat) v = tabRow T n)
    (μ := fun _ r _ => (T.length - r).toNat) ⟨by omega, by omega, T, rfl, hR, h, hB, Stp.refl _ _, by simp, by simp⟩ ?_
  rintro v r w' ⟨h0, hr, T1, hl, hR1, ho, hB1, hs, e1, e2⟩
  have hn := ho.n
  rw [spec_l19Put.B2_s, hn]
  refine bif_dec (fun h3 => ?_) (fun h3 => ?_)
  · have hr1 : r.toNat < T1.length := by omega
    have hRl : (T1.getD r.toNat []).length < 2^38 := hR1 _ (by rw [getD_SS hr1]; exact List.getElem_mem hr1)
    have hple := rpos_le (T1.getD r.toNat []) v
    refine spec_l19Put.L5_rule _ _ _ _ _ _ (I := fun c w2 => w2 = w' ∧ 0 ≤ c ∧ c ≤ rpos (T1.getD r.toNat []) v) (μ := fun c _ => (rpos (T1.getD r.toNat []) v + 1 - c).toNat) ⟨rfl, by omega, by omega⟩ ?_
    rintro c w2 ⟨rfl, hc0, hc⟩
    rw [spec_l19Put.B5_s]
    refine ho.load h0 (by omega) fun ρ _ hρ => ?_
    have hρn : ρ.n = (T1.getD r.toNat []).length := by have := hρ.n; simpa using this
    rw [hρn]
    -- behind the search
    have fin : c = rpos (T1.getD r.toNat []) v → spec_l19Put.q5 std (fun e2 w2 => ∃ n_1_n r_6_n, e2 = spec_l19Put.emb2 t n_1_n r_6_n ∧ (0 ≤ r_6_n ∧ r_6_n ≤ T.length ∧ ∃ T1, T1.length = T.length ∧ (∀ R ∈ T1, R.length < 2^38) ∧ OwnRows w2 B t rs T1 ∧ B ≤ w2.heap.size ∧ Stp w w2 (foot t rs) (foot t rs) ∧ T1.take r_6_n.toNat ++ tabIns (T1.drop r_6_n.toNat) n_1_n = tabIns T n ∧ r_6_n.toNat + tabRow (T1.drop r_6_n.toNat) n_1_n = tabRow T n) ∧ ((T.length : Int) - r_6_n).toNat < ((T.length : Int) - r).toNat) (spec_l19Put.q1 std fun e w' => ∃ t' rs', e = .returned (.tuple #[t'.v, vI (tabRow T n)]) ∧ OwnRows w' B t' rs' (tabIns T n) ∧ Stp w w' (foot t rs) (foot t' rs')) (.exit 2) (spec_l19Put.x2 t v r c) w2 := by
      intro hcp
      rw [spec_l19Put.A5_2_s]
      refine ho.load h0 (by omega) fun ρ _ hρ => ?_
      have hρn : ρ.n = (T1.getD r.toNat []).length := by have := hρ.n; simpa using this
      rw [hρn]
      refine bif_intro (fun h4 => ?_) (fun h4 => ?_)
      · have h4' : ¬ rpos (T1.getD r.toNat []) v < (T1.getD r.toNat []).length := by have := eq_of_beq h4; omega
        obtain ⟨k1, k2⟩ := tabIns_last hr1 h4'
        refine ho.appendAtF h0 (by omega) hB1 (by omega) fun w3 rs' ho3 hs3 => ?_
        rw [spec_l19Put.R2_s]
        refine ⟨t, rs', ?_, ?_, hs.trans hs3⟩
        · rw [← e2, k2]; congr 5; simp; omega
        · rw [← e1, k1]; exact ho3
      · have h4' : rpos (T1.getD r.toNat []) v < (T1.getD r.toNat []).length := by have := ne_of_beq_false h4; omega
        obtain ⟨k1, k2⟩ := tabIns_step hr1 h4'
        refine ho.load h0 (by omega) fun ρ2 _ hρ2 => ?_
        refine hρ2.row.get (sh := .int .i64) (r := (T1.getD r.toNat []).getD c.toNat 0) hc0 ?_ ?_
        · rw [List.getElem?_map, List.getElem?_eq_getElem (by omega), Option.map_some, getD_lt (by omega)]
        refine ho.setAtF h0 (by omega) hc0 (by omega) fun w3 ho3 hs3 hz3 => ?_
        have hcn : c.toNat = rpos (T1.getD r.toNat []) v := by omega
        rw [hcn] at ho3 ⊢
        refine ⟨_, r + 1, by rw [w64_succ h0 (by omega)], ⟨by omega, by omega, _, by rw [List.length_set]; exact hl, ?_, ho3, by omega, hs.trans hs3, ?_, ?_⟩, by omega⟩
        · intro R hR'
          rcases List.mem_or_eq_of_mem_set hR' with hR' | rfl
          · exact hR1 R hR'
          · rw [List.length_set]; exact hRl
        · rw [show (r + 1).toNat = r.toNat + 1 by omega, ← e1, k1]
        · rw [show (r + 1).toNat = r.toNat + 1 by omega, ← e2, k2]; omega
    refine bif_dec (fun h4 => ?_) (fun h4 => ?_)
    · refine ho.load h0 (by omega) fun ρ2 _ hρ2 => ?_
      refine hρ2.row.get (sh := .int .i64) (r := (T1.getD r.toNat []).getD c.toNat 0) hc0 ?_ ?_
      · rw [List.getElem?_map, List.getElem?_eq_getElem (by omega), Option.map_some, getD_lt (by omega)]
      refine bif_dec (fun h5 => ?_) (fun h5 => ?_)
      · refine ⟨c + 1, by rw [w64_succ hc0 (by omega)], ⟨rfl, by omega, ?_⟩, by omega⟩
        rcases Int.lt_or_le c (rpos (T1.getD r.toNat []) v) with h6 | h6
        · omega
        · have : c.toNat = rpos (T1.getD r.toNat []) v := by omega
          rw [this] at h5
          have := rpos_ge (T1.getD r.toNat []) v (by omega)
          omega
      · refine fin ?_
        rcases Int.lt_or_le c (rpos (T1.getD r.toNat []) v) with h6 | h6
        · have := rpos_lt (T1.getD r.toNat []) v c.toNat (by omega)
          omega
        · omega
    · refine fin (by omega)
  · have hrl : r.toNat = T1.length := by omega
    rw [spec_l19Put.A2_0_s]
    rw [hrl] at e1 e2
    simp only [List.take_length, List.drop_length, tabIns, tabRow, Nat.add_zero] at e1 e2
    refine lit1 oneInt hB1 (One.int v) ?_
    intro ρ w2 hρ hg2 hn2
    have hb2 := below_of_grow hg2
    refine ho.pushF hb2 hB1 (r := ρ) (L := [v]) (by simpa [OwnI] using hρ) (fun g hg => ?_) (by omega) ?_
    · rcases hn2 g hg with h4 | h4
      · simp [Sl.blk, Sl.nil] at h4
      · exact h4
    intro s' w3 ho3 hs3
    refine ⟨s', _, ?_, by rw [← e1]; exact ho3, hs.trans hs3⟩
    rw [hn, ← e2]
theorem c_l19Insert {w : World} {a : Sl} {L : List Int} (ha : RowI w a L) (hL : L.length < 2^30) :
    Calls PP F.spec_l19Insert #[a.v] w fun e w' => ∃ (s t : Sl) (rs rt : List Sl), e = .returned (.tuple #[s.v, t.v]) ∧ OwnRows w' w.heap.size s rs (insP L) ∧ OwnRows w' w.heap.size t rt (insQ L L.length) ∧ (∀ g, foot s rs g → ¬ foot t rt g) ∧ Below w.heap.size w w' := by
  have han : a.n = L.length := by have := ha.n; simpa using this
  refine spec_l19Insert.calls a ?_
  rw [spec_l19Insert.E_s]
  refine lit0 oneSint (B := w.heap.size) (Nat.le_refl _) ?_
  intro s0 w1 hs0 hg1 hc1
  have hb1 := below_of_grow hg1
  refine lit0 oneSint (B := w.heap.size) hb1.size ?_
  intro t0 w2 ht0 hg2 hc2
  have hb2 := below_of_grow hg2
  have hb02 := hb1.trans (hb2.mono hb1.size)
  refine spec_l19Insert.L4_rule _ _ _ _ _ _ (I := fun s t k w' => 0 ≤ k ∧ k ≤ L.length ∧ Below w.heap.size w w' ∧ ∃ rs rt, OwnRows w' w.heap.size s rs (insP (L.take k.toNat)) ∧ OwnRows w' w.heap.size t rt (insQ L k.toNat) ∧ (∀ g, foot s rs g → ¬ foot t rt g))
    (μ := fun _ _ k _ => (L.length - k).toNat) ⟨by omega, by omega, hb02, [], [], (OwnRows.nil hs0).grow hb2, OwnRows.nil ht0, fun g hg => ?_⟩ ?_
  · simp [foot, Sl.blk, hc1] at hg
  rintro s t k w' ⟨h0, hk, hb, rs, rt, hs, ht, hd⟩
  rw [spec_l19Insert.B4_s, han]
  refine bif_dec (fun h3 => ?_) (fun h3 => ?_)
  · have hlt : k.toNat < L.length := by omega
    refine RowI.get (ha.grow hb) h0 (by omega) ?_
    have hPl := insP_flat (L.take k.toNat)
    rw [List.length_take] at hPl
    have hPn : (insP (L.take k.toNat)).length ≤ k.toNat := by
      have h1 := insQ_length L k.toNat (by omega)
      rw [← h1]
      have : ∀ m, (insQ L m).length ≤ m := by
        intro m
        induction m with
        | zero => simp [insQ]
        | succ m ih => rw [insQ, addAt]; split <;> simp <;> omega
      exact this _
    have hQn := insQ_length L k.toNat (by omega)
    have hr := tabIns_length (insP (L.take k.toNat)) (L.getD k.toNat 0)
    have eP : tabIns (insP (L.take k.toNat)) (L.getD k.toNat 0) = insP (L.take (k + 1).toNat) := by
      rw [show (k + 1).toNat = k.toNat + 1 by omega, ← insP_snoc, getD_lt hlt]; simp
    have eQ : insQ L (k + 1).toNat = addAt (insQ L k.toNat) (tabRow (insP (L.take k.toNat)) (L.getD k.toNat 0)) (k + 1) := by
      rw [show (k + 1).toNat = k.toNat + 1 by omega, insQ]; congr 1; omega
    refine (c_l19Put hs hb.size (by omega) (fun R hR => by have := flat_tab hR; omega) _).mono ?_
    rintro e w3 ⟨s', rs', rfl, hs', hst⟩
    refine ⟨s', _, rfl, ?_⟩
    rw [eP] at hs'
    have hb3 : Below w.heap.size w' w3 := hst.below (fun g hg => (hs.footLt hg).1) hb.size
    have hb03 := hb.trans hb3
    have ht3 : OwnRows w3 w.heap.size t rt (insQ L k.toNat) := ht.keepsF hst.keeps fun g h1 h2 => hd g h2 h1
    have hd3 : ∀ g, foot s' rs' g → ¬ foot t rt g := hst.apart (fun g hg => (ht.footLt hg).2) hd
    rw [ht3.n]
    -- behind the new row
    have fin : ∀ (w4 : World) (t4 : Sl) (rt4 : List Sl) (Q4 : List (List Int)), Below w.heap.size w w4 → OwnRows w4 w.heap.size s' rs' (insP (L.take (k + 1).toNat)) → OwnRows w4 w.heap.size t4 rt4 Q4 → (∀ g, foot s' rs' g → ¬ foot t4 rt4 g) →
        tabRow (insP (L.take k.toNat)) (L.getD k.toNat 0) < Q4.length → (Q4.getD (tabRow (insP (L.take k.toNat)) (L.getD k.toNat 0)) []).length < 2^38 → Q4.set (tabRow (insP (L.take k.toNat)) (L.getD k.toNat 0)) (Q4.getD (tabRow (insP (L.take k.toNat)) (L.getD k.toNat 0)) [] ++ [k + 1]) = insQ L (k + 1).toNat →
        spec_l19Insert.J10 std a s' t4 k (tabRow (insP (L.take k.toNat)) (L.getD k.toNat 0)) w4 (fun e2 w2 => ∃ a_4_n b_5_n k_6_n, e2 = spec_l19Insert.emb4 a a_4_n b_5_n k_6_n ∧ (0 ≤ k_6_n ∧ k_6_n ≤ L.length ∧ Below w.heap.size w w2 ∧ ∃ rs rt, OwnRows w2 w.heap.size a_4_n rs (insP (L.take k_6_n.toNat)) ∧ OwnRows w2 w.heap.size b_5_n rt (insQ L k_6_n.toNat) ∧ (∀ g, foot a_4_n rs g → ¬ foot b_5_n rt g)) ∧ ((L.length : Int) - k_6_n).toNat < ((L.length : Int) - k).toNat) (spec_l19Insert.q5 std fun e w' => ∃ (s t : Sl) (rs rt : List Sl), e = .returned (.tuple #[s.v, t.v]) ∧ OwnRows w' w.heap.size s rs (insP L) ∧ OwnRows w' w.heap.size t rt (insQ L L.length) ∧ (∀ g, foot s rs g → ¬ foot t rt g) ∧ Below w.heap.size w w') := by
      intro w4 t4 rt4 Q4 hb4 hs4 ht4 hd4 hq hql heq
      rw [spec_l19Insert.J10_s, w64_succ h0 (by omega)]
      refine ht4.appendAtF (i := (tabRow (insP (L.take k.toNat)) (L.getD k.toNat 0) : Int)) (by omega) (by omega) hb4.size (by simpa using Nat.lt_trans hql (by decide)) fun w5 rt5 ht5 hst5 => ?_
      refine ⟨s', t4, k + 1, rfl, ⟨by omega, by omega, hb4.trans (hst5.below (fun g hg => (ht4.footLt hg).1) hb4.size), rs', rt5, ?_, ?_, ?_⟩, by omega⟩
      · exact hs4.keepsF hst5.keeps fun g h1 h2 => hd4 g h1 h2
      · rw [Int.toNat_natCast, heq] at ht5; exact ht5
      · intro g h1 h2
        exact hst5.apart (F := foot s' rs') (fun g hg => (hs4.footLt hg).2) (fun g h3 h4 => hd4 g h4 h3) g h2 h1
    have hQ : ∀ M ∈ insQ L k.toNat, M.length < 2^38 := by
      have : ∀ m, ∀ M ∈ insQ L m, M.length ≤ m := by
        intro m
        induction m with
        | zero => intro M hM; simp [insQ] at hM
        | succ m ih =>
          intro M hM
          rw [insQ, addAt] at hM
          split at hM
          · rename_i hlt
            rcases List.mem_or_eq_of_mem_set hM with hM | rfl
            · have := ih M hM; omega
            · have := ih _ (show (insQ L m).getD (tabRow (insP (L.take m)) (L.getD m 0)) [] ∈ insQ L m by rw [getD_SS hlt]; exact List.getElem_mem hlt)
              simp at this ⊢; omega
          · rcases List.mem_append.1 hM with hM | hM
            · have := ih M hM; omega
            · simp at hM; subst hM; simp
      intro M hM
      have := this _ M hM; omega
    refine bif_intro (fun h4 => ?_) (fun h4 => ?_)
    · have h4' : tabRow (insP (L.take k.toNat)) (L.getD k.toNat 0) = (insQ L k.toNat).length := by have := eq_of_beq h4; omega
      refine lit0 oneInt hb03.size ?_
      intro ρ w4 hρ hg4 hc4
      have hb4 := below_of_grow hg4
      refine ht3.pushF hb4 hb03.size (r := ρ) (L := []) (by simpa [OwnI] using hρ) (fun g hg => ?_) (by omega) ?_
      · simp [Sl.blk, hc4] at hg
      intro t5 w5 ht5 hst5
      refine fin w5 t5 _ _ (hb03.trans (hst5.below (fun g hg => (ht3.footLt hg).1) hb03.size)) (hs'.keepsF hst5.keeps fun g h1 h2 => hd3 g h1 h2) ht5 (fun g h1 h2 => hst5.apart (F := foot s' rs') (fun g hg => (hs'.footLt hg).2) (fun g h3 h4 => hd3 g h4 h3) g h2 h1) (by rw [List.length_append, List.length_singleton]; omega) ?_ ?_
      · rw [h4']; simp
      · rw [eQ, addAt, if_neg (by omega), h4']; simp
    · have h4' : tabRow (insP (L.take k.toNat)) (L.getD k.toNat 0) < (insQ L k.toNat).length := by have := ne_of_beq_false h4; omega
      refine fin w3 t rt _ hb03 hs' ht3 hd3 h4' (hQ _ (by rw [getD_SS h4']; exact List.getElem_mem h4')) ?_
      rw [eQ, addAt, if_pos h4']
  · rw [spec_l19Insert.A4_0_s]
    have e : k.toNat = L.length := by omega
    rw [e, List.take_length] at hs
    rw [e] at ht
    exact ⟨s, t, rs, rt, rfl, hs, ht, hd, hb⟩
open Classical in
theorem c_specInsertPermO {w : World} {a : Sl} {L : List Int} (ha : RowI w a L) (hL : L.length < 2^38) :
    Calls PP F.spec_InsertPerm #[a.v] w fun e w' => ∃ (s t : Sl) (rs rt : List Sl), e = .returned (.tuple #[s.v, t.v, .bool (InsertPermV2 L)]) ∧ OwnRows w' w.heap.size s rs (InsertPermV L) ∧ OwnRows w' w.heap.size t rt (InsertPermV1 L) ∧ (∀ g, foot s rs g → ¬ foot t rt g) ∧ Below w.heap.size w w' := by
  refine spec_InsertPerm.calls a ?_
  rw [spec_InsertPerm.E_s]
  refine Quiet.call1 (s := .bool) (c_specIsPerm ha hL) ?_
  intro w1 hd1
  have hb1 := hd1.below w.heap.size
  refine bif_intro (fun h => ?_) (fun h => ?_)
  · have hn : ¬ IsP L := fun hh => by simp [hh] at h
    refine lit0 oneSint (B := w.heap.size) hb1.size ?_
    intro s0 w2 hs0 hg2 hc2
    have hb2 := below_of_grow hg2
    have hb02 := hb1.trans (hb2.mono hb1.size)
    refine lit0 oneSint (B := w.heap.size) hb02.size ?_
    intro t0 w3 ht0 hg3 hc3
    have hb3 := below_of_grow hg3
    refine ⟨s0, t0, [], [], ?_⟩
    rw [InsertPermV, InsertPermV1, InsertPermV2, if_neg hn, if_neg hn, decide_eq_false hn]
    exact ⟨rfl, (OwnRows.nil hs0).grow hb3, OwnRows.nil ht0, fun g hg => by simp [foot, Sl.blk, hc2] at hg, hb02.trans (hb3.mono hb02.size)⟩
  · have hP : IsP L := by simpa using h
    refine (c_l19Insert (ha.grow hb1) (by have := hP.1; omega)).mono ?_
    rintro e w2 ⟨s, t, rs, rt, rfl, h1, h2, h3, h4⟩
    refine ⟨s, t, rfl, s, t, rs, rt, ?_⟩
    rw [InsertPermV, InsertPermV1, InsertPermV2, if_pos hP, if_pos hP, decide_eq_true hP]
    exact ⟨rfl, h1.mono hb1.size, h2.mono hb1.size, h3, hb1.trans (h4.mono hb1.size)⟩
open Classical in
theorem c_specInsertPerm {w : World} {a : Sl} {L : List Int} (ha : RowI w a L) (hL : L.length < 2^38) :
    Calls PP F.spec_InsertPerm #[a.v] w fun e w' => ∃ (s t : Sl), e = .returned (.tuple #[s.v, t.v, .bool (InsertPermV2 L)]) ∧ RowSS w' s (InsertPermV L) ∧ RowSS w' t (InsertPermV1 L) ∧ Below w.heap.size w w' :=
  (c_specInsertPermO ha hL).mono fun _ _ ⟨s, t, _, _, h1, h2, h3, _, h4⟩ => ⟨s, t, h1, h2.row, h3.row, h4⟩
end Go.Proofs.Ytdchjhhpbdekeaa

/- Greene: of the word of a tableau, k colours colour as many places as its first k rows have. No program in sight. -/
namespace Go.Proofs.Ytdchjhhpbdekeaa
open Go
set_option maxRecDepth 100000

def tots (T : List (List Int)) : Nat := (T.map List.length).sum
theorem tots_cons (R : List Int) (T : List (List Int)) : tots (R :: T) = R.length + tots T := by simp [tots]
theorem Tab.tail {R : List Int} {T : List (List Int)} (h : Tab (R :: T)) : Tab T := h.2.2.2
theorem Under.trans {R S U : List Int} (h : Under R S) (k : Under S U) : Under R U := ⟨Nat.le_trans k.1 h.1, fun j hj => by have := h.2 j (by have := k.1; omega); have := k.2 j hj; omega⟩
theorem Tab.under : ∀ {T : List (List Int)}, Tab T → T.Pairwise Under
  | [], _ => List.Pairwise.nil
  | R :: T, h => by
    have ih := Tab.under h.tail
    refine List.Pairwise.cons (fun S hS => ?_) ih
    cases T with
    | nil => cases hS
    | cons U T =>
      have h1 := h.2.2.1 U rfl
      rcases List.mem_cons.1 hS with rfl | hS
      · exact h1
      · exact h1.trans ((List.pairwise_cons.1 ih).1 S hS)
theorem Tab.inc {T : List (List Int)} (h : Tab T) : ∀ R ∈ T, Inc R := by
  induction T with
  | nil => intro R hR; cases hR
  | cons S T ih =>
    intro R hR
    rcases List.mem_cons.1 hR with rfl | hR
    · exact h.2.1
    · exact ih h.tail R hR

/-! ### No fewer -/
def paint (k i : Nat) (R : List Int) : List (Int × Nat) := R.map fun x => (x, if i < k then i + 1 else 0)
def paints (k : Nat) : Nat → List (List Int) → List (Int × Nat)
  | _, [] => []
  | i, R :: T => paints k (i + 1) T ++ paint k i R
theorem paints_wd (k : Nat) : ∀ (i : Nat) (T : List (List Int)), wd (paints k i T) = tword T
  | _, [] => rfl
  | i, R :: T => by
    have e : wd (paint k i R) = R := by
      simp only [wd, paint, List.map_map]
      exact List.map_id'' (fun _ => rfl) R
    rw [paints, wd_append, paints_wd k (i + 1) T, tword, e]
theorem paints_col (k : Nat) : ∀ (i : Nat) (T : List (List Int)), ∀ x ∈ paints k i T, x.2 ≤ k ∧ (x.2 ≠ 0 → i < x.2)
  | _, [], x, h => by cases h
  | i, R :: T, x, h => by
    rw [paints] at h
    rcases List.mem_append.1 h with h | h
    · have := paints_col k (i + 1) T x h; omega
    · simp only [paint, List.mem_map] at h
      obtain ⟨y, _, rfl⟩ := h
      simp only
      split <;> omega
theorem paints_asc (k : Nat) : ∀ (i : Nat) {T : List (List Int)}, (∀ R ∈ T, Inc R) → AscW (paints k i T)
  | _, [], _ => List.Pairwise.nil
  | i, R :: T, h => by
    rw [paints, AscW, List.pairwise_append]
    refine ⟨paints_asc k (i + 1) fun S hS => h S (by simp [hS]), ?_, fun x hx y hy e1 e2 => ?_⟩
    · rw [paint, List.pairwise_map]
      exact (h R (by simp)).imp fun hab _ _ => hab
    · have := (paints_col k (i + 1) T x hx).2 e2
      simp only [paint, List.mem_map] at hy
      obtain ⟨z, _, rfl⟩ := hy
      simp only at e1
      split at e1 <;> omega
theorem paints_cnt (k : Nat) : ∀ (i : Nat) (T : List (List Int)), cnt (paints k i T) = tots (T.take (k - i))
  | i, [] => by simp [paints, cnt, tots]
  | i, R :: T => by
    rw [paints, cnt_append, paints_cnt k (i + 1) T]
    by_cases h : i < k
    · rw [show k - i = (k - (i + 1)) + 1 by omega, List.take_succ_cons, tots_cons]
      have : cnt (paint k i R) = R.length := by
        simp only [cnt, paint, h, if_true]
        rw [List.filter_eq_self.2 (by simp)]
        simp
      omega
    · rw [show k - i = 0 by omega, show k - (i + 1) = 0 by omega]
      have : cnt (paint k i R) = 0 := by
        simp [cnt, paint, h]
      rw [this]; rfl
theorem greene_lower {T : List (List Int)} (h : ∀ R ∈ T, Inc R) (k : Nat) : Reach k (tword T) (tots (T.take k)) :=
  ⟨paints k 0 T, paints_wd k 0 T, paints_asc k 0 h, fun x hx => (paints_col k 0 T x hx).1, paints_cnt k 0 T⟩

/-! ### No more -/
/-- Different colours: at most k. -/
theorem cnt_distinct : ∀ (k : Nat) {W : List (Int × Nat)}, (∀ x ∈ W, x.2 ≤ k) → W.Pairwise (fun x y => x.2 = y.2 → x.2 = 0) → cnt W ≤ k
  | 0, W, h, _ => by
    have : W.filter (fun x => decide (x.2 ≠ 0)) = [] := by
      rw [List.filter_eq_nil_iff]
      intro x hx; have := h x hx; simp only [ne_eq, decide_eq_true_eq]; omega
    rw [cnt, this]; exact Nat.le_refl _
  | k + 1, W, h, hp => by
    have ih := cnt_distinct k (W := W.filter fun x => decide (x.2 ≠ k + 1)) (fun x hx => by
      have h1 := List.mem_filter.1 hx
      have := h x h1.1
      have h2 : x.2 ≠ k + 1 := by simpa using h1.2
      omega) (hp.sublist List.filter_sublist)
    have key : ∀ V : List (Int × Nat), V.Pairwise (fun x y => x.2 = y.2 → x.2 = 0) → cnt V ≤ cnt (V.filter fun x => decide (x.2 ≠ k + 1)) + 1 := by
      intro V hV
      induction V with
      | nil => simp [cnt]
      | cons x V ih2 =>
        rw [List.pairwise_cons] at hV
        by_cases hx : x.2 = k + 1
        · have : (x :: V).filter (fun x => decide (x.2 ≠ k + 1)) = V := by
            rw [List.filter_cons_of_neg (by simp [hx]), List.filter_eq_self]
            intro y hy
            have := hV.1 y hy
            simp only [ne_eq, decide_eq_true_eq]
            intro e; have := this (by omega); omega
          rw [this, cnt_cons]; split <;> omega
        · rw [List.filter_cons_of_pos (by simp [hx]), cnt_cons, cnt_cons]
          have := ih2 hV.2
          omega
    have := key W hp
    omega
/-- A coloured tableau: its rows, and the word. -/
def cword : List (List (Int × Nat)) → List (Int × Nat)
  | [] => []
  | R :: C => cword C ++ R
theorem split_word : ∀ {T : List (List Int)} {W : List (Int × Nat)}, wd W = tword T → ∃ C, C.map wd = T ∧ cword C = W
  | [], W, h => by
    have : W = [] := by simpa [wd, tword] using h
    exact ⟨[], rfl, this.symm⟩
  | R :: T, W, h => by
    rw [tword, wd] at h
    obtain ⟨U, V, rfl, h1, h2⟩ := List.map_eq_append_iff.1 h
    obtain ⟨C, h3, h4⟩ := split_word (T := T) (W := U) h1
    exact ⟨V :: C, by rw [List.map_cons, h3]; simp only [wd, h2], by rw [cword, h4]⟩
def UnderC (R S : List (Int × Nat)) : Prop := S.length ≤ R.length ∧ ∀ (j : Nat) (x y : Int × Nat), R[j]? = some x → S[j]? = some y → x.1 < y.1
theorem underC_of {R S : List (Int × Nat)} (h : Under (wd R) (wd S)) : UnderC R S := by
  refine ⟨by simpa [wd] using h.1, fun j x y h1 h2 => ?_⟩
  have hj : j < S.length := (List.getElem?_eq_some_iff.1 h2).1
  have := h.2 j (by simpa [wd] using hj)
  simpa [wd, List.getD_eq_getElem?_getD, h1, h2] using this
theorem UnderC.tail {R S : List (Int × Nat)} (h : UnderC R S) : UnderC R.tail S.tail :=
  ⟨by simp; have := h.1; omega, fun j x y h1 h2 => h.2 (j + 1) x y (by simpa using h1) (by simpa using h2)⟩
def firsts (C : List (List (Int × Nat))) : List (Int × Nat) := C.filterMap List.head?
def full (C : List (List (Int × Nat))) : Nat := (C.filter fun R => !R.isEmpty).length
theorem firsts_length (C : List (List (Int × Nat))) : (firsts C).length = full C := by
  induction C with
  | nil => rfl
  | cons R C ih =>
    cases R with
    | nil => exact ih
    | cons x R => exact congrArg (· + 1) ih
theorem cword_cnt (C : List (List (Int × Nat))) : cnt (cword C) = cnt (firsts C) + cnt (cword (C.map List.tail)) := by
  induction C with
  | nil => rfl
  | cons R C ih =>
    rw [cword, cnt_append, ih]
    cases R with
    | nil => simp only [List.map_cons, List.tail_nil, cword, cnt_append]; rw [show firsts ([] :: C) = firsts C from rfl]; simp [cnt]
    | cons x R =>
      simp only [List.map_cons, List.tail_cons, cword, cnt_append]
      rw [show firsts ((x :: R) :: C) = x :: firsts C from rfl, cnt_cons, cnt_cons]; omega
def totc (C : List (List (Int × Nat))) : Nat := (C.map List.length).sum
theorem totc_tail (C : List (List (Int × Nat))) : totc C = full C + totc (C.map List.tail) := by
  induction C with
  | nil => rfl
  | cons R C ih =>
    cases R with
    | nil => simp [totc, full] at ih ⊢; exact ih
    | cons x R => simp [totc, full] at ih ⊢; omega
theorem cword_tail_sub (C : List (List (Int × Nat))) : (cword (C.map List.tail)).Sublist (cword C) := by
  induction C with
  | nil => exact List.Sublist.refl _
  | cons R C ih => exact ih.append (List.tail_sublist R)
theorem firsts_mem {C : List (List (Int × Nat))} {x : Int × Nat} (h : x ∈ firsts C) : ∃ R ∈ C, R[0]? = some x := by
  simp only [firsts, List.mem_filterMap] at h
  obtain ⟨R, h1, h2⟩ := h
  exact ⟨R, h1, by rw [← List.head?_eq_getElem?]; exact h2⟩
theorem cword_mem {C : List (List (Int × Nat))} {x : Int × Nat} : x ∈ cword C ↔ ∃ R ∈ C, x ∈ R := by
  induction C with
  | nil => simp [cword]
  | cons R C ih => rw [cword, List.mem_append, ih]; simp; rw [or_comm]
theorem firsts_diff {C : List (List (Int × Nat))} (hu : C.Pairwise UnderC) (ha : AscW (cword C)) : (firsts C).Pairwise fun x y => x.2 = y.2 → x.2 = 0 := by
  induction C with
  | nil => exact List.Pairwise.nil
  | cons R C ih =>
    rw [List.pairwise_cons] at hu
    rw [cword, AscW, List.pairwise_append] at ha
    have ih' := ih hu.2 ha.1
    cases R with
    | nil => exact ih'
    | cons x R =>
      refine List.Pairwise.cons (fun y hy e => ?_) ih'
      obtain ⟨S, hS, h0⟩ := firsts_mem hy
      have hlt := (hu.1 S hS).2 0 x y rfl h0
      have hmem : y ∈ cword C := cword_mem.2 ⟨S, hS, List.mem_of_getElem? h0⟩
      rcases Nat.eq_zero_or_pos x.2 with h1 | h1
      · exact h1
      · have := ha.2.2 y hmem x (by simp) e.symm (by omega)
        omega
theorem full_take {C : List (List (Int × Nat))} (hu : C.Pairwise UnderC) (k : Nat) : full (C.take k) = min k (full C) := by
  induction C generalizing k with
  | nil => simp [full]
  | cons R C ih =>
    rw [List.pairwise_cons] at hu
    cases k with
    | zero => simp [full]
    | succ k =>
      rw [List.take_succ_cons]
      cases R with
      | nil =>
        have h0 : ∀ n, full (C.take n) = 0 := fun n => by
          unfold full
          rw [List.filter_eq_nil_iff.2]
          · rfl
          · intro S hS
            have h1 := (hu.1 S (List.mem_of_mem_take hS)).1
            have : S = [] := List.eq_nil_of_length_eq_zero (by simpa using h1)
            simp [this]
        have h1 : full C = 0 := by have := h0 C.length; rwa [List.take_length] at this
        have e : ∀ D, full ([] :: D) = full D := fun D => rfl
        rw [e, e, h0, h1]; omega
      | cons x R =>
        have e : ∀ D, full ((x :: R) :: D) = full D + 1 := fun D => by simp [full]
        rw [e, e, ih hu.2 k]; omega
theorem upper_aux (k : Nat) : ∀ (n : Nat) (C : List (List (Int × Nat))), (∀ R ∈ C, R.length ≤ n) → C.Pairwise UnderC → AscW (cword C) → (∀ x ∈ cword C, x.2 ≤ k) → cnt (cword C) ≤ totc (C.take k)
  | 0, C, h, _, _, _ => by
    have : cword C = [] := by
      rw [List.eq_nil_iff_forall_not_mem]
      intro x hx
      obtain ⟨R, hR, hx⟩ := cword_mem.1 hx
      have := h R hR
      have : R = [] := List.eq_nil_of_length_eq_zero (by omega)
      subst this; cases hx
    rw [this]; simp [cnt]
  | n + 1, C, h, hu, ha, hk => by
    have hsub := cword_tail_sub C
    have ih := upper_aux k n (C.map List.tail) (fun R hR => by
      obtain ⟨S, hS, rfl⟩ := List.mem_map.1 hR
      have := h S hS; simp; omega) (by rw [List.pairwise_map]; exact hu.imp fun h => h.tail) (ha.sublist hsub) (fun x hx => hk x (hsub.subset hx))
    rw [← List.map_take] at ih
    rw [cword_cnt, totc_tail (C.take k), full_take hu]
    have h1 : cnt (firsts C) ≤ full C := by
      rw [← firsts_length]; exact List.length_filter_le _ _
    have h2 : cnt (firsts C) ≤ k := cnt_distinct k (fun x hx => by
      obtain ⟨R, hR, h0⟩ := firsts_mem hx
      exact hk x (cword_mem.2 ⟨R, hR, List.mem_of_getElem? h0⟩)) (firsts_diff hu ha)
    omega
theorem len_le_totc {C : List (List (Int × Nat))} {R : List (Int × Nat)} (h : R ∈ C) : R.length ≤ totc C := by
  induction C with
  | nil => cases h
  | cons S C ih =>
    have e : totc (S :: C) = S.length + totc C := by simp [totc]
    rw [e]
    rcases List.mem_cons.1 h with rfl | h
    · omega
    · have := ih h; omega
theorem greene_upper {T : List (List Int)} (h : T.Pairwise Under) {k n : Nat} (hr : Reach k (tword T) n) : n ≤ tots (T.take k) := by
  obtain ⟨W, h1, h2, h3, h4⟩ := hr
  obtain ⟨C, h5, h6⟩ := split_word h1
  subst h6
  have hu : C.Pairwise UnderC := by
    rw [← h5, List.pairwise_map] at h
    exact h.imp underC_of
  have h7 := upper_aux k (totc C) C (fun R hR => len_le_totc hR) hu h2 h3
  rw [h4] at h7
  refine Nat.le_trans h7 (Nat.le_of_eq ?_)
  rw [← h5, tots, totc, ← List.map_take, List.map_map]
  congr 1
  apply List.map_congr_left
  intro R _
  simp [wd]
/-- The greatest number of places that k colours colour in a word is what the first k rows of its tableau have. -/
theorem greene {w : List Int} (h : w.Nodup) (k : Nat) : Reach k w (tots ((insP w).take k)) ∧ ∀ n, Reach k w n → n ≤ tots ((insP w).take k) := by
  obtain ⟨h1, h2, h3⟩ := insP_all h
  exact ⟨h3.symm.reach (greene_lower h1.inc k), fun n hn => greene_upper h1.under (h3.reach hn)⟩
end Go.Proofs.Ytdchjhhpbdekeaa
