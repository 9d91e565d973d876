/- What each function does, step by step, written by a program (Gen.lean); each equation is checked by the kernel. -/
import Derived.Test.YtmhgjfahgemblaaHead
namespace Go.Proofs.Ytmhgjfahgemblaa
open Go
set_option linter.unusedVariables false
set_option maxRecDepth 100000
namespace spec_IsBasis
@[reducible] def cfg : Cfg := ⟨59, [(7, [0, 3, 4]), (2, [0, 3])], [(3, [0, 3, 4]), (2, [0, 3]), (1, [0, 3]), (0, [0])], [(10, [0, 3, 4, 55])], [2], [4], [62, 10, 22, 58, 24, 44, 18, 70, 43, 85, 25, 71, 59, 37, 63], [82, 113, 102, 38, 103, 26, 60]⟩
def q0 (pr : Prims) (R : Ending → World → Prop) : Exit → Env → World → Prop := fun ex e w => normQ ex (fun e w => contE pr cfg (sub (codeOf Try.f45) [1, 1]) (fun e w => wpC pr PP cfg (DD pr) (sub (codeOf Try.f45) [1, 1]) (retQ Try.f45.results.toList R) e w) e w) (retQ Try.f45.results.toList R) e w
def q1 (pr : Prims) (R : Ending → World → Prop) : Exit → Env → World → Prop := fun ex e w => blockQ ex 0 (q0 pr R) e w
def q2 (pr : Prims) (k : Env → World → Prop) (Q : Exit → Env → World → Prop) : Exit → Env → World → Prop := fun ex e w => normQ ex (fun e w => contE pr cfg (sub (codeOf Try.f45) [1, 0, 1, 0, 0, 1, 1]) (fun e w => wpC pr PP cfg (DD pr) (sub (codeOf Try.f45) [1, 0, 1, 0, 0, 1, 1]) (fun ex e w => normQ ex (fun e' w' => k (Env.restr e' (lookN cfg.loops (keyOf (sub (codeOf Try.f45) [1, 0, 1, 0, 0])))) w') Q e w) e w) e w) (fun ex e w => normQ ex (fun e' w' => k (Env.restr e' (lookN cfg.loops (keyOf (sub (codeOf Try.f45) [1, 0, 1, 0, 0])))) w') Q e w) e w
def q3 (pr : Prims) (k : Env → World → Prop) (Q : Exit → Env → World → Prop) : Exit → Env → World → Prop := fun ex e w => blockQ ex 1 (q2 pr k Q) e w
def q17 (pr : Prims) (k : Env → World → Prop) (Q : Exit → Env → World → Prop) : Exit → Env → World → Prop := fun ex e w => blockQ ex 2 (q3 pr k Q) e w
def q18 (pr : Prims) (k : Env → World → Prop) (Q : Exit → Env → World → Prop) : Exit → Env → World → Prop := fun ex e w => normQ ex (fun e w => contE pr cfg (sub (codeOf Try.f45) [1, 0, 1, 0, 0, 1, 0, 0, 1, 1, 0, 0, 1, 1]) (fun e w => wpC pr PP cfg (DD pr) (sub (codeOf Try.f45) [1, 0, 1, 0, 0, 1, 0, 0, 1, 1, 0, 0, 1, 1]) (fun ex e w => normQ ex (fun e' w' => k (Env.restr e' (lookN cfg.loops (keyOf (sub (codeOf Try.f45) [1, 0, 1, 0, 0, 1, 0, 0, 1, 1, 0, 0])))) w') Q e w) e w) e w) (fun ex e w => normQ ex (fun e' w' => k (Env.restr e' (lookN cfg.loops (keyOf (sub (codeOf Try.f45) [1, 0, 1, 0, 0, 1, 0, 0, 1, 1, 0, 0])))) w') Q e w) e w
def q19 (pr : Prims) (k : Env → World → Prop) (Q : Exit → Env → World → Prop) : Exit → Env → World → Prop := fun ex e w => blockQ ex 3 (q18 pr k Q) e w
def q20 (pr : Prims) (k : Env → World → Prop) (Q : Exit → Env → World → Prop) : Exit → Env → World → Prop := fun ex e w => normQ ex (fun e w => contE pr cfg (sub (codeOf Try.f45) [1, 0, 1, 0, 0, 1, 0, 0, 1, 1, 0, 0, 1, 0, 0, 1]) (fun e w => wpC pr PP cfg (DD pr) (sub (codeOf Try.f45) [1, 0, 1, 0, 0, 1, 0, 0, 1, 1, 0, 0, 1, 0, 0, 1]) (q19 pr k Q) e w) e w) (q19 pr k Q) e w
def emb2 (list_0 : Sl) (k_3 : Int) : Env := [(0, Sl.v list_0), (3, vI k_3)]
def emb7 (list_0 : Sl) (k_3 : Int) (i_4 : Int) : Env := [(0, Sl.v list_0), (3, vI k_3), (4, vI i_4)]
def j10 (list_0 : Sl) (k_3 : Int) (i_4 : Int) (t55 : Bool) : Env := [(0, Sl.v list_0), (3, vI k_3), (4, vI i_4), (55, .bool t55)]
def x2 (list_0 : Sl) (k_3 : Int) : Env := [(0, Sl.v list_0), (3, vI k_3)]
def x0 (list_0 : Sl) : Env := [(0, Sl.v list_0)]
def S7 (pr : Prims) (Q : Exit → Env → World → Prop) : (Env → World → Prop) → Env → World → Prop := fun k e w => wpC pr PP cfg (DD pr) (sub (codeOf Try.f45) [1, 0, 1, 0, 0, 1, 0, 0, 1, 1, 0, 0]) (fun ex e w => normQ ex (fun e' w' => k (Env.restr e' (lookN cfg.loops (keyOf (sub (codeOf Try.f45) [1, 0, 1, 0, 0, 1, 0, 0, 1, 1, 0, 0])))) w') Q e w) e w
def S2 (pr : Prims) (Q : Exit → Env → World → Prop) : (Env → World → Prop) → Env → World → Prop := fun k e w => wpC pr PP cfg (DD pr) (sub (codeOf Try.f45) [1, 0, 1, 0, 0]) (fun ex e w => normQ ex (fun e' w' => k (Env.restr e' (lookN cfg.loops (keyOf (sub (codeOf Try.f45) [1, 0, 1, 0, 0])))) w') Q e w) e w
def J10 (pr : Prims) (list_0 : Sl) (k_3 : Int) (i_4 : Int) (t55 : Bool) (w : World) (k : Env → World → Prop) (Q : Exit → Env → World → Prop) : Prop :=
  pr.seg (fun e w => wpC pr PP cfg (DD pr) (sub (codeOf Try.f45) [1, 0, 1, 0, 0, 1, 0, 0, 1, 1, 0, 0, 1, 0, 0, 1]) (q19 pr k Q) e w) (j10 list_0 k_3 i_4 t55) w
def B7 (pr : Prims) (list_0 : Sl) (k_3 : Int) (i_4 : Int) (w : World) (k : Env → World → Prop) (Q : Exit → Env → World → Prop) : Prop :=
  S7 pr Q k (emb7 list_0 k_3 i_4) w
def L7 (pr : Prims) (list_0 : Sl) (k_3 : Int) (i_4 : Int) (w : World) (Q : Exit → Env → World → Prop) : Prop :=
  pr.loop (S7 pr Q) (emb7 list_0 k_3 i_4) w
def B2 (pr : Prims) (list_0 : Sl) (k_3 : Int) (w : World) (k : Env → World → Prop) (Q : Exit → Env → World → Prop) : Prop :=
  S2 pr Q k (emb2 list_0 k_3) w
def L2 (pr : Prims) (list_0 : Sl) (k_3 : Int) (w : World) (Q : Exit → Env → World → Prop) : Prop :=
  pr.loop (S2 pr Q) (emb2 list_0 k_3) w
def E (pr : Prims) (list_0 : Sl) (w : World) (R : Ending → World → Prop) : Prop :=
  wpC pr PP cfg (DD pr) (codeOf Try.f45) (retQ Try.f45.results.toList R) (argE 0 [Sl.v list_0]) w
theorem J10_gen (pr : Prims) (list_0 : Sl) (k_3 : Int) (i_4 : Int) (t55 : Bool) (w : World) (k : Env → World → Prop) (Q : Exit → Env → World → Prop) : wpC pr PP cfg (DD pr) (sub (codeOf Try.f45) [1, 0, 1, 0, 0, 1, 0, 0, 1, 1, 0, 0, 1, 0, 0, 1]) (q19 pr k Q) (j10 list_0 k_3 i_4 t55) w = (
  bif t55 then (
  Q .ret [(2, .bool false)] w)
  else (
  k (emb7 list_0 k_3 (w64 (i_4 + 1))) w)) := by kernel_rfl
theorem J10_s (list_0 : Sl) (k_3 : Int) (i_4 : Int) (t55 : Bool) (w : World) (k : Env → World → Prop) (Q : Exit → Env → World → Prop) : J10 std list_0 k_3 i_4 t55 w k Q = (
  bif t55 then (
  Q .ret [(2, .bool false)] w)
  else (
  k (emb7 list_0 k_3 (w64 (i_4 + 1))) w)) := J10_gen std list_0 k_3 i_4 t55 w k Q
theorem B7_eq (pr : Prims) (list_0 : Sl) (k_3 : Int) (i_4 : Int) (w : World) (k : Env → World → Prop) (Q : Exit → Env → World → Prop) : B7 pr list_0 k_3 i_4 w k Q = (
  bif decide (i_4 < k_3) then (
  pr.drewAll w fun ω21 =>
  pr.idxK 1 list_0 k_3 fun (a22 : Addr) =>
  pr.idxK 1 list_0 i_4 fun (a23 : Addr) =>
  (pr.load1 .sl a22 ω21 fun (ξ24 : Sl) =>
  pr.load1 .sl a23 ω21 fun (ξ25 : Sl) =>
  pr.call1 .bool PP F.spec_l7Has #[Sl.v ξ24, Sl.v ξ25] ω21 fun (ρ26 : Bool) ω27 =>
  J10 pr list_0 k_3 i_4 ρ26 ω27 k Q) ∧
  (pr.load1 .sl a23 ω21 fun (ξ28 : Sl) =>
  pr.load1 .sl a22 ω21 fun (ξ29 : Sl) =>
  pr.call1 .bool PP F.spec_l7Has #[Sl.v ξ29, Sl.v ξ28] ω21 fun (ρ30 : Bool) ω31 =>
  J10 pr list_0 k_3 i_4 ρ30 ω31 k Q))
  else (
  Q (.exit 2) (x2 list_0 k_3) w)) := by kernel_rfl
theorem B7_s (list_0 : Sl) (k_3 : Int) (i_4 : Int) (w : World) (k : Env → World → Prop) (Q : Exit → Env → World → Prop) : B7 std list_0 k_3 i_4 w k Q = (
  bif decide (i_4 < k_3) then (
  drewAll w fun ω21 =>
  idxK 1 list_0 k_3 fun (a22 : Addr) =>
  idxK 1 list_0 i_4 fun (a23 : Addr) =>
  (load1 .sl a22 ω21 fun (ξ24 : Sl) =>
  load1 .sl a23 ω21 fun (ξ25 : Sl) =>
  call1 .bool PP F.spec_l7Has #[Sl.v ξ24, Sl.v ξ25] ω21 fun (ρ26 : Bool) ω27 =>
  J10 std list_0 k_3 i_4 ρ26 ω27 k Q) ∧
  (load1 .sl a23 ω21 fun (ξ28 : Sl) =>
  load1 .sl a22 ω21 fun (ξ29 : Sl) =>
  call1 .bool PP F.spec_l7Has #[Sl.v ξ29, Sl.v ξ28] ω21 fun (ρ30 : Bool) ω31 =>
  J10 std list_0 k_3 i_4 ρ30 ω31 k Q))
  else (
  Q (.exit 2) (x2 list_0 k_3) w)) := B7_eq std list_0 k_3 i_4 w k Q
theorem L7_rule (list_0 : Sl) (k_3 : Int) (i_4 : Int) (w : World) (Q : Exit → Env → World → Prop) (I : Int → World → Prop) (μ : Int → World → Nat) (h0 : I i_4 w)
    (h : ∀ (i_4 : Int) (w' : World), I i_4 w' → B7 std list_0 k_3 i_4 w' (fun e2 w2 => ∃ i_4_n, e2 = emb7 list_0 k_3 i_4_n ∧ I i_4_n w2 ∧ μ i_4_n w2 < μ i_4 w') Q) :
    L7 std list_0 k_3 i_4 w Q := by
  unfold L7
  refine LoopE.intro (σ := Int) (step := S7 std Q) (fun s => emb7 list_0 k_3 s) (fun s w => I s w) (fun s w => μ s w) i_4 rfl h0 ?_
  intro s w' hI
  have h1 := h s w' hI
  unfold B7 at h1
  exact h1
theorem A7_2_eq (pr : Prims) (list_0 : Sl) (k_3 : Int) (w : World) (k : Env → World → Prop) (Q : Exit → Env → World → Prop) : (q17 pr k Q) (.exit 2) (x2 list_0 k_3) w = (
  k (emb2 list_0 (w64 (k_3 + 1))) w) := by kernel_rfl
theorem A7_2_s (list_0 : Sl) (k_3 : Int) (w : World) (k : Env → World → Prop) (Q : Exit → Env → World → Prop) : (q17 std k Q) (.exit 2) (x2 list_0 k_3) w = (
  k (emb2 list_0 (w64 (k_3 + 1))) w) := A7_2_eq std list_0 k_3 w k Q
theorem R7_eq (pr : Prims) (v2 : Value) (w : World) (k : Env → World → Prop) (Q : Exit → Env → World → Prop) : (q17 pr k Q) .ret [(2, v2)] w = (
  Q .ret [(2, v2)] w) := by kernel_rfl
theorem R7_s (v2 : Value) (w : World) (k : Env → World → Prop) (Q : Exit → Env → World → Prop) : (q17 std k Q) .ret [(2, v2)] w = (
  Q .ret [(2, v2)] w) := R7_eq std v2 w k Q
theorem B2_eq (pr : Prims) (list_0 : Sl) (k_3 : Int) (w : World) (k : Env → World → Prop) (Q : Exit → Env → World → Prop) : B2 pr list_0 k_3 w k Q = (
  bif decide (k_3 < (list_0.n : Int)) then (
  pr.idxK 1 list_0 k_3 fun (a4 : Addr) =>
  pr.load1 .sl a4 w fun (ξ5 : Sl) =>
  pr.qcall1 .bool PP F.spec_IsPerm #[Sl.v ξ5] w fun (ρ6 : Bool) =>
  bif !ρ6 then (
  pr.drewAll w fun ω7 =>
  Q .ret [(2, .bool false)] ω7)
  else (
  pr.idxK 1 list_0 k_3 fun (a8 : Addr) =>
  pr.load1 .sl a8 w fun (ξ9 : Sl) =>
  bif (ξ9.n : Int) == 0 then (
  pr.drewAll w fun ω10 =>
  Q .ret [(2, .bool false)] ω10)
  else (
  bif decide (k_3 > 0) then (
  pr.idxK 1 list_0 (w64 (k_3 - 1)) fun (a11 : Addr) =>
  pr.load1 .sl a11 w fun (ξ12 : Sl) =>
  pr.idxK 1 list_0 k_3 fun (a13 : Addr) =>
  pr.load1 .sl a13 w fun (ξ14 : Sl) =>
  pr.qcall1 .bool PP F.spec_l2Before #[Sl.v ξ12, Sl.v ξ14] w fun (ρ15 : Bool) =>
  pr.drewAll w fun ω16 =>
  bif !ρ15 then (
  Q .ret [(2, .bool false)] ω16)
  else (
  L7 pr list_0 k_3 0 ω16 (q17 pr k Q)))
  else (
  pr.drewAll w fun ω32 =>
  L7 pr list_0 k_3 0 ω32 (q17 pr k Q)))))
  else (
  Q (.exit 0) (x0 list_0) w)) := by kernel_rfl
theorem B2_s (list_0 : Sl) (k_3 : Int) (w : World) (k : Env → World → Prop) (Q : Exit → Env → World → Prop) : B2 std list_0 k_3 w k Q = (
  bif decide (k_3 < (list_0.n : Int)) then (
  idxK 1 list_0 k_3 fun (a4 : Addr) =>
  load1 .sl a4 w fun (ξ5 : Sl) =>
  qcall1 .bool PP F.spec_IsPerm #[Sl.v ξ5] w fun (ρ6 : Bool) =>
  bif !ρ6 then (
  drewAll w fun ω7 =>
  Q .ret [(2, .bool false)] ω7)
  else (
  idxK 1 list_0 k_3 fun (a8 : Addr) =>
  load1 .sl a8 w fun (ξ9 : Sl) =>
  bif (ξ9.n : Int) == 0 then (
  drewAll w fun ω10 =>
  Q .ret [(2, .bool false)] ω10)
  else (
  bif decide (k_3 > 0) then (
  idxK 1 list_0 (w64 (k_3 - 1)) fun (a11 : Addr) =>
  load1 .sl a11 w fun (ξ12 : Sl) =>
  idxK 1 list_0 k_3 fun (a13 : Addr) =>
  load1 .sl a13 w fun (ξ14 : Sl) =>
  qcall1 .bool PP F.spec_l2Before #[Sl.v ξ12, Sl.v ξ14] w fun (ρ15 : Bool) =>
  drewAll w fun ω16 =>
  bif !ρ15 then (
  Q .ret [(2, .bool false)] ω16)
  else (
  L7 std list_0 k_3 0 ω16 (q17 std k Q)))
  else (
  drewAll w fun ω32 =>
  L7 std list_0 k_3 0 ω32 (q17 std k Q)))))
  else (
  Q (.exit 0) (x0 list_0) w)) := B2_eq std list_0 k_3 w k Q
theorem L2_rule (list_0 : Sl) (k_3 : Int) (w : World) (Q : Exit → Env → World → Prop) (I : Int → World → Prop) (μ : Int → World → Nat) (h0 : I k_3 w)
    (h : ∀ (k_3 : Int) (w' : World), I k_3 w' → B2 std list_0 k_3 w' (fun e2 w2 => ∃ k_3_n, e2 = emb2 list_0 k_3_n ∧ I k_3_n w2 ∧ μ k_3_n w2 < μ k_3 w') Q) :
    L2 std list_0 k_3 w Q := by
  unfold L2
  refine LoopE.intro (σ := Int) (step := S2 std Q) (fun s => emb2 list_0 s) (fun s w => I s w) (fun s w => μ s w) k_3 rfl h0 ?_
  intro s w' hI
  have h1 := h s w' hI
  unfold B2 at h1
  exact h1
theorem A2_0_eq (pr : Prims) (list_0 : Sl) (w : World) (R : Ending → World → Prop) : (q1 pr R) (.exit 0) (x0 list_0) w = (
  R (.returned (.bool (decide ((list_0.n : Int) ≤ 8)))) w) := by kernel_rfl
theorem A2_0_s (list_0 : Sl) (w : World) (R : Ending → World → Prop) : (q1 std R) (.exit 0) (x0 list_0) w = (
  R (.returned (.bool (decide ((list_0.n : Int) ≤ 8)))) w) := A2_0_eq std list_0 w R
theorem R2_eq (pr : Prims) (v2 : Value) (w : World) (R : Ending → World → Prop) : (q1 pr R) .ret [(2, v2)] w = (
  R (.returned (v2)) w) := by kernel_rfl
theorem R2_s (v2 : Value) (w : World) (R : Ending → World → Prop) : (q1 std R) .ret [(2, v2)] w = (
  R (.returned (v2)) w) := R2_eq std v2 w R
theorem E_eq (pr : Prims) (list_0 : Sl) (w : World) (R : Ending → World → Prop) : E pr list_0 w R = (
  L2 pr list_0 0 w (q1 pr R)) := by kernel_rfl
theorem E_s (list_0 : Sl) (w : World) (R : Ending → World → Prop) : E std list_0 w R = (
  L2 std list_0 0 w (q1 std R)) := E_eq std list_0 w R
theorem drawsOk : drawsOk PP cfg okD (codeOf Try.f45) = true := by kernel_rfl
theorem calls (list_0 : Sl) {w : World} {R : Ending → World → Prop} (h : E std list_0 w R) : Calls PP F.spec_IsBasis #[Sl.v list_0] w R :=
  calls_of noCount mixed drawOk Try.func45 rfl (c := cfg) (args := [Sl.v list_0]) rfl (Nat.le_of_ble_eq_true (by kernel_rfl)) drawsOk h
end spec_IsBasis

namespace impl_IsBasis
@[reducible] def cfg : Cfg := ⟨52, [(9, [0, 4, 10, 11, 12, 41, 42, 43]), (4, [0, 10, 11, 12])], [(3, [0, 4, 10, 11, 12, 41, 42, 43]), (2, [0, 10, 11, 12]), (1, [0, 10, 11, 12]), (0, [])], [], [2], [], [62, 10, 22, 58, 24, 44, 18, 70, 43, 85, 25, 71, 59, 37, 63], [82, 113, 102, 38, 103, 26, 60]⟩
def q0 (pr : Prims) (R : Ending → World → Prop) : Exit → Env → World → Prop := fun ex e w => normQ ex (fun e w => contE pr cfg (sub (codeOf Try.f50) [1, 1, 1]) (fun e w => wpC pr PP cfg (DD pr) (sub (codeOf Try.f50) [1, 1, 1]) (retQ Try.f50.results.toList R) e w) e w) (retQ Try.f50.results.toList R) e w
def q1 (pr : Prims) (R : Ending → World → Prop) : Exit → Env → World → Prop := fun ex e w => blockQ ex 0 (q0 pr R) e w
def q2 (pr : Prims) (k : Env → World → Prop) (Q : Exit → Env → World → Prop) : Exit → Env → World → Prop := fun ex e w => normQ ex (fun e w => contE pr cfg (sub (codeOf Try.f50) [1, 1, 0, 1, 0, 0, 1, 1, 1]) (fun e w => wpC pr PP cfg (DD pr) (sub (codeOf Try.f50) [1, 1, 0, 1, 0, 0, 1, 1, 1]) (fun ex e w => normQ ex (fun e' w' => k (Env.restr e' (lookN cfg.loops (keyOf (sub (codeOf Try.f50) [1, 1, 0, 1, 0, 0])))) w') Q e w) e w) e w) (fun ex e w => normQ ex (fun e' w' => k (Env.restr e' (lookN cfg.loops (keyOf (sub (codeOf Try.f50) [1, 1, 0, 1, 0, 0])))) w') Q e w) e w
def q3 (pr : Prims) (k : Env → World → Prop) (Q : Exit → Env → World → Prop) : Exit → Env → World → Prop := fun ex e w => blockQ ex 1 (q2 pr k Q) e w
def q13 (pr : Prims) (k : Env → World → Prop) (Q : Exit → Env → World → Prop) : Exit → Env → World → Prop := fun ex e w => blockQ ex 2 (q3 pr k Q) e w
def emb4 (list_0 : Sl) (t10 : Sl) (t11 : Int) (t12 : Int) : Env := [(0, Sl.v list_0), (10, Sl.v t10), (11, vI t11), (12, vI t12)]
def emb9 (list_0 : Sl) (p_4 : Sl) (t10 : Sl) (t11 : Int) (t12 : Int) (t41 : Sl) (t42 : Int) (t43 : Int) : Env := [(0, Sl.v list_0), (4, Sl.v p_4), (10, Sl.v t10), (11, vI t11), (12, vI t12), (41, Sl.v t41), (42, vI t42), (43, vI t43)]
def x2 (list_0 : Sl) (t10 : Sl) (t11 : Int) (t12 : Int) : Env := [(0, Sl.v list_0), (10, Sl.v t10), (11, vI t11), (12, vI t12)]
def x0 : Env := []
def S9 (pr : Prims) (Q : Exit → Env → World → Prop) : (Env → World → Prop) → Env → World → Prop := fun k e w => wpC pr PP cfg (DD pr) (sub (codeOf Try.f50) [1, 1, 0, 1, 0, 0, 1, 1, 0, 0, 1, 1, 1, 0, 0]) (fun ex e w => normQ ex (fun e' w' => k (Env.restr e' (lookN cfg.loops (keyOf (sub (codeOf Try.f50) [1, 1, 0, 1, 0, 0, 1, 1, 0, 0, 1, 1, 1, 0, 0])))) w') Q e w) e w
def S4 (pr : Prims) (Q : Exit → Env → World → Prop) : (Env → World → Prop) → Env → World → Prop := fun k e w => wpC pr PP cfg (DD pr) (sub (codeOf Try.f50) [1, 1, 0, 1, 0, 0]) (fun ex e w => normQ ex (fun e' w' => k (Env.restr e' (lookN cfg.loops (keyOf (sub (codeOf Try.f50) [1, 1, 0, 1, 0, 0])))) w') Q e w) e w
def B9 (pr : Prims) (list_0 : Sl) (p_4 : Sl) (t10 : Sl) (t11 : Int) (t12 : Int) (t41 : Sl) (t42 : Int) (t43 : Int) (w : World) (k : Env → World → Prop) (Q : Exit → Env → World → Prop) : Prop :=
  S9 pr Q k (emb9 list_0 p_4 t10 t11 t12 t41 t42 t43) w
def L9 (pr : Prims) (list_0 : Sl) (p_4 : Sl) (t10 : Sl) (t11 : Int) (t12 : Int) (t41 : Sl) (t42 : Int) (t43 : Int) (w : World) (Q : Exit → Env → World → Prop) : Prop :=
  pr.loop (S9 pr Q) (emb9 list_0 p_4 t10 t11 t12 t41 t42 t43) w
def B4 (pr : Prims) (list_0 : Sl) (t10 : Sl) (t11 : Int) (t12 : Int) (w : World) (k : Env → World → Prop) (Q : Exit → Env → World → Prop) : Prop :=
  S4 pr Q k (emb4 list_0 t10 t11 t12) w
def L4 (pr : Prims) (list_0 : Sl) (t10 : Sl) (t11 : Int) (t12 : Int) (w : World) (Q : Exit → Env → World → Prop) : Prop :=
  pr.loop (S4 pr Q) (emb4 list_0 t10 t11 t12) w
def E (pr : Prims) (list_0 : Sl) (w : World) (R : Ending → World → Prop) : Prop :=
  wpC pr PP cfg (DD pr) (codeOf Try.f50) (retQ Try.f50.results.toList R) (argE 0 [Sl.v list_0]) w
theorem B9_eq (pr : Prims) (list_0 : Sl) (p_4 : Sl) (t10 : Sl) (t11 : Int) (t12 : Int) (t41 : Sl) (t42 : Int) (t43 : Int) (w : World) (k : Env → World → Prop) (Q : Exit → Env → World → Prop) : B9 pr list_0 p_4 t10 t11 t12 t41 t42 t43 w k Q = (
  bif decide (t43 < t42) then (
  pr.idxK 1 t41 t43 fun (a14 : Addr) =>
  pr.load1 .sl a14 w fun (ξ15 : Sl) =>
  pr.call1 .bool PP F.impl_has #[Sl.v p_4, Sl.v ξ15, Sl.v Sl.nil] w fun (ρ16 : Bool) ω17 =>
  bif ρ16 then (
  Q .ret [(2, .bool false)] ω17)
  else (
  k (emb9 list_0 p_4 t10 t11 t12 t41 t42 (w64 (t43 + 1))) ω17))
  else (
  Q (.exit 2) (x2 list_0 t10 t11 t12) w)) := by kernel_rfl
theorem B9_s (list_0 : Sl) (p_4 : Sl) (t10 : Sl) (t11 : Int) (t12 : Int) (t41 : Sl) (t42 : Int) (t43 : Int) (w : World) (k : Env → World → Prop) (Q : Exit → Env → World → Prop) : B9 std list_0 p_4 t10 t11 t12 t41 t42 t43 w k Q = (
  bif decide (t43 < t42) then (
  idxK 1 t41 t43 fun (a14 : Addr) =>
  load1 .sl a14 w fun (ξ15 : Sl) =>
  call1 .bool PP F.impl_has #[Sl.v p_4, Sl.v ξ15, Sl.v Sl.nil] w fun (ρ16 : Bool) ω17 =>
  bif ρ16 then (
  Q .ret [(2, .bool false)] ω17)
  else (
  k (emb9 list_0 p_4 t10 t11 t12 t41 t42 (w64 (t43 + 1))) ω17))
  else (
  Q (.exit 2) (x2 list_0 t10 t11 t12) w)) := B9_eq std list_0 p_4 t10 t11 t12 t41 t42 t43 w k Q
theorem L9_rule (list_0 : Sl) (p_4 : Sl) (t10 : Sl) (t11 : Int) (t12 : Int) (t41 : Sl) (t42 : Int) (t43 : Int) (w : World) (Q : Exit → Env → World → Prop) (I : Int → World → Prop) (μ : Int → World → Nat) (h0 : I t43 w)
    (h : ∀ (t43 : Int) (w' : World), I t43 w' → B9 std list_0 p_4 t10 t11 t12 t41 t42 t43 w' (fun e2 w2 => ∃ t43_n, e2 = emb9 list_0 p_4 t10 t11 t12 t41 t42 t43_n ∧ I t43_n w2 ∧ μ t43_n w2 < μ t43 w') Q) :
    L9 std list_0 p_4 t10 t11 t12 t41 t42 t43 w Q := by
  unfold L9
  refine LoopE.intro (σ := Int) (step := S9 std Q) (fun s => emb9 list_0 p_4 t10 t11 t12 t41 t42 s) (fun s w => I s w) (fun s w => μ s w) t43 rfl h0 ?_
  intro s w' hI
  have h1 := h s w' hI
  unfold B9 at h1
  exact h1
theorem A9_2_eq (pr : Prims) (list_0 : Sl) (t10 : Sl) (t11 : Int) (t12 : Int) (w : World) (k : Env → World → Prop) (Q : Exit → Env → World → Prop) : (q13 pr k Q) (.exit 2) (x2 list_0 t10 t11 t12) w = (
  k (emb4 list_0 t10 t11 (w64 (t12 + 1))) w) := by kernel_rfl
theorem A9_2_s (list_0 : Sl) (t10 : Sl) (t11 : Int) (t12 : Int) (w : World) (k : Env → World → Prop) (Q : Exit → Env → World → Prop) : (q13 std k Q) (.exit 2) (x2 list_0 t10 t11 t12) w = (
  k (emb4 list_0 t10 t11 (w64 (t12 + 1))) w) := A9_2_eq std list_0 t10 t11 t12 w k Q
theorem R9_eq (pr : Prims) (v2 : Value) (w : World) (k : Env → World → Prop) (Q : Exit → Env → World → Prop) : (q13 pr k Q) .ret [(2, v2)] w = (
  Q .ret [(2, v2)] w) := by kernel_rfl
theorem R9_s (v2 : Value) (w : World) (k : Env → World → Prop) (Q : Exit → Env → World → Prop) : (q13 std k Q) .ret [(2, v2)] w = (
  Q .ret [(2, v2)] w) := R9_eq std v2 w k Q
theorem B4_eq (pr : Prims) (list_0 : Sl) (t10 : Sl) (t11 : Int) (t12 : Int) (w : World) (k : Env → World → Prop) (Q : Exit → Env → World → Prop) : B4 pr list_0 t10 t11 t12 w k Q = (
  bif decide (t12 < t11) then (
  pr.idxK 1 t10 t12 fun (a4 : Addr) =>
  pr.load1 .sl a4 w fun (ξ5 : Sl) =>
  pr.call1 .bool PP F.impl_IsPerm #[Sl.v ξ5] w fun (ρ6 : Bool) ω7 =>
  bif !ρ6 then (
  Q .ret [(2, .bool false)] ω7)
  else (
  bif (ξ5.n : Int) == 0 then (
  Q .ret [(2, .bool false)] ω7)
  else (
  bif decide (t12 > 0) then (
  pr.idxK 1 list_0 (w64 (t12 - 1)) fun (a8 : Addr) =>
  pr.load1 .sl a8 ω7 fun (ξ9 : Sl) =>
  pr.call1 (.int .i64) PP F.impl_comparePerms #[Sl.v ξ9, Sl.v ξ5] ω7 fun (ρ10 : Int) ω11 =>
  bif decide (ρ10 ≥ 0) then (
  Q .ret [(2, .bool false)] ω11)
  else (
  pr.cutK 1 list_0 none (some t12) fun (s12 : Sl) =>
  L9 pr list_0 ξ5 t10 t11 t12 s12 (s12.n : Int) 0 ω11 (q13 pr k Q)))
  else (
  pr.cutK 1 list_0 none (some t12) fun (s18 : Sl) =>
  L9 pr list_0 ξ5 t10 t11 t12 s18 (s18.n : Int) 0 ω7 (q13 pr k Q)))))
  else (
  Q (.exit 0) (x0) w)) := by kernel_rfl
theorem B4_s (list_0 : Sl) (t10 : Sl) (t11 : Int) (t12 : Int) (w : World) (k : Env → World → Prop) (Q : Exit → Env → World → Prop) : B4 std list_0 t10 t11 t12 w k Q = (
  bif decide (t12 < t11) then (
  idxK 1 t10 t12 fun (a4 : Addr) =>
  load1 .sl a4 w fun (ξ5 : Sl) =>
  call1 .bool PP F.impl_IsPerm #[Sl.v ξ5] w fun (ρ6 : Bool) ω7 =>
  bif !ρ6 then (
  Q .ret [(2, .bool false)] ω7)
  else (
  bif (ξ5.n : Int) == 0 then (
  Q .ret [(2, .bool false)] ω7)
  else (
  bif decide (t12 > 0) then (
  idxK 1 list_0 (w64 (t12 - 1)) fun (a8 : Addr) =>
  load1 .sl a8 ω7 fun (ξ9 : Sl) =>
  call1 (.int .i64) PP F.impl_comparePerms #[Sl.v ξ9, Sl.v ξ5] ω7 fun (ρ10 : Int) ω11 =>
  bif decide (ρ10 ≥ 0) then (
  Q .ret [(2, .bool false)] ω11)
  else (
  cutK 1 list_0 none (some t12) fun (s12 : Sl) =>
  L9 std list_0 ξ5 t10 t11 t12 s12 (s12.n : Int) 0 ω11 (q13 std k Q)))
  else (
  cutK 1 list_0 none (some t12) fun (s18 : Sl) =>
  L9 std list_0 ξ5 t10 t11 t12 s18 (s18.n : Int) 0 ω7 (q13 std k Q)))))
  else (
  Q (.exit 0) (x0) w)) := B4_eq std list_0 t10 t11 t12 w k Q
theorem L4_rule (list_0 : Sl) (t10 : Sl) (t11 : Int) (t12 : Int) (w : World) (Q : Exit → Env → World → Prop) (I : Int → World → Prop) (μ : Int → World → Nat) (h0 : I t12 w)
    (h : ∀ (t12 : Int) (w' : World), I t12 w' → B4 std list_0 t10 t11 t12 w' (fun e2 w2 => ∃ t12_n, e2 = emb4 list_0 t10 t11 t12_n ∧ I t12_n w2 ∧ μ t12_n w2 < μ t12 w') Q) :
    L4 std list_0 t10 t11 t12 w Q := by
  unfold L4
  refine LoopE.intro (σ := Int) (step := S4 std Q) (fun s => emb4 list_0 t10 t11 s) (fun s w => I s w) (fun s w => μ s w) t12 rfl h0 ?_
  intro s w' hI
  have h1 := h s w' hI
  unfold B4 at h1
  exact h1
theorem A4_0_eq (pr : Prims) (w : World) (R : Ending → World → Prop) : (q1 pr R) (.exit 0) (x0) w = (
  R (.returned (.bool true)) w) := by kernel_rfl
theorem A4_0_s (w : World) (R : Ending → World → Prop) : (q1 std R) (.exit 0) (x0) w = (
  R (.returned (.bool true)) w) := A4_0_eq std w R
theorem R4_eq (pr : Prims) (v2 : Value) (w : World) (R : Ending → World → Prop) : (q1 pr R) .ret [(2, v2)] w = (
  R (.returned (v2)) w) := by kernel_rfl
theorem R4_s (v2 : Value) (w : World) (R : Ending → World → Prop) : (q1 std R) .ret [(2, v2)] w = (
  R (.returned (v2)) w) := R4_eq std v2 w R
theorem E_eq (pr : Prims) (list_0 : Sl) (w : World) (R : Ending → World → Prop) : E pr list_0 w R = (
  bif decide ((list_0.n : Int) > 8) then (
  R (.returned (.bool false)) w)
  else (
  L4 pr list_0 list_0 (list_0.n : Int) 0 w (q1 pr R))) := by kernel_rfl
theorem E_s (list_0 : Sl) (w : World) (R : Ending → World → Prop) : E std list_0 w R = (
  bif decide ((list_0.n : Int) > 8) then (
  R (.returned (.bool false)) w)
  else (
  L4 std list_0 list_0 (list_0.n : Int) 0 w (q1 std R))) := E_eq std list_0 w R
theorem drawsOk : drawsOk PP cfg okD (codeOf Try.f50) = true := by kernel_rfl
theorem calls (list_0 : Sl) {w : World} {R : Ending → World → Prop} (h : E std list_0 w R) : Calls PP F.impl_IsBasis #[Sl.v list_0] w R :=
  calls_of noCount mixed drawOk Try.func50 rfl (c := cfg) (args := [Sl.v list_0]) rfl (Nat.le_of_ble_eq_true (by kernel_rfl)) drawsOk h
end impl_IsBasis

namespace spec_l2Before
@[reducible] def cfg : Cfg := ⟨40, [(4, [0, 1, 5])], [(1, [0, 1, 5]), (0, [])], [], [4], [6, 7], [62, 10, 22, 58, 24, 44, 18, 70, 43, 85, 25, 71, 59, 37, 63], [82, 113, 102, 38, 103, 26, 60]⟩
def q0 (pr : Prims) (R : Ending → World → Prop) : Exit → Env → World → Prop := fun ex e w => normQ ex (fun e w => contE pr cfg (sub (codeOf Try.f71) [1, 1, 1]) (fun e w => wpC pr PP cfg (DD pr) (sub (codeOf Try.f71) [1, 1, 1]) (retQ Try.f71.results.toList R) e w) e w) (retQ Try.f71.results.toList R) e w
def q1 (pr : Prims) (R : Ending → World → Prop) : Exit → Env → World → Prop := fun ex e w => blockQ ex 0 (q0 pr R) e w
def emb4 (a_0 : Sl) (b_1 : Sl) (k_5 : Int) : Env := [(0, Sl.v a_0), (1, Sl.v b_1), (5, vI k_5)]
def x0 : Env := []
def S4 (pr : Prims) (Q : Exit → Env → World → Prop) : (Env → World → Prop) → Env → World → Prop := fun k e w => wpC pr PP cfg (DD pr) (sub (codeOf Try.f71) [1, 1, 0, 1, 0, 0]) (fun ex e w => normQ ex (fun e' w' => k (Env.restr e' (lookN cfg.loops (keyOf (sub (codeOf Try.f71) [1, 1, 0, 1, 0, 0])))) w') Q e w) e w
def B4 (pr : Prims) (a_0 : Sl) (b_1 : Sl) (k_5 : Int) (w : World) (k : Env → World → Prop) (Q : Exit → Env → World → Prop) : Prop :=
  S4 pr Q k (emb4 a_0 b_1 k_5) w
def L4 (pr : Prims) (a_0 : Sl) (b_1 : Sl) (k_5 : Int) (w : World) (Q : Exit → Env → World → Prop) : Prop :=
  pr.loop (S4 pr Q) (emb4 a_0 b_1 k_5) w
def E (pr : Prims) (a_0 : Sl) (b_1 : Sl) (w : World) (R : Ending → World → Prop) : Prop :=
  wpC pr PP cfg (DD pr) (codeOf Try.f71) (retQ Try.f71.results.toList R) (argE 0 [Sl.v a_0, Sl.v b_1]) w
theorem B4_eq (pr : Prims) (a_0 : Sl) (b_1 : Sl) (k_5 : Int) (w : World) (k : Env → World → Prop) (Q : Exit → Env → World → Prop) : B4 pr a_0 b_1 k_5 w k Q = (
  bif decide (k_5 < (a_0.n : Int)) then (
  pr.idxK 1 a_0 k_5 fun (a2 : Addr) =>
  pr.load1 (.int .i64) a2 w fun (ξ3 : Int) =>
  pr.idxK 1 b_1 k_5 fun (a4 : Addr) =>
  pr.load1 (.int .i64) a4 w fun (ξ5 : Int) =>
  pr.drewAll w fun ω6 =>
  bif ξ3 != ξ5 then (
  pr.idxK 1 a_0 k_5 fun (a7 : Addr) =>
  pr.load1 (.int .i64) a7 ω6 fun (ξ8 : Int) =>
  pr.idxK 1 b_1 k_5 fun (a9 : Addr) =>
  pr.load1 (.int .i64) a9 ω6 fun (ξ10 : Int) =>
  pr.drewAll ω6 fun ω11 =>
  Q .ret [(4, .bool (decide (ξ8 < ξ10)))] ω11)
  else (
  k (emb4 a_0 b_1 (w64 (k_5 + 1))) ω6))
  else (
  Q (.exit 0) (x0) w)) := by kernel_rfl
theorem B4_s (a_0 : Sl) (b_1 : Sl) (k_5 : Int) (w : World) (k : Env → World → Prop) (Q : Exit → Env → World → Prop) : B4 std a_0 b_1 k_5 w k Q = (
  bif decide (k_5 < (a_0.n : Int)) then (
  idxK 1 a_0 k_5 fun (a2 : Addr) =>
  load1 (.int .i64) a2 w fun (ξ3 : Int) =>
  idxK 1 b_1 k_5 fun (a4 : Addr) =>
  load1 (.int .i64) a4 w fun (ξ5 : Int) =>
  drewAll w fun ω6 =>
  bif ξ3 != ξ5 then (
  idxK 1 a_0 k_5 fun (a7 : Addr) =>
  load1 (.int .i64) a7 ω6 fun (ξ8 : Int) =>
  idxK 1 b_1 k_5 fun (a9 : Addr) =>
  load1 (.int .i64) a9 ω6 fun (ξ10 : Int) =>
  drewAll ω6 fun ω11 =>
  Q .ret [(4, .bool (decide (ξ8 < ξ10)))] ω11)
  else (
  k (emb4 a_0 b_1 (w64 (k_5 + 1))) ω6))
  else (
  Q (.exit 0) (x0) w)) := B4_eq std a_0 b_1 k_5 w k Q
theorem L4_rule (a_0 : Sl) (b_1 : Sl) (k_5 : Int) (w : World) (Q : Exit → Env → World → Prop) (I : Int → World → Prop) (μ : Int → World → Nat) (h0 : I k_5 w)
    (h : ∀ (k_5 : Int) (w' : World), I k_5 w' → B4 std a_0 b_1 k_5 w' (fun e2 w2 => ∃ k_5_n, e2 = emb4 a_0 b_1 k_5_n ∧ I k_5_n w2 ∧ μ k_5_n w2 < μ k_5 w') Q) :
    L4 std a_0 b_1 k_5 w Q := by
  unfold L4
  refine LoopE.intro (σ := Int) (step := S4 std Q) (fun s => emb4 a_0 b_1 s) (fun s w => I s w) (fun s w => μ s w) k_5 rfl h0 ?_
  intro s w' hI
  have h1 := h s w' hI
  unfold B4 at h1
  exact h1
theorem A4_0_eq (pr : Prims) (w : World) (R : Ending → World → Prop) : (q1 pr R) (.exit 0) (x0) w = (
  R (.returned (.bool false)) w) := by kernel_rfl
theorem A4_0_s (w : World) (R : Ending → World → Prop) : (q1 std R) (.exit 0) (x0) w = (
  R (.returned (.bool false)) w) := A4_0_eq std w R
theorem R4_eq (pr : Prims) (v4 : Value) (w : World) (R : Ending → World → Prop) : (q1 pr R) .ret [(4, v4)] w = (
  R (.returned (v4)) w) := by kernel_rfl
theorem R4_s (v4 : Value) (w : World) (R : Ending → World → Prop) : (q1 std R) .ret [(4, v4)] w = (
  R (.returned (v4)) w) := R4_eq std v4 w R
theorem E_eq (pr : Prims) (a_0 : Sl) (b_1 : Sl) (w : World) (R : Ending → World → Prop) : E pr a_0 b_1 w R = (
  bif (a_0.n : Int) != (b_1.n : Int) then (
  R (.returned (.bool (decide ((a_0.n : Int) < (b_1.n : Int))))) w)
  else (
  L4 pr a_0 b_1 0 w (q1 pr R))) := by kernel_rfl
theorem E_s (a_0 : Sl) (b_1 : Sl) (w : World) (R : Ending → World → Prop) : E std a_0 b_1 w R = (
  bif (a_0.n : Int) != (b_1.n : Int) then (
  R (.returned (.bool (decide ((a_0.n : Int) < (b_1.n : Int))))) w)
  else (
  L4 std a_0 b_1 0 w (q1 std R))) := E_eq std a_0 b_1 w R
theorem drawsOk : drawsOk PP cfg okD (codeOf Try.f71) = true := by kernel_rfl
theorem calls (a_0 : Sl) (b_1 : Sl) {w : World} {R : Ending → World → Prop} (h : E std a_0 b_1 w R) : Calls PP F.spec_l2Before #[Sl.v a_0, Sl.v b_1] w R :=
  calls_of noCount mixed drawOk Try.func71 rfl (c := cfg) (args := [Sl.v a_0, Sl.v b_1]) rfl (Nat.le_of_ble_eq_true (by kernel_rfl)) drawsOk h
end spec_l2Before

namespace impl_comparePerms
@[reducible] def cfg : Cfg := ⟨15, [], [], [], [4], [], [62, 10, 22, 58, 24, 44, 18, 70, 43, 85, 25, 71, 59, 37, 63], [82, 113, 102, 38, 103, 26, 60]⟩
def E (pr : Prims) (p_0 : Sl) (q_1 : Sl) (w : World) (R : Ending → World → Prop) : Prop :=
  wpC pr PP cfg (DD pr) (codeOf Try.f76) (retQ Try.f76.results.toList R) (argE 0 [Sl.v p_0, Sl.v q_1]) w
theorem E_eq (pr : Prims) (p_0 : Sl) (q_1 : Sl) (w : World) (R : Ending → World → Prop) : E pr p_0 q_1 w R = (
  pr.pcall1 (.int .i64) PP F.cmp_Compare_int_ #[vI (p_0.n : Int), vI (q_1.n : Int)] fun (ρ0 : Int) =>
  pr.call1 (.int .i64) PP F.slices_Compare___int_int_ #[Sl.v p_0, Sl.v q_1] w fun (ρ1 : Int) ω2 =>
  pr.sem1 .sl PP (Instr.buildSlice T_Sint 2 #[(0, vI ρ0), (1, vI ρ1)]) ω2 fun (ρ3 : Sl) ω4 =>
  pr.call1 (.int .i64) PP F.cmp_Or_int_ #[Sl.v ρ3] ω4 fun (ρ5 : Int) ω6 =>
  R (.returned (vI ρ5)) ω6) := by kernel_rfl
theorem E_s (p_0 : Sl) (q_1 : Sl) (w : World) (R : Ending → World → Prop) : E std p_0 q_1 w R = (
  pcall1 (.int .i64) PP F.cmp_Compare_int_ #[vI (p_0.n : Int), vI (q_1.n : Int)] fun (ρ0 : Int) =>
  call1 (.int .i64) PP F.slices_Compare___int_int_ #[Sl.v p_0, Sl.v q_1] w fun (ρ1 : Int) ω2 =>
  sem1 .sl PP (Instr.buildSlice T_Sint 2 #[(0, vI ρ0), (1, vI ρ1)]) ω2 fun (ρ3 : Sl) ω4 =>
  call1 (.int .i64) PP F.cmp_Or_int_ #[Sl.v ρ3] ω4 fun (ρ5 : Int) ω6 =>
  R (.returned (vI ρ5)) ω6) := E_eq std p_0 q_1 w R
theorem drawsOk : drawsOk PP cfg okD (codeOf Try.f76) = true := by kernel_rfl
theorem calls (p_0 : Sl) (q_1 : Sl) {w : World} {R : Ending → World → Prop} (h : E std p_0 q_1 w R) : Calls PP F.impl_comparePerms #[Sl.v p_0, Sl.v q_1] w R :=
  calls_of noCount mixed drawOk Try.func76 rfl (c := cfg) (args := [Sl.v p_0, Sl.v q_1]) rfl (Nat.le_of_ble_eq_true (by kernel_rfl)) drawsOk h
end impl_comparePerms

namespace cmp_Or_int_
@[reducible] def cfg : Cfg := ⟨18, [(3, [3, 6, 7, 8])], [(1, [3, 6, 7, 8]), (0, [3])], [], [2], [], [62, 10, 22, 58, 24, 44, 18, 70, 43, 85, 25, 71, 59, 37, 63], [82, 113, 102, 38, 103, 26, 60]⟩
def q0 (pr : Prims) (R : Ending → World → Prop) : Exit → Env → World → Prop := fun ex e w => normQ ex (fun e w => contE pr cfg (sub (codeOf Try.f87) [1, 1, 1]) (fun e w => wpC pr PP cfg (DD pr) (sub (codeOf Try.f87) [1, 1, 1]) (retQ Try.f87.results.toList R) e w) e w) (retQ Try.f87.results.toList R) e w
def q1 (pr : Prims) (R : Ending → World → Prop) : Exit → Env → World → Prop := fun ex e w => blockQ ex 0 (q0 pr R) e w
def emb3 (zero_3 : Int) (t6 : Sl) (t7 : Int) (t8 : Int) : Env := [(3, vI zero_3), (6, Sl.v t6), (7, vI t7), (8, vI t8)]
def x0 (zero_3 : Int) : Env := [(3, vI zero_3)]
def S3 (pr : Prims) (Q : Exit → Env → World → Prop) : (Env → World → Prop) → Env → World → Prop := fun k e w => wpC pr PP cfg (DD pr) (sub (codeOf Try.f87) [1, 1, 0, 1, 0, 0]) (fun ex e w => normQ ex (fun e' w' => k (Env.restr e' (lookN cfg.loops (keyOf (sub (codeOf Try.f87) [1, 1, 0, 1, 0, 0])))) w') Q e w) e w
def B3 (pr : Prims) (zero_3 : Int) (t6 : Sl) (t7 : Int) (t8 : Int) (w : World) (k : Env → World → Prop) (Q : Exit → Env → World → Prop) : Prop :=
  S3 pr Q k (emb3 zero_3 t6 t7 t8) w
def L3 (pr : Prims) (zero_3 : Int) (t6 : Sl) (t7 : Int) (t8 : Int) (w : World) (Q : Exit → Env → World → Prop) : Prop :=
  pr.loop (S3 pr Q) (emb3 zero_3 t6 t7 t8) w
def E (pr : Prims) (vals_0 : Sl) (w : World) (R : Ending → World → Prop) : Prop :=
  wpC pr PP cfg (DD pr) (codeOf Try.f87) (retQ Try.f87.results.toList R) (argE 0 [Sl.v vals_0]) w
theorem B3_eq (pr : Prims) (zero_3 : Int) (t6 : Sl) (t7 : Int) (t8 : Int) (w : World) (k : Env → World → Prop) (Q : Exit → Env → World → Prop) : B3 pr zero_3 t6 t7 t8 w k Q = (
  bif decide (t8 < t7) then (
  pr.idxK 1 t6 t8 fun (a2 : Addr) =>
  pr.load1 (.int .i64) a2 w fun (ξ3 : Int) =>
  bif ξ3 != zero_3 then (
  Q .ret [(2, vI ξ3)] w)
  else (
  k (emb3 zero_3 t6 t7 (w64 (t8 + 1))) w))
  else (
  Q (.exit 0) (x0 zero_3) w)) := by kernel_rfl
theorem B3_s (zero_3 : Int) (t6 : Sl) (t7 : Int) (t8 : Int) (w : World) (k : Env → World → Prop) (Q : Exit → Env → World → Prop) : B3 std zero_3 t6 t7 t8 w k Q = (
  bif decide (t8 < t7) then (
  idxK 1 t6 t8 fun (a2 : Addr) =>
  load1 (.int .i64) a2 w fun (ξ3 : Int) =>
  bif ξ3 != zero_3 then (
  Q .ret [(2, vI ξ3)] w)
  else (
  k (emb3 zero_3 t6 t7 (w64 (t8 + 1))) w))
  else (
  Q (.exit 0) (x0 zero_3) w)) := B3_eq std zero_3 t6 t7 t8 w k Q
theorem L3_rule (zero_3 : Int) (t6 : Sl) (t7 : Int) (t8 : Int) (w : World) (Q : Exit → Env → World → Prop) (I : Int → World → Prop) (μ : Int → World → Nat) (h0 : I t8 w)
    (h : ∀ (t8 : Int) (w' : World), I t8 w' → B3 std zero_3 t6 t7 t8 w' (fun e2 w2 => ∃ t8_n, e2 = emb3 zero_3 t6 t7 t8_n ∧ I t8_n w2 ∧ μ t8_n w2 < μ t8 w') Q) :
    L3 std zero_3 t6 t7 t8 w Q := by
  unfold L3
  refine LoopE.intro (σ := Int) (step := S3 std Q) (fun s => emb3 zero_3 t6 t7 s) (fun s w => I s w) (fun s w => μ s w) t8 rfl h0 ?_
  intro s w' hI
  have h1 := h s w' hI
  unfold B3 at h1
  exact h1
theorem A3_0_eq (pr : Prims) (zero_3 : Int) (w : World) (R : Ending → World → Prop) : (q1 pr R) (.exit 0) (x0 zero_3) w = (
  R (.returned (vI zero_3)) w) := by kernel_rfl
theorem A3_0_s (zero_3 : Int) (w : World) (R : Ending → World → Prop) : (q1 std R) (.exit 0) (x0 zero_3) w = (
  R (.returned (vI zero_3)) w) := A3_0_eq std zero_3 w R
theorem R3_eq (pr : Prims) (v2 : Value) (w : World) (R : Ending → World → Prop) : (q1 pr R) .ret [(2, v2)] w = (
  R (.returned (v2)) w) := by kernel_rfl
theorem R3_s (v2 : Value) (w : World) (R : Ending → World → Prop) : (q1 std R) .ret [(2, v2)] w = (
  R (.returned (v2)) w) := R3_eq std v2 w R
theorem E_eq (pr : Prims) (vals_0 : Sl) (w : World) (R : Ending → World → Prop) : E pr vals_0 w R = (
  L3 pr 0 vals_0 (vals_0.n : Int) 0 w (q1 pr R)) := by kernel_rfl
theorem E_s (vals_0 : Sl) (w : World) (R : Ending → World → Prop) : E std vals_0 w R = (
  L3 std 0 vals_0 (vals_0.n : Int) 0 w (q1 std R)) := E_eq std vals_0 w R
theorem drawsOk : drawsOk PP cfg okD (codeOf Try.f87) = true := by kernel_rfl
theorem calls (vals_0 : Sl) {w : World} {R : Ending → World → Prop} (h : E std vals_0 w R) : Calls PP F.cmp_Or_int_ #[Sl.v vals_0] w R :=
  calls_of noCount mixed drawOk Try.func87 rfl (c := cfg) (args := [Sl.v vals_0]) rfl (Nat.le_of_ble_eq_true (by kernel_rfl)) drawsOk h
end cmp_Or_int_

namespace cmp_Compare_int_
@[reducible] def cfg : Cfg := ⟨20, [], [], [], [4], [], [62, 10, 22, 58, 24, 44, 18, 70, 43, 85, 25, 71, 59, 37, 63], [82, 113, 102, 38, 103, 26, 60]⟩
def E (pr : Prims) (x_0 : Int) (y_1 : Int) (w : World) (R : Ending → World → Prop) : Prop :=
  wpC pr PP cfg (DD pr) (codeOf Try.f82) (retQ Try.f82.results.toList R) (argE 0 [vI x_0, vI y_1]) w
theorem E_eq (pr : Prims) (x_0 : Int) (y_1 : Int) (w : World) (R : Ending → World → Prop) : E pr x_0 y_1 w R = (
  pr.pcall1 .bool PP F.cmp_isNaN_int_ #[vI x_0] fun (ρ0 : Bool) =>
  pr.pcall1 .bool PP F.cmp_isNaN_int_ #[vI y_1] fun (ρ1 : Bool) =>
  bif ρ0 then (
  bif ρ1 then (
  R (.returned (vI 0)) w)
  else (
  R (.returned (vI (-1))) w))
  else (
  bif ρ1 then (
  R (.returned (vI 1)) w)
  else (
  bif decide (x_0 < y_1) then (
  R (.returned (vI (-1))) w)
  else (
  bif decide (x_0 > y_1) then (
  R (.returned (vI 1)) w)
  else (
  R (.returned (vI 0)) w))))) := by kernel_rfl
theorem E_s (x_0 : Int) (y_1 : Int) (w : World) (R : Ending → World → Prop) : E std x_0 y_1 w R = (
  pcall1 .bool PP F.cmp_isNaN_int_ #[vI x_0] fun (ρ0 : Bool) =>
  pcall1 .bool PP F.cmp_isNaN_int_ #[vI y_1] fun (ρ1 : Bool) =>
  bif ρ0 then (
  bif ρ1 then (
  R (.returned (vI 0)) w)
  else (
  R (.returned (vI (-1))) w))
  else (
  bif ρ1 then (
  R (.returned (vI 1)) w)
  else (
  bif decide (x_0 < y_1) then (
  R (.returned (vI (-1))) w)
  else (
  bif decide (x_0 > y_1) then (
  R (.returned (vI 1)) w)
  else (
  R (.returned (vI 0)) w))))) := E_eq std x_0 y_1 w R
theorem drawsOk : drawsOk PP cfg okD (codeOf Try.f82) = true := by kernel_rfl
theorem calls (x_0 : Int) (y_1 : Int) {w : World} {R : Ending → World → Prop} (h : E std x_0 y_1 w R) : Calls PP F.cmp_Compare_int_ #[vI x_0, vI y_1] w R :=
  calls_of noCount mixed drawOk Try.func82 rfl (c := cfg) (args := [vI x_0, vI y_1]) rfl (Nat.le_of_ble_eq_true (by kernel_rfl)) drawsOk h
end cmp_Compare_int_

namespace cmp_isNaN_int_
@[reducible] def cfg : Cfg := ⟨6, [], [], [], [2], [], [62, 10, 22, 58, 24, 44, 18, 70, 43, 85, 25, 71, 59, 37, 63], [82, 113, 102, 38, 103, 26, 60]⟩
def E (pr : Prims) (x_0 : Int) (w : World) (R : Ending → World → Prop) : Prop :=
  wpC pr PP cfg (DD pr) (codeOf Try.f102) (retQ Try.f102.results.toList R) (argE 0 [vI x_0]) w
theorem E_eq (pr : Prims) (x_0 : Int) (w : World) (R : Ending → World → Prop) : E pr x_0 w R = (
  R (.returned (.bool (x_0 != x_0))) w) := by kernel_rfl
theorem E_s (x_0 : Int) (w : World) (R : Ending → World → Prop) : E std x_0 w R = (
  R (.returned (.bool (x_0 != x_0))) w) := E_eq std x_0 w R
theorem drawsOk : drawsOk PP cfg okD (codeOf Try.f102) = true := by kernel_rfl
theorem calls (x_0 : Int) {w : World} {R : Ending → World → Prop} (h : E std x_0 w R) : Calls PP F.cmp_isNaN_int_ #[vI x_0] w R :=
  calls_of noCount mixed drawOk Try.func102 rfl (c := cfg) (args := [vI x_0]) rfl (Nat.le_of_ble_eq_true (by kernel_rfl)) drawsOk h
end cmp_isNaN_int_

namespace slices_Compare___int_int_
@[reducible] def cfg : Cfg := ⟨36, [(2, [0, 1, 9, 10, 11])], [(1, [0, 1, 9, 10, 11]), (0, [0, 1])], [], [4], [], [62, 10, 22, 58, 24, 44, 18, 70, 43, 85, 25, 71, 59, 37, 63], [82, 113, 102, 38, 103, 26, 60]⟩
def q0 (pr : Prims) (R : Ending → World → Prop) : Exit → Env → World → Prop := fun ex e w => normQ ex (fun e w => contE pr cfg (sub (codeOf Try.f56) [1, 1]) (fun e w => wpC pr PP cfg (DD pr) (sub (codeOf Try.f56) [1, 1]) (retQ Try.f56.results.toList R) e w) e w) (retQ Try.f56.results.toList R) e w
def q1 (pr : Prims) (R : Ending → World → Prop) : Exit → Env → World → Prop := fun ex e w => blockQ ex 0 (q0 pr R) e w
def emb2 (s1_0 : Sl) (s2_1 : Sl) (t9 : Sl) (t10 : Int) (t11 : Int) : Env := [(0, Sl.v s1_0), (1, Sl.v s2_1), (9, Sl.v t9), (10, vI t10), (11, vI t11)]
def x0 (s1_0 : Sl) (s2_1 : Sl) : Env := [(0, Sl.v s1_0), (1, Sl.v s2_1)]
def S2 (pr : Prims) (Q : Exit → Env → World → Prop) : (Env → World → Prop) → Env → World → Prop := fun k e w => wpC pr PP cfg (DD pr) (sub (codeOf Try.f56) [1, 0, 1, 0, 0]) (fun ex e w => normQ ex (fun e' w' => k (Env.restr e' (lookN cfg.loops (keyOf (sub (codeOf Try.f56) [1, 0, 1, 0, 0])))) w') Q e w) e w
def B2 (pr : Prims) (s1_0 : Sl) (s2_1 : Sl) (t9 : Sl) (t10 : Int) (t11 : Int) (w : World) (k : Env → World → Prop) (Q : Exit → Env → World → Prop) : Prop :=
  S2 pr Q k (emb2 s1_0 s2_1 t9 t10 t11) w
def L2 (pr : Prims) (s1_0 : Sl) (s2_1 : Sl) (t9 : Sl) (t10 : Int) (t11 : Int) (w : World) (Q : Exit → Env → World → Prop) : Prop :=
  pr.loop (S2 pr Q) (emb2 s1_0 s2_1 t9 t10 t11) w
def E (pr : Prims) (s1_0 : Sl) (s2_1 : Sl) (w : World) (R : Ending → World → Prop) : Prop :=
  wpC pr PP cfg (DD pr) (codeOf Try.f56) (retQ Try.f56.results.toList R) (argE 0 [Sl.v s1_0, Sl.v s2_1]) w
theorem B2_eq (pr : Prims) (s1_0 : Sl) (s2_1 : Sl) (t9 : Sl) (t10 : Int) (t11 : Int) (w : World) (k : Env → World → Prop) (Q : Exit → Env → World → Prop) : B2 pr s1_0 s2_1 t9 t10 t11 w k Q = (
  bif decide (t11 < t10) then (
  pr.idxK 1 t9 t11 fun (a2 : Addr) =>
  pr.load1 (.int .i64) a2 w fun (ξ3 : Int) =>
  bif decide (t11 ≥ (s2_1.n : Int)) then (
  Q .ret [(4, vI 1)] w)
  else (
  pr.idxK 1 s2_1 t11 fun (a4 : Addr) =>
  pr.load1 (.int .i64) a4 w fun (ξ5 : Int) =>
  pr.pcall1 (.int .i64) PP F.cmp_Compare_int_ #[vI ξ3, vI ξ5] fun (ρ6 : Int) =>
  bif ρ6 != 0 then (
  Q .ret [(4, vI ρ6)] w)
  else (
  k (emb2 s1_0 s2_1 t9 t10 (w64 (t11 + 1))) w)))
  else (
  Q (.exit 0) (x0 s1_0 s2_1) w)) := by kernel_rfl
theorem B2_s (s1_0 : Sl) (s2_1 : Sl) (t9 : Sl) (t10 : Int) (t11 : Int) (w : World) (k : Env → World → Prop) (Q : Exit → Env → World → Prop) : B2 std s1_0 s2_1 t9 t10 t11 w k Q = (
  bif decide (t11 < t10) then (
  idxK 1 t9 t11 fun (a2 : Addr) =>
  load1 (.int .i64) a2 w fun (ξ3 : Int) =>
  bif decide (t11 ≥ (s2_1.n : Int)) then (
  Q .ret [(4, vI 1)] w)
  else (
  idxK 1 s2_1 t11 fun (a4 : Addr) =>
  load1 (.int .i64) a4 w fun (ξ5 : Int) =>
  pcall1 (.int .i64) PP F.cmp_Compare_int_ #[vI ξ3, vI ξ5] fun (ρ6 : Int) =>
  bif ρ6 != 0 then (
  Q .ret [(4, vI ρ6)] w)
  else (
  k (emb2 s1_0 s2_1 t9 t10 (w64 (t11 + 1))) w)))
  else (
  Q (.exit 0) (x0 s1_0 s2_1) w)) := B2_eq std s1_0 s2_1 t9 t10 t11 w k Q
theorem L2_rule (s1_0 : Sl) (s2_1 : Sl) (t9 : Sl) (t10 : Int) (t11 : Int) (w : World) (Q : Exit → Env → World → Prop) (I : Int → World → Prop) (μ : Int → World → Nat) (h0 : I t11 w)
    (h : ∀ (t11 : Int) (w' : World), I t11 w' → B2 std s1_0 s2_1 t9 t10 t11 w' (fun e2 w2 => ∃ t11_n, e2 = emb2 s1_0 s2_1 t9 t10 t11_n ∧ I t11_n w2 ∧ μ t11_n w2 < μ t11 w') Q) :
    L2 std s1_0 s2_1 t9 t10 t11 w Q := by
  unfold L2
  refine LoopE.intro (σ := Int) (step := S2 std Q) (fun s => emb2 s1_0 s2_1 t9 t10 s) (fun s w => I s w) (fun s w => μ s w) t11 rfl h0 ?_
  intro s w' hI
  have h1 := h s w' hI
  unfold B2 at h1
  exact h1
theorem A2_0_eq (pr : Prims) (s1_0 : Sl) (s2_1 : Sl) (w : World) (R : Ending → World → Prop) : (q1 pr R) (.exit 0) (x0 s1_0 s2_1) w = (
  bif decide ((s1_0.n : Int) < (s2_1.n : Int)) then (
  R (.returned (vI (-1))) w)
  else (
  R (.returned (vI 0)) w)) := by kernel_rfl
theorem A2_0_s (s1_0 : Sl) (s2_1 : Sl) (w : World) (R : Ending → World → Prop) : (q1 std R) (.exit 0) (x0 s1_0 s2_1) w = (
  bif decide ((s1_0.n : Int) < (s2_1.n : Int)) then (
  R (.returned (vI (-1))) w)
  else (
  R (.returned (vI 0)) w)) := A2_0_eq std s1_0 s2_1 w R
theorem R2_eq (pr : Prims) (v4 : Value) (w : World) (R : Ending → World → Prop) : (q1 pr R) .ret [(4, v4)] w = (
  R (.returned (v4)) w) := by kernel_rfl
theorem R2_s (v4 : Value) (w : World) (R : Ending → World → Prop) : (q1 std R) .ret [(4, v4)] w = (
  R (.returned (v4)) w) := R2_eq std v4 w R
theorem E_eq (pr : Prims) (s1_0 : Sl) (s2_1 : Sl) (w : World) (R : Ending → World → Prop) : E pr s1_0 s2_1 w R = (
  L2 pr s1_0 s2_1 s1_0 (s1_0.n : Int) 0 w (q1 pr R)) := by kernel_rfl
theorem E_s (s1_0 : Sl) (s2_1 : Sl) (w : World) (R : Ending → World → Prop) : E std s1_0 s2_1 w R = (
  L2 std s1_0 s2_1 s1_0 (s1_0.n : Int) 0 w (q1 std R)) := E_eq std s1_0 s2_1 w R
theorem drawsOk : drawsOk PP cfg okD (codeOf Try.f56) = true := by kernel_rfl
theorem calls (s1_0 : Sl) (s2_1 : Sl) {w : World} {R : Ending → World → Prop} (h : E std s1_0 s2_1 w R) : Calls PP F.slices_Compare___int_int_ #[Sl.v s1_0, Sl.v s2_1] w R :=
  calls_of noCount mixed drawOk Try.func56 rfl (c := cfg) (args := [Sl.v s1_0, Sl.v s2_1]) rfl (Nat.le_of_ble_eq_true (by kernel_rfl)) drawsOk h
end slices_Compare___int_int_

namespace spec_l12Avoids
@[reducible] def cfg : Cfg := ⟨18, [(2, [0, 1, 5])], [(1, [0, 1, 5]), (0, [])], [], [4], [], [62, 10, 22, 58, 24, 44, 18, 70, 43, 85, 25, 71, 59, 37, 63], [82, 113, 102, 38, 103, 26, 60]⟩
def q0 (pr : Prims) (R : Ending → World → Prop) : Exit → Env → World → Prop := fun ex e w => normQ ex (fun e w => contE pr cfg (sub (codeOf Try.f72) [1, 1]) (fun e w => wpC pr PP cfg (DD pr) (sub (codeOf Try.f72) [1, 1]) (retQ Try.f72.results.toList R) e w) e w) (retQ Try.f72.results.toList R) e w
def q1 (pr : Prims) (R : Ending → World → Prop) : Exit → Env → World → Prop := fun ex e w => blockQ ex 0 (q0 pr R) e w
def emb2 (list_0 : Sl) (p_1 : Sl) (k_5 : Int) : Env := [(0, Sl.v list_0), (1, Sl.v p_1), (5, vI k_5)]
def x0 : Env := []
def S2 (pr : Prims) (Q : Exit → Env → World → Prop) : (Env → World → Prop) → Env → World → Prop := fun k e w => wpC pr PP cfg (DD pr) (sub (codeOf Try.f72) [1, 0, 1, 0, 0]) (fun ex e w => normQ ex (fun e' w' => k (Env.restr e' (lookN cfg.loops (keyOf (sub (codeOf Try.f72) [1, 0, 1, 0, 0])))) w') Q e w) e w
def B2 (pr : Prims) (list_0 : Sl) (p_1 : Sl) (k_5 : Int) (w : World) (k : Env → World → Prop) (Q : Exit → Env → World → Prop) : Prop :=
  S2 pr Q k (emb2 list_0 p_1 k_5) w
def L2 (pr : Prims) (list_0 : Sl) (p_1 : Sl) (k_5 : Int) (w : World) (Q : Exit → Env → World → Prop) : Prop :=
  pr.loop (S2 pr Q) (emb2 list_0 p_1 k_5) w
def E (pr : Prims) (list_0 : Sl) (p_1 : Sl) (w : World) (R : Ending → World → Prop) : Prop :=
  wpC pr PP cfg (DD pr) (codeOf Try.f72) (retQ Try.f72.results.toList R) (argE 0 [Sl.v list_0, Sl.v p_1]) w
theorem B2_eq (pr : Prims) (list_0 : Sl) (p_1 : Sl) (k_5 : Int) (w : World) (k : Env → World → Prop) (Q : Exit → Env → World → Prop) : B2 pr list_0 p_1 k_5 w k Q = (
  bif decide (k_5 < (list_0.n : Int)) then (
  pr.idxK 1 list_0 k_5 fun (a2 : Addr) =>
  pr.load1 .sl a2 w fun (ξ3 : Sl) =>
  pr.call1 .bool PP F.spec_l7Has #[Sl.v p_1, Sl.v ξ3] w fun (ρ4 : Bool) ω5 =>
  bif ρ4 then (
  Q .ret [(4, .bool false)] ω5)
  else (
  k (emb2 list_0 p_1 (w64 (k_5 + 1))) ω5))
  else (
  Q (.exit 0) (x0) w)) := by kernel_rfl
theorem B2_s (list_0 : Sl) (p_1 : Sl) (k_5 : Int) (w : World) (k : Env → World → Prop) (Q : Exit → Env → World → Prop) : B2 std list_0 p_1 k_5 w k Q = (
  bif decide (k_5 < (list_0.n : Int)) then (
  idxK 1 list_0 k_5 fun (a2 : Addr) =>
  load1 .sl a2 w fun (ξ3 : Sl) =>
  call1 .bool PP F.spec_l7Has #[Sl.v p_1, Sl.v ξ3] w fun (ρ4 : Bool) ω5 =>
  bif ρ4 then (
  Q .ret [(4, .bool false)] ω5)
  else (
  k (emb2 list_0 p_1 (w64 (k_5 + 1))) ω5))
  else (
  Q (.exit 0) (x0) w)) := B2_eq std list_0 p_1 k_5 w k Q
theorem L2_rule (list_0 : Sl) (p_1 : Sl) (k_5 : Int) (w : World) (Q : Exit → Env → World → Prop) (I : Int → World → Prop) (μ : Int → World → Nat) (h0 : I k_5 w)
    (h : ∀ (k_5 : Int) (w' : World), I k_5 w' → B2 std list_0 p_1 k_5 w' (fun e2 w2 => ∃ k_5_n, e2 = emb2 list_0 p_1 k_5_n ∧ I k_5_n w2 ∧ μ k_5_n w2 < μ k_5 w') Q) :
    L2 std list_0 p_1 k_5 w Q := by
  unfold L2
  refine LoopE.intro (σ := Int) (step := S2 std Q) (fun s => emb2 list_0 p_1 s) (fun s w => I s w) (fun s w => μ s w) k_5 rfl h0 ?_
  intro s w' hI
  have h1 := h s w' hI
  unfold B2 at h1
  exact h1
theorem A2_0_eq (pr : Prims) (w : World) (R : Ending → World → Prop) : (q1 pr R) (.exit 0) (x0) w = (
  R (.returned (.bool true)) w) := by kernel_rfl
theorem A2_0_s (w : World) (R : Ending → World → Prop) : (q1 std R) (.exit 0) (x0) w = (
  R (.returned (.bool true)) w) := A2_0_eq std w R
theorem R2_eq (pr : Prims) (v4 : Value) (w : World) (R : Ending → World → Prop) : (q1 pr R) .ret [(4, v4)] w = (
  R (.returned (v4)) w) := by kernel_rfl
theorem R2_s (v4 : Value) (w : World) (R : Ending → World → Prop) : (q1 std R) .ret [(4, v4)] w = (
  R (.returned (v4)) w) := R2_eq std v4 w R
theorem E_eq (pr : Prims) (list_0 : Sl) (p_1 : Sl) (w : World) (R : Ending → World → Prop) : E pr list_0 p_1 w R = (
  L2 pr list_0 p_1 0 w (q1 pr R)) := by kernel_rfl
theorem E_s (list_0 : Sl) (p_1 : Sl) (w : World) (R : Ending → World → Prop) : E std list_0 p_1 w R = (
  L2 std list_0 p_1 0 w (q1 std R)) := E_eq std list_0 p_1 w R
theorem drawsOk : drawsOk PP cfg okD (codeOf Try.f72) = true := by kernel_rfl
theorem calls (list_0 : Sl) (p_1 : Sl) {w : World} {R : Ending → World → Prop} (h : E std list_0 p_1 w R) : Calls PP F.spec_l12Avoids #[Sl.v list_0, Sl.v p_1] w R :=
  calls_of noCount mixed drawOk Try.func72 rfl (c := cfg) (args := [Sl.v list_0, Sl.v p_1]) rfl (Nat.le_of_ble_eq_true (by kernel_rfl)) drawsOk h
end spec_l12Avoids

namespace impl_avoids
@[reducible] def cfg : Cfg := ⟨9, [], [], [], [4], [], [62, 10, 22, 58, 24, 44, 18, 70, 43, 85, 25, 71, 59, 37, 63], [82, 113, 102, 38, 103, 26, 60]⟩
def E (pr : Prims) (list_0 : Sl) (p_1 : Sl) (w : World) (R : Ending → World → Prop) : Prop :=
  wpC pr PP cfg (DD pr) (codeOf Try.f77) (retQ Try.f77.results.toList R) (argE 0 [Sl.v list_0, Sl.v p_1]) w
theorem E_eq (pr : Prims) (list_0 : Sl) (p_1 : Sl) (w : World) (R : Ending → World → Prop) : E pr list_0 p_1 w R = (
  pr.newK T_Sint #[Sl.v p_1] w fun (a0 : Addr) ω1 =>
  pr.call1 .bool PP F.slices_ContainsFunc_____int___int_ #[Sl.v list_0, (.func (.func F.impl_avoidsL1) #[] #[.pointer (some a0)])] ω1 fun (ρ2 : Bool) ω3 =>
  R (.returned (.bool (!ρ2))) ω3) := by kernel_rfl
theorem E_s (list_0 : Sl) (p_1 : Sl) (w : World) (R : Ending → World → Prop) : E std list_0 p_1 w R = (
  newK T_Sint #[Sl.v p_1] w fun (a0 : Addr) ω1 =>
  call1 .bool PP F.slices_ContainsFunc_____int___int_ #[Sl.v list_0, (.func (.func F.impl_avoidsL1) #[] #[.pointer (some a0)])] ω1 fun (ρ2 : Bool) ω3 =>
  R (.returned (.bool (!ρ2))) ω3) := E_eq std list_0 p_1 w R
theorem drawsOk : drawsOk PP cfg okD (codeOf Try.f77) = true := by kernel_rfl
theorem calls (list_0 : Sl) (p_1 : Sl) {w : World} {R : Ending → World → Prop} (h : E std list_0 p_1 w R) : Calls PP F.impl_avoids #[Sl.v list_0, Sl.v p_1] w R :=
  calls_of noCount mixed drawOk Try.func77 rfl (c := cfg) (args := [Sl.v list_0, Sl.v p_1]) rfl (Nat.le_of_ble_eq_true (by kernel_rfl)) drawsOk h
end impl_avoids

namespace impl_avoidsL1
@[reducible] def cfg : Cfg := ⟨7, [], [], [], [3], [], [62, 10, 22, 58, 24, 44, 18, 70, 43, 85, 25, 71, 59, 37, 63], [82, 113, 102, 38, 103, 26, 60]⟩
def E (pr : Prims) (q_0 : Sl) (t1 : Addr) (w : World) (R : Ending → World → Prop) : Prop :=
  wpC pr PP cfg (DD pr) (codeOf Try.f89) (retQ Try.f89.results.toList R) (argE 0 [Sl.v q_0, .pointer (some t1)]) w
theorem E_eq (pr : Prims) (q_0 : Sl) (t1 : Addr) (w : World) (R : Ending → World → Prop) : E pr q_0 t1 w R = (
  pr.load1 .sl t1 w fun (ξ0 : Sl) =>
  pr.call1 .bool PP F.impl_has #[Sl.v ξ0, Sl.v q_0, Sl.v Sl.nil] w fun (ρ1 : Bool) ω2 =>
  R (.returned (.bool ρ1)) ω2) := by kernel_rfl
theorem E_s (q_0 : Sl) (t1 : Addr) (w : World) (R : Ending → World → Prop) : E std q_0 t1 w R = (
  load1 .sl t1 w fun (ξ0 : Sl) =>
  call1 .bool PP F.impl_has #[Sl.v ξ0, Sl.v q_0, Sl.v Sl.nil] w fun (ρ1 : Bool) ω2 =>
  R (.returned (.bool ρ1)) ω2) := E_eq std q_0 t1 w R
theorem drawsOk : drawsOk PP cfg okD (codeOf Try.f89) = true := by kernel_rfl
theorem calls (q_0 : Sl) (t1 : Addr) {w : World} {R : Ending → World → Prop} (h : E std q_0 t1 w R) : Calls PP F.impl_avoidsL1 #[Sl.v q_0, .pointer (some t1)] w R :=
  calls_of noCount mixed drawOk Try.func89 rfl (c := cfg) (args := [Sl.v q_0, .pointer (some t1)]) rfl (Nat.le_of_ble_eq_true (by kernel_rfl)) drawsOk h
end impl_avoidsL1

namespace spec_InClass
@[reducible] def cfg : Cfg := ⟨16, [], [], [], [4], [], [62, 10, 22, 58, 24, 44, 18, 70, 43, 85, 25, 71, 59, 37, 63], [82, 113, 102, 38, 103, 26, 60]⟩
def E (pr : Prims) (list_0 : Sl) (p_1 : Sl) (w : World) (R : Ending → World → Prop) : Prop :=
  wpC pr PP cfg (DD pr) (codeOf Try.f104) (retQ Try.f104.results.toList R) (argE 0 [Sl.v list_0, Sl.v p_1]) w
theorem E_eq (pr : Prims) (list_0 : Sl) (p_1 : Sl) (w : World) (R : Ending → World → Prop) : E pr list_0 p_1 w R = (
  pr.call1 .bool PP F.spec_IsBasis #[Sl.v list_0] w fun (ρ0 : Bool) ω1 =>
  bif ρ0 then (
  pr.call1 .bool PP F.spec_IsPerm #[Sl.v p_1] ω1 fun (ρ2 : Bool) ω3 =>
  bif ρ2 then (
  pr.call1 .bool PP F.spec_l12Avoids #[Sl.v list_0, Sl.v p_1] ω3 fun (ρ4 : Bool) ω5 =>
  R (.returned (.bool ρ4)) ω5)
  else (
  R (.returned (.bool false)) ω3))
  else (
  R (.returned (.bool false)) ω1)) := by kernel_rfl
theorem E_s (list_0 : Sl) (p_1 : Sl) (w : World) (R : Ending → World → Prop) : E std list_0 p_1 w R = (
  call1 .bool PP F.spec_IsBasis #[Sl.v list_0] w fun (ρ0 : Bool) ω1 =>
  bif ρ0 then (
  call1 .bool PP F.spec_IsPerm #[Sl.v p_1] ω1 fun (ρ2 : Bool) ω3 =>
  bif ρ2 then (
  call1 .bool PP F.spec_l12Avoids #[Sl.v list_0, Sl.v p_1] ω3 fun (ρ4 : Bool) ω5 =>
  R (.returned (.bool ρ4)) ω5)
  else (
  R (.returned (.bool false)) ω3))
  else (
  R (.returned (.bool false)) ω1)) := E_eq std list_0 p_1 w R
theorem drawsOk : drawsOk PP cfg okD (codeOf Try.f104) = true := by kernel_rfl
theorem calls (list_0 : Sl) (p_1 : Sl) {w : World} {R : Ending → World → Prop} (h : E std list_0 p_1 w R) : Calls PP F.spec_InClass #[Sl.v list_0, Sl.v p_1] w R :=
  calls_of noCount mixed drawOk Try.func104 rfl (c := cfg) (args := [Sl.v list_0, Sl.v p_1]) rfl (Nat.le_of_ble_eq_true (by kernel_rfl)) drawsOk h
end spec_InClass

namespace impl_isSix
@[reducible] def cfg : Cfg := ⟨9, [], [], [], [2], [], [62, 10, 22, 58, 24, 44, 18, 70, 43, 85, 25, 71, 59, 37, 63], [82, 113, 102, 38, 103, 26, 60]⟩
def E (pr : Prims) (n_0 : Int) (w : World) (R : Ending → World → Prop) : Prop :=
  wpC pr PP cfg (DD pr) (codeOf Try.f38) (retQ Try.f38.results.toList R) (argE 0 [vI n_0]) w
theorem E_eq (pr : Prims) (n_0 : Int) (w : World) (R : Ending → World → Prop) : E pr n_0 w R = (
  bif decide (n_0 ≥ 0) then (
  R (.returned (.bool (decide (n_0 ≤ 6)))) w)
  else (
  R (.returned (.bool false)) w)) := by kernel_rfl
theorem E_s (n_0 : Int) (w : World) (R : Ending → World → Prop) : E std n_0 w R = (
  bif decide (n_0 ≥ 0) then (
  R (.returned (.bool (decide (n_0 ≤ 6)))) w)
  else (
  R (.returned (.bool false)) w)) := E_eq std n_0 w R
theorem drawsOk : drawsOk PP cfg okD (codeOf Try.f38) = true := by kernel_rfl
theorem calls (n_0 : Int) {w : World} {R : Ending → World → Prop} (h : E std n_0 w R) : Calls PP F.impl_isSix #[vI n_0] w R :=
  calls_of noCount mixed drawOk Try.func38 rfl (c := cfg) (args := [vI n_0]) rfl (Nat.le_of_ble_eq_true (by kernel_rfl)) drawsOk h
end impl_isSix

end Go.Proofs.Ytmhgjfahgemblaa
