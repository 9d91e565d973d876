/- What each function does, step by step, written by a program (Gen.lean); each equation is checked by the kernel. -/
import Derived.Test.YtmhgjfahgemblaaHead
namespace Go.Proofs.Ytmhgjfahgemblaa
open Go
set_option linter.unusedVariables false
set_option maxRecDepth 100000
namespace laws_eqIntSS
@[reducible] def cfg : Cfg := ⟨27, [(4, [0, 1, 5])], [(1, [0, 1, 5]), (0, [])], [], [4], [6], [62, 10, 22, 58, 24, 44, 18, 70, 43, 85, 25, 71, 59, 37, 63], [82, 113, 102, 38, 103, 26, 60]⟩
def q0 (pr : Prims) (R : Ending → World → Prop) : Exit → Env → World → Prop := fun ex e w => normQ ex (fun e w => contE pr cfg (sub (codeOf Try.f22) [1, 1, 1]) (fun e w => wpC pr PP cfg (DD pr) (sub (codeOf Try.f22) [1, 1, 1]) (retQ Try.f22.results.toList R) e w) e w) (retQ Try.f22.results.toList R) e w
def q1 (pr : Prims) (R : Ending → World → Prop) : Exit → Env → World → Prop := fun ex e w => blockQ ex 0 (q0 pr R) e w
def emb4 (a_0 : Sl) (b_1 : Sl) (i_5 : Int) : Env := [(0, Sl.v a_0), (1, Sl.v b_1), (5, vI i_5)]
def x0 : Env := []
def S4 (pr : Prims) (Q : Exit → Env → World → Prop) : (Env → World → Prop) → Env → World → Prop := fun k e w => wpC pr PP cfg (DD pr) (sub (codeOf Try.f22) [1, 1, 0, 1, 0, 0]) (fun ex e w => normQ ex (fun e' w' => k (Env.restr e' (lookN cfg.loops (keyOf (sub (codeOf Try.f22) [1, 1, 0, 1, 0, 0])))) w') Q e w) e w
def B4 (pr : Prims) (a_0 : Sl) (b_1 : Sl) (i_5 : Int) (w : World) (k : Env → World → Prop) (Q : Exit → Env → World → Prop) : Prop :=
  S4 pr Q k (emb4 a_0 b_1 i_5) w
def L4 (pr : Prims) (a_0 : Sl) (b_1 : Sl) (i_5 : Int) (w : World) (Q : Exit → Env → World → Prop) : Prop :=
  pr.loop (S4 pr Q) (emb4 a_0 b_1 i_5) w
def E (pr : Prims) (a_0 : Sl) (b_1 : Sl) (w : World) (R : Ending → World → Prop) : Prop :=
  wpC pr PP cfg (DD pr) (codeOf Try.f22) (retQ Try.f22.results.toList R) (argE 0 [Sl.v a_0, Sl.v b_1]) w
theorem B4_eq (pr : Prims) (a_0 : Sl) (b_1 : Sl) (i_5 : Int) (w : World) (k : Env → World → Prop) (Q : Exit → Env → World → Prop) : B4 pr a_0 b_1 i_5 w k Q = (
  bif decide (i_5 < (a_0.n : Int)) then (
  pr.idxK 1 a_0 i_5 fun (a2 : Addr) =>
  pr.load1 .sl a2 w fun (ξ3 : Sl) =>
  pr.idxK 1 b_1 i_5 fun (a4 : Addr) =>
  pr.load1 .sl a4 w fun (ξ5 : Sl) =>
  pr.qcall1 .bool PP F.laws_eqIntS #[Sl.v ξ3, Sl.v ξ5] w fun (ρ6 : Bool) =>
  pr.drewAll w fun ω7 =>
  bif !ρ6 then (
  Q .ret [(4, .bool false)] ω7)
  else (
  k (emb4 a_0 b_1 (w64 (i_5 + 1))) ω7))
  else (
  Q (.exit 0) (x0) w)) := by kernel_rfl
theorem B4_s (a_0 : Sl) (b_1 : Sl) (i_5 : Int) (w : World) (k : Env → World → Prop) (Q : Exit → Env → World → Prop) : B4 std a_0 b_1 i_5 w k Q = (
  bif decide (i_5 < (a_0.n : Int)) then (
  idxK 1 a_0 i_5 fun (a2 : Addr) =>
  load1 .sl a2 w fun (ξ3 : Sl) =>
  idxK 1 b_1 i_5 fun (a4 : Addr) =>
  load1 .sl a4 w fun (ξ5 : Sl) =>
  qcall1 .bool PP F.laws_eqIntS #[Sl.v ξ3, Sl.v ξ5] w fun (ρ6 : Bool) =>
  drewAll w fun ω7 =>
  bif !ρ6 then (
  Q .ret [(4, .bool false)] ω7)
  else (
  k (emb4 a_0 b_1 (w64 (i_5 + 1))) ω7))
  else (
  Q (.exit 0) (x0) w)) := B4_eq std a_0 b_1 i_5 w k Q
theorem L4_rule (a_0 : Sl) (b_1 : Sl) (i_5 : Int) (w : World) (Q : Exit → Env → World → Prop) (I : Int → World → Prop) (μ : Int → World → Nat) (h0 : I i_5 w)
    (h : ∀ (i_5 : Int) (w' : World), I i_5 w' → B4 std a_0 b_1 i_5 w' (fun e2 w2 => ∃ i_5_n, e2 = emb4 a_0 b_1 i_5_n ∧ I i_5_n w2 ∧ μ i_5_n w2 < μ i_5 w') Q) :
    L4 std a_0 b_1 i_5 w Q := by
  unfold L4
  refine LoopE.intro (σ := Int) (step := S4 std Q) (fun s => emb4 a_0 b_1 s) (fun s w => I s w) (fun s w => μ s w) i_5 rfl h0 ?_
  intro s w' hI
  have h1 := h s w' hI
  unfold B4 at h1
  exact h1
theorem A4_0_eq (pr : Prims) (w : World) (R : Ending → World → Prop) : (q1 pr R) (.exit 0) (x0) w = (
  R (.returned (.bool true)) w) := by kernel_rfl
theorem A4_0_s (w : World) (R : Ending → World → Prop) : (q1 std R) (.exit 0) (x0) w = (
  R (.returned (.bool true)) w) := A4_0_eq std w R
theorem R4_eq (pr : Prims) (v4 : Value) (w : World) (R : Ending → World → Prop) : (q1 pr R) .ret [(4, v4)] w = (
  R (.returned (v4)) w) := by kernel_rfl
theorem R4_s (v4 : Value) (w : World) (R : Ending → World → Prop) : (q1 std R) .ret [(4, v4)] w = (
  R (.returned (v4)) w) := R4_eq std v4 w R
theorem E_eq (pr : Prims) (a_0 : Sl) (b_1 : Sl) (w : World) (R : Ending → World → Prop) : E pr a_0 b_1 w R = (
  bif (a_0.n : Int) != (b_1.n : Int) then (
  R (.returned (.bool false)) w)
  else (
  L4 pr a_0 b_1 0 w (q1 pr R))) := by kernel_rfl
theorem E_s (a_0 : Sl) (b_1 : Sl) (w : World) (R : Ending → World → Prop) : E std a_0 b_1 w R = (
  bif (a_0.n : Int) != (b_1.n : Int) then (
  R (.returned (.bool false)) w)
  else (
  L4 std a_0 b_1 0 w (q1 std R))) := E_eq std a_0 b_1 w R
theorem drawsOk : drawsOk PP cfg okD (codeOf Try.f22) = true := by kernel_rfl
theorem calls (a_0 : Sl) (b_1 : Sl) {w : World} {R : Ending → World → Prop} (h : E std a_0 b_1 w R) : Calls PP F.laws_eqIntSS #[Sl.v a_0, Sl.v b_1] w R :=
  calls_of noCount mixed drawOk Try.func22 rfl (c := cfg) (args := [Sl.v a_0, Sl.v b_1]) rfl (Nat.le_of_ble_eq_true (by kernel_rfl)) drawsOk h
end laws_eqIntSS

namespace laws_markIntSS
@[reducible] def cfg : Cfg := ⟨19, [(2, [0, 1, 5])], [(1, [0, 1, 5]), (0, [1])], [], [4], [], [62, 10, 22, 58, 24, 44, 18, 70, 43, 85, 25, 71, 59, 37, 63], [82, 113, 102, 38, 103, 26, 60]⟩
def q0 (pr : Prims) (R : Ending → World → Prop) : Exit → Env → World → Prop := fun ex e w => normQ ex (fun e w => contE pr cfg (sub (codeOf Try.f23) [1, 1]) (fun e w => wpC pr PP cfg (DD pr) (sub (codeOf Try.f23) [1, 1]) (retQ Try.f23.results.toList R) e w) e w) (retQ Try.f23.results.toList R) e w
def q1 (pr : Prims) (R : Ending → World → Prop) : Exit → Env → World → Prop := fun ex e w => blockQ ex 0 (q0 pr R) e w
def emb2 (a_0 : Sl) (k_1 : Int) (i_5 : Int) : Env := [(0, Sl.v a_0), (1, vI k_1), (5, vI i_5)]
def x0 (k_1 : Int) : Env := [(1, vI k_1)]
def S2 (pr : Prims) (Q : Exit → Env → World → Prop) : (Env → World → Prop) → Env → World → Prop := fun k e w => wpC pr PP cfg (DD pr) (sub (codeOf Try.f23) [1, 0, 1, 0, 0]) (fun ex e w => normQ ex (fun e' w' => k (Env.restr e' (lookN cfg.loops (keyOf (sub (codeOf Try.f23) [1, 0, 1, 0, 0])))) w') Q e w) e w
def B2 (pr : Prims) (a_0 : Sl) (k_1 : Int) (i_5 : Int) (w : World) (k : Env → World → Prop) (Q : Exit → Env → World → Prop) : Prop :=
  S2 pr Q k (emb2 a_0 k_1 i_5) w
def L2 (pr : Prims) (a_0 : Sl) (k_1 : Int) (i_5 : Int) (w : World) (Q : Exit → Env → World → Prop) : Prop :=
  pr.loop (S2 pr Q) (emb2 a_0 k_1 i_5) w
def E (pr : Prims) (a_0 : Sl) (k_1 : Int) (w : World) (R : Ending → World → Prop) : Prop :=
  wpC pr PP cfg (DD pr) (codeOf Try.f23) (retQ Try.f23.results.toList R) (argE 0 [Sl.v a_0, vI k_1]) w
theorem B2_eq (pr : Prims) (a_0 : Sl) (k_1 : Int) (i_5 : Int) (w : World) (k : Env → World → Prop) (Q : Exit → Env → World → Prop) : B2 pr a_0 k_1 i_5 w k Q = (
  bif decide (i_5 < (a_0.n : Int)) then (
  pr.idxK 1 a_0 i_5 fun (a2 : Addr) =>
  pr.load1 .sl a2 w fun (ξ3 : Sl) =>
  pr.call1 (.int .i64) PP F.laws_markIntS #[Sl.v ξ3, vI k_1] w fun (ρ4 : Int) ω5 =>
  k (emb2 a_0 ρ4 (w64 (i_5 + 1))) ω5)
  else (
  Q (.exit 0) (x0 k_1) w)) := by kernel_rfl
theorem B2_s (a_0 : Sl) (k_1 : Int) (i_5 : Int) (w : World) (k : Env → World → Prop) (Q : Exit → Env → World → Prop) : B2 std a_0 k_1 i_5 w k Q = (
  bif decide (i_5 < (a_0.n : Int)) then (
  idxK 1 a_0 i_5 fun (a2 : Addr) =>
  load1 .sl a2 w fun (ξ3 : Sl) =>
  call1 (.int .i64) PP F.laws_markIntS #[Sl.v ξ3, vI k_1] w fun (ρ4 : Int) ω5 =>
  k (emb2 a_0 ρ4 (w64 (i_5 + 1))) ω5)
  else (
  Q (.exit 0) (x0 k_1) w)) := B2_eq std a_0 k_1 i_5 w k Q
theorem L2_rule (a_0 : Sl) (k_1 : Int) (i_5 : Int) (w : World) (Q : Exit → Env → World → Prop) (I : Int → Int → World → Prop) (μ : Int → Int → World → Nat) (h0 : I k_1 i_5 w)
    (h : ∀ (k_1 : Int) (i_5 : Int) (w' : World), I k_1 i_5 w' → B2 std a_0 k_1 i_5 w' (fun e2 w2 => ∃ k_1_n i_5_n, e2 = emb2 a_0 k_1_n i_5_n ∧ I k_1_n i_5_n w2 ∧ μ k_1_n i_5_n w2 < μ k_1 i_5 w') Q) :
    L2 std a_0 k_1 i_5 w Q := by
  unfold L2
  refine LoopE.intro (σ := Int × Int) (step := S2 std Q) (fun s => emb2 a_0 s.1 s.2) (fun s w => I s.1 s.2 w) (fun s w => μ s.1 s.2 w) (k_1, i_5) rfl h0 ?_
  intro s w' hI
  have h1 := h s.1 s.2 w' hI
  unfold B2 at h1
  simp only [Prod.exists]
  exact h1
theorem A2_0_eq (pr : Prims) (k_1 : Int) (w : World) (R : Ending → World → Prop) : (q1 pr R) (.exit 0) (x0 k_1) w = (
  R (.returned (vI k_1)) w) := by kernel_rfl
theorem A2_0_s (k_1 : Int) (w : World) (R : Ending → World → Prop) : (q1 std R) (.exit 0) (x0 k_1) w = (
  R (.returned (vI k_1)) w) := A2_0_eq std k_1 w R
theorem E_eq (pr : Prims) (a_0 : Sl) (k_1 : Int) (w : World) (R : Ending → World → Prop) : E pr a_0 k_1 w R = (
  L2 pr a_0 k_1 0 w (q1 pr R)) := by kernel_rfl
theorem E_s (a_0 : Sl) (k_1 : Int) (w : World) (R : Ending → World → Prop) : E std a_0 k_1 w R = (
  L2 std a_0 k_1 0 w (q1 std R)) := E_eq std a_0 k_1 w R
theorem drawsOk : drawsOk PP cfg okD (codeOf Try.f23) = true := by kernel_rfl
theorem calls (a_0 : Sl) (k_1 : Int) {w : World} {R : Ending → World → Prop} (h : E std a_0 k_1 w R) : Calls PP F.laws_markIntSS #[Sl.v a_0, vI k_1] w R :=
  calls_of noCount mixed drawOk Try.func23 rfl (c := cfg) (args := [Sl.v a_0, vI k_1]) rfl (Nat.le_of_ble_eq_true (by kernel_rfl)) drawsOk h
end laws_markIntSS

namespace laws_heldIntSS
@[reducible] def cfg : Cfg := ⟨21, [(2, [0, 1, 5])], [(1, [0, 1, 5]), (0, [1])], [], [4], [], [62, 10, 22, 58, 24, 44, 18, 70, 43, 85, 25, 71, 59, 37, 63], [82, 113, 102, 38, 103, 26, 60]⟩
def q0 (pr : Prims) (R : Ending → World → Prop) : Exit → Env → World → Prop := fun ex e w => normQ ex (fun e w => contE pr cfg (sub (codeOf Try.f24) [1, 1]) (fun e w => wpC pr PP cfg (DD pr) (sub (codeOf Try.f24) [1, 1]) (retQ Try.f24.results.toList R) e w) e w) (retQ Try.f24.results.toList R) e w
def q1 (pr : Prims) (R : Ending → World → Prop) : Exit → Env → World → Prop := fun ex e w => blockQ ex 0 (q0 pr R) e w
def emb2 (a_0 : Sl) (k_1 : Int) (i_5 : Int) : Env := [(0, Sl.v a_0), (1, vI k_1), (5, vI i_5)]
def x0 (k_1 : Int) : Env := [(1, vI k_1)]
def S2 (pr : Prims) (Q : Exit → Env → World → Prop) : (Env → World → Prop) → Env → World → Prop := fun k e w => wpC pr PP cfg (DD pr) (sub (codeOf Try.f24) [1, 0, 1, 0, 0]) (fun ex e w => normQ ex (fun e' w' => k (Env.restr e' (lookN cfg.loops (keyOf (sub (codeOf Try.f24) [1, 0, 1, 0, 0])))) w') Q e w) e w
def B2 (pr : Prims) (a_0 : Sl) (k_1 : Int) (i_5 : Int) (w : World) (k : Env → World → Prop) (Q : Exit → Env → World → Prop) : Prop :=
  S2 pr Q k (emb2 a_0 k_1 i_5) w
def L2 (pr : Prims) (a_0 : Sl) (k_1 : Int) (i_5 : Int) (w : World) (Q : Exit → Env → World → Prop) : Prop :=
  pr.loop (S2 pr Q) (emb2 a_0 k_1 i_5) w
def E (pr : Prims) (a_0 : Sl) (k_1 : Int) (w : World) (R : Ending → World → Prop) : Prop :=
  wpC pr PP cfg (DD pr) (codeOf Try.f24) (retQ Try.f24.results.toList R) (argE 0 [Sl.v a_0, vI k_1]) w
theorem B2_eq (pr : Prims) (a_0 : Sl) (k_1 : Int) (i_5 : Int) (w : World) (k : Env → World → Prop) (Q : Exit → Env → World → Prop) : B2 pr a_0 k_1 i_5 w k Q = (
  bif decide (i_5 < (a_0.n : Int)) then (
  pr.idxK 1 a_0 i_5 fun (a2 : Addr) =>
  pr.load1 .sl a2 w fun (ξ3 : Sl) =>
  pr.call1 (.int .i64) PP F.laws_heldIntS #[Sl.v ξ3, vI k_1] w fun (ρ4 : Int) ω5 =>
  bif decide (ρ4 < 0) then (
  Q .ret [(4, vI (-1))] ω5)
  else (
  k (emb2 a_0 ρ4 (w64 (i_5 + 1))) ω5))
  else (
  Q (.exit 0) (x0 k_1) w)) := by kernel_rfl
theorem B2_s (a_0 : Sl) (k_1 : Int) (i_5 : Int) (w : World) (k : Env → World → Prop) (Q : Exit → Env → World → Prop) : B2 std a_0 k_1 i_5 w k Q = (
  bif decide (i_5 < (a_0.n : Int)) then (
  idxK 1 a_0 i_5 fun (a2 : Addr) =>
  load1 .sl a2 w fun (ξ3 : Sl) =>
  call1 (.int .i64) PP F.laws_heldIntS #[Sl.v ξ3, vI k_1] w fun (ρ4 : Int) ω5 =>
  bif decide (ρ4 < 0) then (
  Q .ret [(4, vI (-1))] ω5)
  else (
  k (emb2 a_0 ρ4 (w64 (i_5 + 1))) ω5))
  else (
  Q (.exit 0) (x0 k_1) w)) := B2_eq std a_0 k_1 i_5 w k Q
theorem L2_rule (a_0 : Sl) (k_1 : Int) (i_5 : Int) (w : World) (Q : Exit → Env → World → Prop) (I : Int → Int → World → Prop) (μ : Int → Int → World → Nat) (h0 : I k_1 i_5 w)
    (h : ∀ (k_1 : Int) (i_5 : Int) (w' : World), I k_1 i_5 w' → B2 std a_0 k_1 i_5 w' (fun e2 w2 => ∃ k_1_n i_5_n, e2 = emb2 a_0 k_1_n i_5_n ∧ I k_1_n i_5_n w2 ∧ μ k_1_n i_5_n w2 < μ k_1 i_5 w') Q) :
    L2 std a_0 k_1 i_5 w Q := by
  unfold L2
  refine LoopE.intro (σ := Int × Int) (step := S2 std Q) (fun s => emb2 a_0 s.1 s.2) (fun s w => I s.1 s.2 w) (fun s w => μ s.1 s.2 w) (k_1, i_5) rfl h0 ?_
  intro s w' hI
  have h1 := h s.1 s.2 w' hI
  unfold B2 at h1
  simp only [Prod.exists]
  exact h1
theorem A2_0_eq (pr : Prims) (k_1 : Int) (w : World) (R : Ending → World → Prop) : (q1 pr R) (.exit 0) (x0 k_1) w = (
  R (.returned (vI k_1)) w) := by kernel_rfl
theorem A2_0_s (k_1 : Int) (w : World) (R : Ending → World → Prop) : (q1 std R) (.exit 0) (x0 k_1) w = (
  R (.returned (vI k_1)) w) := A2_0_eq std k_1 w R
theorem R2_eq (pr : Prims) (v4 : Value) (w : World) (R : Ending → World → Prop) : (q1 pr R) .ret [(4, v4)] w = (
  R (.returned (v4)) w) := by kernel_rfl
theorem R2_s (v4 : Value) (w : World) (R : Ending → World → Prop) : (q1 std R) .ret [(4, v4)] w = (
  R (.returned (v4)) w) := R2_eq std v4 w R
theorem E_eq (pr : Prims) (a_0 : Sl) (k_1 : Int) (w : World) (R : Ending → World → Prop) : E pr a_0 k_1 w R = (
  L2 pr a_0 k_1 0 w (q1 pr R)) := by kernel_rfl
theorem E_s (a_0 : Sl) (k_1 : Int) (w : World) (R : Ending → World → Prop) : E std a_0 k_1 w R = (
  L2 std a_0 k_1 0 w (q1 std R)) := E_eq std a_0 k_1 w R
theorem drawsOk : drawsOk PP cfg okD (codeOf Try.f24) = true := by kernel_rfl
theorem calls (a_0 : Sl) (k_1 : Int) {w : World} {R : Ending → World → Prop} (h : E std a_0 k_1 w R) : Calls PP F.laws_heldIntSS #[Sl.v a_0, vI k_1] w R :=
  calls_of noCount mixed drawOk Try.func24 rfl (c := cfg) (args := [Sl.v a_0, vI k_1]) rfl (Nat.le_of_ble_eq_true (by kernel_rfl)) drawsOk h
end laws_heldIntSS

end Go.Proofs.Ytmhgjfahgemblaa
